/-
  Walks of package mosaic: messages are put and offered.
  Walks of package mosaic: Offer.
  slices.pdqsortCmpFunc at keys of messages, laid in plain words.
  Walks of package fold: sets of speeds.
  slices.SortFunc on a slice of spans that the call owns: what is laid, and the closure that compares.
  Keys of messages: the closure that compares; slices.SortFunc on them.
  Walks: the keys of a map, the values of a slice, one behind the other.
  Walks: the keys of a node, collected.
  Walks of package mosaic: all messages of a node.
  maps.Clone at what a node keeps, and at what it has looked up, laid in plain words.
  Walks of package mosaic: nodes are copied and moved.
  Walks of package mosaic: nodes are merged.
  Rain, the plain law: tables are monotone, and so is each step from a measured power to a rate.
  What is in the way of a beam: the plain law.
  slices.Sort on a slice of ints that the call owns.
  slices.Repeat at a list of one number.
  The parts of a set of pixels, by the program.
  Areas: plain.
-/
import Derived.Test.YtffbohecdocajaaGreatKNT08
import Derived.Shelf.SlLaysF0
import Derived.Test.YtffbohecdocajaaGreatProg
import Derived.Shelf.GgSortFunc.InsertionK
import Derived.Shelf.SlSortCmp.WholeK
import Derived.Shelf.SlSortCmp.NoneTotal
import Derived.Lib.Walk
import Derived.LoopN
import Derived.Lib.Hide
import Derived.Deep.RegionHeld3
import Derived.Shelf.SlMaps.Clone

set_option linter.unusedSimpArgs false
namespace Go.Proofs.YtffbohecdocajaaGreat
open Go.SL Go.Proofs Go.Pulse
set_option linter.unusedVariables false

theorem A141 : IsAgg Tryz.prog 141 4 := ⟨⟨_, Tryz.underlying141, rfl⟩, by kernel_rfl⟩
theorem C94 : IsFn Tryz.prog 94 := ⟨_, Tryz.func94, by decide, rfl⟩
theorem C166 : IsFn Tryz.prog 166 := ⟨_, Tryz.func166, by decide, rfl⟩
theorem C80 : IsFn Tryz.prog 80 := ⟨_, Tryz.func80, by decide, rfl⟩
theorem Z45 : ZeroOf Tryz.prog 45 (.slice none 0 0) := by unfold ZeroOf; kernel_rfl
theorem C165 : IsFn Tryz.prog 165 := ⟨_, Tryz.func165, by decide, rfl⟩
theorem F277_4 : FieldAt Tryz.prog 277 4 12 := ⟨_,_, Tryz.underlying277, rfl, rfl, 0, by kernel_rfl⟩


theorem bag_one {α : Type} {f : α → Res} {β : Bs} {L : List Res} {w : World} {a : α} {l : List α} (h : St β (f a :: bagD (l.map f) :: L) w) : St β (bagD ((a :: l).map f) :: L) w := St.unfocus (A := []) (B := l.map f) h
theorem Insert_l (l : List VY) (x : VY) (i : Nat) (p : Option Addr) (cap bv : Nat) (w : World) (hi : i ≤ l.length) (hn : l.length < 100000) (hh : Has w [own 45 1 p cap (l.map vC)]) (hv : ∀ L w2, St ⟨w, fpL [own 45 1 p cap (l.map vC)]⟩ L w2 → w2.heap[bv]? = some (.cells #[.slice x.p x.v.length x.c] 45 (0,0))) (hne : p ≠ none → bv ≠ pb p) :
  Calls Tryz.prog 165 #[.slice p l.length cap, .int .i64 (i : Nat), .slice (some ⟨bv, 0, none⟩) 1 1] w fun e w' => ∃ y : Option Addr × Nat, True ∧ e = .returned (.slice y.1 (l.take i ++ x :: l.drop i).length y.2) ∧ St ⟨w, fpL [own 45 1 p cap (l.map vC)]⟩ [own 45 1 y.1 y.2 ((l.take i ++ x :: l.drop i).map vC)] w' := by
  have e : (l.take i ++ x :: l.drop i).length = l.length + 1 := by rw [List.length_append, List.length_cons, List.length_take, List.length_drop]; omega
  rw [e]
  exact Insert_c l x i p cap bv w hi hn hh hv hne

set_option maxRecDepth 20000 in
set_option maxHeartbeats 2000000 in
theorem put_c (bn : Nat) (q : NdQ) (c : Nat) (S : KeyM → List (List Span)) (M : KeyM → Option TY) (ts : List TY) (vs : List VY) (k : KeyM) (v : List Span) (pv : Option Addr) (cv : Nat) (w : World) (hN : NdK S M ts vs) (hn : (S k).length ≤ 1000) (hc : c ≤ 1000000) (hvl : v.length ≤ 36) (hh : Has w [ndB bn q c, mapR keyV tV q.km M, bagD (ts.map tOwn), bagD (vs.map vOwn)]) (hpv : ∀ L w2, St ⟨w, fpL [ndB bn q c, mapR keyV tV q.km M, bagD (ts.map tOwn), bagD (vs.map vOwn)]⟩ L w2 → Spans w2 pv v) :
  Calls Tryz.prog 95 #[.pointer (some ⟨bn, 0, none⟩), .agg (mgC k v pv cv).toArray] w fun e w' => ∃ y : TY × VY, (y.2.v = v ∧ y.1.l = ((M k).getD dTY).l.take (posV (S k) v) ++ y.2 :: ((M k).getD dTY).l.drop (posV (S k) v)) ∧ e = .returned (.tuple #[]) ∧ St ⟨w, fpL [ndB bn q c, mapR keyV tV q.km M, bagD (ts.map tOwn), bagD (vs.map vOwn)]⟩ [ndB bn q (c + 1), mapR keyV tV q.km (updG M k y.1), bagD ((y.1 :: ts).map tOwn), bagD ((y.2 :: vs).map vOwn)] w' := by
  have hg := hN.get k
  have hln := lk_get hN k 1000 hn
  refine enterO (vs := [_,_]) (env := [(0,_), (1,_)]) hh.enter Tryz.func95 rfl rfl rfl rfl ?_
  refine VC.seq ?_
  refine VC.reg (VO.h rfl<|HO.box (C := #[_,_,_,_]) rfl rfl fun b5 => VO.nil ?_)
  refine VE.seqN ?_
  refine VC.seq ?_
  refine VC.reg (VO.l (LO.mv (.r rfl)) rfl<|VO.l (LO.lda (vs := [_,_,_,_]) A141 (.r rfl) (fun _ hw => cells_at hw 0 rfl ⟨_, rfl⟩) rfl) rfl<|VO.l (LO.call (xs := [_,_]) (vs := [_,_]) C94 ⟨(.r rfl), (.r rfl), trivial⟩ (fun w hw => place_c bn q c S M ts vs k v pv cv w hN hn hvl (NdW.of hw 1 2 3 4 rfl rfl rfl rfl) (hpv _ _ hw))) rfl<|VO.l (LO.mv (.r rfl)) rfl<|VO.l (LO.ex (.r rfl) rfl) rfl<|VO.l (LO.ex (.r rfl) rfl) rfl<|VO.l (LO.as (.r rfl)) rfl<|VO.l (LO.as (.r rfl)) rfl<|VO.nil ?_)
  refine VE.seqN ?_
  refine VC.seq ?_
  refine VC.drawH [[0,1,2,3,4], [0,1,2,3,4], [0,1,2,3,4], [0,1,2,3,4], [0,1,2,3,4], [0,1,3,4]] [some 4, some 4, some 4, some 4, some 4, some 4, some 0, some 0, some 0, some 0, some 0, some 0, some 0, none, some 3, some 1, some 1, none, none, none, none] mixed (by kernel_rfl) rfl (LX.l (fun _ hJ => LO.mv (.r rfl)) rfl<|LX.l (fun _ hJ => LO.nc (.r rfl)) rfl<|LX.l (fun _ hJ => LO.fa (r := 11) F277_3 (.r rfl) rfl) rfl<|LX.l (fun _ hJ => LO.ld O274 (.r rfl) (fun _ hw => cells_at (hJ _ hw) 1 rfl ⟨_, rfl⟩)) rfl<|LX.l (fun _ hJ => LO.fa (r := 0) F141_0 (.r rfl) rfl) rfl<|LX.l (fun _ hJ => LO.lda (vs := [_,_,_]) A139 (.r rfl) (fun _ hw => cells_at (hJ _ hw) 0 rfl ⟨_, rfl⟩) rfl) rfl<|LX.l (fun _ hJ => LO.mv (.r rfl)) rfl<|LX.l (fun _ hJ => LO.nc (.r rfl)) rfl<|LX.l (fun _ hJ => LO.fa (r := 11) F277_3 (.r rfl) rfl) rfl<|LX.l (fun _ hJ => LO.ld O274 (.r rfl) (fun _ hw => cells_at (hJ _ hw) 1 rfl ⟨_, rfl⟩)) rfl<|LX.l (fun _ hJ => LO.fa (r := 0) F141_0 (.r rfl) rfl) rfl<|LX.l (fun _ hJ => LO.lda (vs := [_,_,_]) A139 (.r rfl) (fun _ hw => cells_at (hJ _ hw) 0 rfl ⟨_, rfl⟩) rfl) rfl<|LX.l (fun _ hJ => LO.lkG1 (n := k) map274 (.r rfl) (.r rfl) (fun w hw => St.inv (hJ _ hw) 2 _ rfl)) rfl<|LX.s<|LX.l (fun _ hJ => LO.mv (.r rfl)) rfl<|LX.l (fun _ hJ => LO.fa (r := 3) F141_1 (.r rfl) rfl) rfl<|LX.l (fun _ hJ => LO.ld O45 (.r rfl) (fun _ hw => cells_at (hJ _ hw) 0 rfl ⟨_, rfl⟩)) rfl<|LX.s<|LX.s<|LX.s<|LX.s<|LX.nil) (HX.s<|HX.s<|HX.s<|HX.s<|HX.s<|HX.s<|HX.s<|HX.s<|HX.s<|HX.s<|HX.s<|HX.s<|HX.s<|HX.h rfl<|HO.callx (xs := [_]) (vs := [_]) C166 ⟨(.r rfl), trivial⟩ (fun w hw => CloneV_c ((M k).getD dTY).l ((M k).getD dTY).p ((M k).getD dTY).c w (by omega) ((NdW.of hw 1 2 3 4 rfl rfl rfl rfl).row hN k).1) fun yc _ => ⟨fun _ hw => hw.sel [1,2,3,4,5] rfl, HX.s<|HX.s<|HX.s<|HX.h rfl<|HO.callx (xs := [_]) (vs := [_]) C80 ⟨(.r rfl), trivial⟩ (fun w hw => CloneSp_c v pv cv w (by omega) (hpv _ _ hw)) fun ys _ => ⟨fun _ hw => hw.sel [2,3,4,5,6] rfl, HX.h rfl<|HO.bs (ps := [(_,_)]) (vs := [(_,_)]) (Z := [_]) (C := [_]) S383 Z45 N45 ⟨(.r rfl), trivial⟩ rfl rfl rfl rfl ⟨_, [_], [_], rfl, rfl, rfl, rfl, rfl⟩ fun b12 => ⟨fun _ hw => hw.sel [3,4,5,6,7] rfl, HX.h rfl<|HO.callP (first := []) (cap := []) (xs := [_,_,_]) (vs := [_,_,_]) [_] [_,_,_,_,_,_,_] (selK (L1 := [_] ++ [_,_,_,_,_,_,_]) [2,0,1,3,4,5,6,7] rfl rfl) (.r rfl) C165 ⟨(.r rfl), (.r rfl), (.r rfl), trivial⟩ (fun w hw hh => Insert_l ((M k).getD dTY).l (⟨v, ys.1, ys.2⟩ : VY) (posV (S k) v) yc.1 yc.2 b12 w (by have := posV_le (l := S k) (v := v); have e := congrArg List.length hg; rw [List.length_map] at e; omega) (by omega) hh (fun L w2 h2 => (St.rightOf (St.fz (selK (L1 := [_] ++ [_,_,_,_,_,_,_]) [2,0,1,3,4,5,6,7] rfl rfl w hw) h2)).inv 0 _ rfl) (fun hp e => hw.dis 2 0 _ _ (by decide) rfl rfl (pb yc.1) ⟨hp, rfl⟩ e.symm)) fun yi _ => ⟨fun _ hw => hw.sel [3,4,5,6,7] rfl, HX.h0<|HO.mupG 5 (fun R => [_,_,_,_,_, R,_,_]) k (⟨(((M k).getD dTY).l.take (posV (S k) v) ++ (⟨v, ys.1, ys.2⟩ : VY) :: ((M k).getD dTY).l.drop (posV (S k) v)), yi.1, yi.2⟩ : TY) map274 (.r rfl) (.r rfl) (.r rfl) rfl (fun _ => rfl)<|⟨fun _ hw => hw.sel [3,4,6,7] rfl, HX.nil ?_⟩⟩⟩⟩⟩)
  refine VE.seqN ?_
  refine VC.reg (VO.l (LO.mv (.r rfl)) rfl<|VO.l (LO.nc (.r rfl)) rfl<|VO.l (LO.fa (r := 12) F277_4 (.r rfl) rfl) rfl<|VO.l (LO.ld O3 (.r rfl) (fun _ hw => cells_at hw 4 rfl ⟨_, rfl⟩)) rfl<|VO.l (LO.add (.r rfl) (.r rfl) (wi (by omega) (by omega))) rfl<|VO.l (LO.nc (.r rfl)) rfl<|VO.l (LO.fa (r := 12) F277_4 (.r rfl) rfl) rfl<|VO.h0<|HO.st 4 (vs := [_]) (C' := [_,_,_,_,_,_,_,_,_,_,_,_,_,_]) (L' := [_,_,_,_,_,_,_,_]) N3 rfl rfl rfl rfl rfl rfl rfl rfl<|VO.nil ?_)
  refine VE.resN (vs := []) rfl trivial (fun w hw => ?_)
  have hA := selK (L1 := [_,_,_,_,_,_]) [0,6,2,7,4,5] rfl rfl _ hw
  have hB2 := (bag_one (f := tOwn) (a := (⟨(((M k).getD dTY).l.take (posV (S k) v) ++ (⟨v, ys.1, ys.2⟩ : VY) :: ((M k).getD dTY).l.drop (posV (S k) v)), yi.1, yi.2⟩ : TY)) (l := ts) hA).sel [1,2,0,3,4] rfl
  have hC2 := (bag_one (f := vOwn) (a := (⟨v, ys.1, ys.2⟩ : VY)) (l := vs) hB2).sel [2,3,1,0] rfl
  exact ⟨((⟨(((M k).getD dTY).l.take (posV (S k) v) ++ (⟨v, ys.1, ys.2⟩ : VY) :: ((M k).getD dTY).l.drop (posV (S k) v)), yi.1, yi.2⟩ : TY), (⟨v, ys.1, ys.2⟩ : VY)), ⟨rfl, rfl⟩, rfl, hC2⟩

end Go.Proofs.YtffbohecdocajaaGreat

namespace Go.Proofs.YtffbohecdocajaaGreat
open Go.SL Go.Proofs Go.Pulse
set_option linter.unusedVariables false

theorem C92 : IsFn Tryz.prog 92 := ⟨_, Tryz.func92, by decide, rfl⟩
theorem C93 : IsFn Tryz.prog 93 := ⟨_, Tryz.func93, by decide, rfl⟩
theorem F277_2 : FieldAt Tryz.prog 277 2 10 := ⟨_,_, Tryz.underlying277, rfl, rfl, 0, by kernel_rfl⟩
theorem C95 : IsFn Tryz.prog 95 := ⟨_, Tryz.func95, by decide, rfl⟩


/-- A node's state. -/
structure NdS (S : KeyM → List (List Span)) (M : KeyM → Option TY) (ts : List TY) (vs : List VY) (c : Nat) : Prop where
  k : NdK S M ts vs
  n : NdN S c
abbrev NdY := (KeyM → Option TY) × List TY × List VY × Nat
/-- What comes of a message that is offered. -/
structure OfP (S : KeyM → List (List Span)) (ts : List TY) (vs : List VY) (c : Nat) (k : KeyM) (v : List Span) (y : NdY) : Prop where
  s : NdS (addS S k v) y.1 y.2.1 y.2.2.1 y.2.2.2
  t : ∀ e, e ∈ ts → e ∈ y.2.1
  v : ∀ e, e ∈ vs → e ∈ y.2.2.1
  c : y.2.2.2 ≤ c + 1
theorem NdS.has {S : KeyM → List (List Span)} {M : KeyM → Option TY} {ts : List TY} {vs : List VY} {c : Nat} {k : KeyM} {v : List Span} (h : NdS S M ts vs c) (hv : v ∈ S k) : OfP S ts vs c k v (M, ts, vs, c) :=
  ⟨by unfold addS; rw [if_pos hv]; exact h, fun _ h => h, fun _ h => h, Nat.le_succ _⟩
theorem NdS.put {S : KeyM → List (List Span)} {M : KeyM → Option TY} {ts : List TY} {vs : List VY} {c : Nat} {k : KeyM} {v : List Span} {e : TY} {vy : VY} (h : NdS S M ts vs c) (hv : ¬ v ∈ S k) (hl : v.length ≤ 36) (hvy : vy.v = v) (he : e.l = ((M k).getD dTY).l.take (posV (S k) v) ++ vy :: ((M k).getD dTY).l.drop (posV (S k) v)) : OfP S ts vs c k v (updG M k e, e :: ts, vy :: vs, c + 1) := by
  subst hvy
  exact ⟨by unfold addS; rw [if_neg hv]; exact ⟨h.k.put hv hl he, h.n.put hv⟩, fun _ h => List.mem_cons_of_mem _ h, fun _ h => List.mem_cons_of_mem _ h, Nat.le_refl _⟩

set_option maxRecDepth 20000 in
set_option maxHeartbeats 2000000 in
theorem Offer_c (bn : Nat) (q : NdQ) (c : Nat) (S : KeyM → List (List Span)) (M : KeyM → Option TY) (ts : List TY) (vs : List VY) (R : Fin 3 → Option (Option RdM)) (k : KeyM) (v : List Span) (pv : Option Addr) (cv : Nat) (w : World) (hS : NdS S M ts vs c) (hc : c < 256) (hm : MgOk q R k v) (hh : Has w [ndB bn q c, mapR keyV tV q.km M, bagD (ts.map tOwn), bagD (vs.map vOwn)]) (hpv : ∀ L w2, St ⟨w, fpL [ndB bn q c, mapR keyV tV q.km M, bagD (ts.map tOwn), bagD (vs.map vOwn)]⟩ L w2 → Spans w2 pv v) (hR : ∀ L w2, St ⟨w, fpL [ndB bn q c, mapR keyV tV q.km M, bagD (ts.map tOwn), bagD (vs.map vOwn)]⟩ L w2 → (mapR nmV rdV q.rm R).inv w2) :
  Calls Tryz.prog 36 #[.pointer (some ⟨bn, 0, none⟩), .agg (mgC k v pv cv).toArray] w fun e w' => ∃ y : NdY, OfP S ts vs c k v y ∧ e = .returned (.tuple #[.bool (!decide (v ∈ S k)), .int .i64 0]) ∧ St ⟨w, fpL [ndB bn q c, mapR keyV tV q.km M, bagD (ts.map tOwn), bagD (vs.map vOwn)]⟩ [ndB bn q y.2.2.2, mapR keyV tV q.km y.1, bagD (y.2.1.map tOwn), bagD (y.2.2.1.map vOwn)] w' := by
  have hsn := hS.n.len (hS.k.s k)
  refine enterO (vs := [_,_]) (env := [(0,_), (1,_)]) hh.enter Tryz.func36 rfl rfl rfl rfl ?_
  refine VC.seq ?_
  refine VC.reg (VO.h rfl<|HO.box (C := #[_,_,_,_]) rfl rfl fun b5 => VO.l (LO.as (.r rfl)) rfl<|VO.l (LO.as (.r rfl)) rfl<|VO.nil ?_)
  refine VE.seqN ?_
  refine VC.seq ?_
  refine VC.seq ?_
  refine VC.reg (VO.l (LO.mv (.r rfl)) rfl<|VO.l (LO.call (xs := [_]) (vs := [_]) C92 ⟨(.r rfl), trivial⟩ (fun w hw => nothing_c bn q c w (cells_inv (hw.inv 1 _ rfl)))) rfl<|VO.nil ?_)
  refine VE.seqN ?_
  refine VC.cond rfl (fun h10 => ?_) (fun h10 => ?_)
  ·
    (exfalso; (simp at h10))
  ·
    refine VC.skip (VE.seqN ?_)
    refine VC.seq ?_
    refine VC.seq ?_
    refine VC.reg (VO.l (LO.mv (.r rfl)) rfl<|VO.l (LO.lda (vs := [_,_,_,_]) A141 (.r rfl) (fun _ hw => cells_at hw 0 rfl ⟨_, rfl⟩) rfl) rfl<|VO.l (LO.call (xs := [_,_]) (vs := [_,_]) C93 ⟨(.r rfl), (.r rfl), trivial⟩ (fun w hw => wrong_c bn q c R k v pv cv w hm (cells_inv (hw.inv 1 _ rfl)) (hR _ _ hw) (hpv _ _ hw))) rfl<|VO.l (LO.as (.r rfl)) rfl<|VO.nil ?_)
    refine VE.seqN ?_
    refine VC.seq ?_
    refine VC.reg (VO.l (LO.mv (.r rfl)) rfl<|VO.l (LO.ne (.r rfl) (.r rfl)) rfl<|VO.nil ?_)
    refine VE.seqN ?_
    refine VC.cond rfl (fun h15 => ?_) (fun h15 => ?_)
    ·
      (exfalso; exact h15 rfl)
    ·
      refine VC.skip (VE.seqN ?_)
      refine VC.seq ?_
      refine VC.seq ?_
      refine VC.draw mixed (LL.l (LO.fa (r := 0) F141_0 (.r rfl) rfl) rfl<|LL.l (LO.fa (r := 2) F139_2 (.r rfl) rfl) rfl<|LL.l (LO.ld O3 (.r rfl) (fun _ hw => cells_at hw 0 rfl ⟨_, rfl⟩)) rfl<|LL.l (LO.mv (.r rfl)) rfl<|LL.l (LO.nc (.r rfl)) rfl<|LL.l (LO.fa (r := 10) F277_2 (.r rfl) rfl) rfl<|LL.l (LO.ld O3 (.r rfl) (fun _ hw => cells_at hw 1 rfl ⟨_, rfl⟩)) rfl<|LL.l (LO.lt (.r rfl) (.r rfl)) rfl<|LL.nil) (by kernel_rfl) ?_
      refine VE.seqN ?_
      refine VC.cond rfl (fun h24 => ?_) (fun h24 => ?_)
      ·
        (exfalso; (have := hm.s; omega))
      ·
        refine VC.skip (VE.seqN ?_)
        refine VC.seq ?_
        refine VC.seq ?_
        refine VC.reg (VO.l (LO.mv (.r rfl)) rfl<|VO.l (LO.lda (vs := [_,_,_,_]) A141 (.r rfl) (fun _ hw => cells_at hw 0 rfl ⟨_, rfl⟩) rfl) rfl<|VO.l (LO.call (xs := [_,_]) (vs := [_,_]) C94 ⟨(.r rfl), (.r rfl), trivial⟩ (fun w hw => place_c bn q c S M ts vs k v pv cv w hS.k (by omega) hm.l (NdW.of hw 1 2 3 4 rfl rfl rfl rfl) (hpv _ _ hw))) rfl<|VO.l (LO.mv (.r rfl)) rfl<|VO.l (LO.ex (.r rfl) rfl) rfl<|VO.l (LO.ex (.r rfl) rfl) rfl<|VO.l (LO.as (.r rfl)) rfl<|VO.l (LO.as (.r rfl)) rfl<|VO.nil ?_)
        refine VE.seqN ?_
        refine VC.seq ?_
        refine VC.reg (VO.l (LO.mv (.r rfl)) rfl<|VO.nil ?_)
        refine VE.seqN ?_
        refine VC.cond rfl (fun h31 => ?_) (fun h31 => ?_)
        ·
          refine VC.seq ?_
          refine VC.reg (VO.l (LO.as (.r rfl)) rfl<|VO.l (LO.as (.r rfl)) rfl<|VO.nil ?_)
          refine VE.seqN ?_
          refine VC.ret (VE.thenR (VE.res (vs := [_,_]) rfl ⟨rfl, rfl, trivial⟩ (fun w hw => ?_)))
          exact ⟨(M, ts, vs, c), hS.has h31, (by rw [decide_eq_true h31]; rfl), selK (L1 := [_,_,_,_]) [1,2,3,4] rfl rfl _ hw⟩
        ·
          refine VC.skip (VE.seqN ?_)
          refine VC.seq ?_
          refine VC.seq ?_
          refine VC.reg (VO.l (LO.mv (.r rfl)) rfl<|VO.l (LO.nc (.r rfl)) rfl<|VO.l (LO.fa (r := 12) F277_4 (.r rfl) rfl) rfl<|VO.l (LO.ld O3 (.r rfl) (fun _ hw => cells_at hw 1 rfl ⟨_, rfl⟩)) rfl<|VO.l (LO.ge (.r rfl) (.r rfl)) rfl<|VO.nil ?_)
          refine VE.seqN ?_
          refine VC.cond rfl (fun h36 => ?_) (fun h36 => ?_)
          ·
            (exfalso; omega)
          ·
            refine VC.skip (VE.seqN ?_)
            refine VC.seq ?_
            refine VC.reg (VO.l (LO.mv (.r rfl)) rfl<|VO.l (LO.lda (vs := [_,_,_,_]) A141 (.r rfl) (fun _ hw => cells_at hw 0 rfl ⟨_, rfl⟩) rfl) rfl<|VO.h rfl<|HO.callP (first := []) (cap := []) (xs := [_,_]) (vs := [_,_]) [_,_,_,_] [_] (selK (L1 := [_,_,_,_] ++ [_]) [1,2,3,4,0] rfl rfl) (.r rfl) C95 ⟨(.r rfl), (.r rfl), trivial⟩ (fun w hw hh => put_c bn q c S M ts vs k v pv cv w hS.k (by omega) (by omega) hm.l hh (fun L w2 h2 => hpv _ _ ((St.fz (selK (L1 := [_,_,_,_] ++ [_]) [1,2,3,4,0] rfl rfl w hw) h2)))) fun yp hyp => VO.nil ?_)
            refine VE.seqN ?_
            refine VC.seq ?_
            refine VC.reg (VO.l (LO.as (.r rfl)) rfl<|VO.l (LO.as (.r rfl)) rfl<|VO.nil ?_)
            refine VE.seqN ?_
            refine VC.ret (VE.res (vs := [_,_]) rfl ⟨rfl, rfl, trivial⟩ (fun w hw => ?_))
            exact ⟨(updG M k yp.1, yp.1 :: ts, yp.2 :: vs, c + 1), hS.put h31 hm.l hyp.1 hyp.2, (by rw [decide_eq_false h31]; rfl), selK (L1 := [_,_,_,_]) [0,1,2,3] rfl rfl _ hw⟩

end Go.Proofs.YtffbohecdocajaaGreat

namespace Go.Proofs
open Go.Shelf
def Tryz.pdqCmpK_ren : Go.Shelf.Ren := ⟨fun | 14 => 304 | 20 => 309 | 21 => 310 | 22 => 311 | 23 => 312 | 24 => 313 | 25 => 314 | 26 => 315 | 27 => 316 | 46 => 317 | 47 => 279 | 48 => 280 | 49 => 318 | 50 => 319 | 15 => 196 | 57 => 320 | 28 => 250 | 29 => 251 | n => n, fun | 24 => 139 | 22 => 392 | 3 => 3 | 25 => 463 | 4 => 4 | 0 => 0 | 46 => 496 | 45 => 495 | 50 => 279 | 66 => 526 | 39 => 396 | 55 => 503 | 70 => 530 | 76 => 548 | 77 => 457 | 53 => 32 | 5 => 5 | 9 => 9 | n => n, fun | n => n⟩
theorem Tryz.pdqCmpK : Go.Proofs.SlLaysF0.n14 Tryz.prog Tryz.pdqCmpK_ren := {
  mixed := by kernel_rfl
  f14 := ⟨Tryz.f304.name, by decide, Tryz.func304.trans (congrArg some (by kernel_rfl))⟩
  f15 := Tryz.func196.trans (congrArg some (by kernel_rfl))
  f20 := ⟨Tryz.f309.name, by decide, Tryz.func309.trans (congrArg some (by kernel_rfl))⟩
  f21 := ⟨Tryz.f310.name, by decide, Tryz.func310.trans (congrArg some (by kernel_rfl))⟩
  f22 := ⟨Tryz.f311.name, by decide, Tryz.func311.trans (congrArg some (by kernel_rfl))⟩
  f23 := ⟨Tryz.f312.name, by decide, Tryz.func312.trans (congrArg some (by kernel_rfl))⟩
  f24 := ⟨Tryz.f313.name, by decide, Tryz.func313.trans (congrArg some (by kernel_rfl))⟩
  f25 := ⟨Tryz.f314.name, by decide, Tryz.func314.trans (congrArg some (by kernel_rfl))⟩
  f26 := ⟨Tryz.f315.name, by decide, Tryz.func315.trans (congrArg some (by kernel_rfl))⟩
  f27 := ⟨Tryz.f316.name, by decide, Tryz.func316.trans (congrArg some (by kernel_rfl))⟩
  f28 := Tryz.func250.trans (congrArg some (by kernel_rfl))
  f29 := Tryz.func251.trans (congrArg some (by kernel_rfl))
  f46 := ⟨Tryz.f317.name, by decide, Tryz.func317.trans (congrArg some (by kernel_rfl))⟩
  f47 := Tryz.func279.trans (congrArg some (by kernel_rfl))
  f48 := Tryz.func280.trans (congrArg some (by kernel_rfl))
  f49 := ⟨Tryz.f318.name, by decide, Tryz.func318.trans (congrArg some (by kernel_rfl))⟩
  f50 := ⟨Tryz.f319.name, by decide, Tryz.func319.trans (congrArg some (by kernel_rfl))⟩
  f57 := ⟨Tryz.f320.name, by decide, Tryz.func320.trans (congrArg some (by kernel_rfl))⟩
  t0 := Tryz.underlying0
  a0 := Tryz.isAgg0
  z0 := Tryz.sizeOf0
  v0 := Tryz.zeroValue0
  t3 := Tryz.underlying3
  a3 := Tryz.isAgg3
  z3 := Tryz.sizeOf3
  v3 := Tryz.zeroValue3
  t4 := Tryz.underlying4
  a4 := Tryz.isAgg4
  z4 := Tryz.sizeOf4
  v4 := Tryz.zeroValue4
  t5 := Tryz.underlying5
  a5 := Tryz.isAgg5
  z5 := Tryz.sizeOf5
  v5 := Tryz.zeroValue5
  t9 := Tryz.underlying9
  a9 := Tryz.isAgg9
  z9 := Tryz.sizeOf9
  v9 := Tryz.zeroValue9
  t22 := Tryz.underlying392
  a22 := Tryz.isAgg392
  z22 := Tryz.sizeOf392
  v22 := Tryz.zeroValue392
  t25 := Tryz.underlying463
  a25 := Tryz.isAgg463
  z25 := Tryz.sizeOf463
  v25 := Tryz.zeroValue463
  t39 := Tryz.underlying396
  a39 := Tryz.isAgg396
  z39 := Tryz.sizeOf396
  v39 := Tryz.zeroValue396
  t45 := Tryz.underlying495
  a45 := Tryz.isAgg495
  z45 := Tryz.sizeOf495
  v45 := Tryz.zeroValue495
  t46 := Tryz.underlying496
  a46 := Tryz.isAgg496
  z46 := Tryz.sizeOf496
  v46 := Tryz.zeroValue496
  t50 := Tryz.underlying279
  a50 := Tryz.isAgg279
  z50 := Tryz.sizeOf279
  v50 := Tryz.zeroValue279
  t53 := Tryz.underlying32
  a53 := Tryz.isAgg32
  z53 := Tryz.sizeOf32
  v53 := Tryz.zeroValue32
  t55 := Tryz.underlying503
  a55 := Tryz.isAgg503
  z55 := Tryz.sizeOf503
  v55 := Tryz.zeroValue503
  t66 := Tryz.underlying526
  a66 := Tryz.isAgg526
  z66 := Tryz.sizeOf526
  v66 := Tryz.zeroValue526
  t70 := Tryz.underlying530
  a70 := Tryz.isAgg530
  z70 := Tryz.sizeOf530
  v70 := Tryz.zeroValue530
  t76 := Tryz.underlying548
  a76 := Tryz.isAgg548
  z76 := Tryz.sizeOf548
  v76 := Tryz.zeroValue548
  t77 := Tryz.underlying457
  a77 := Tryz.isAgg457
  z77 := Tryz.sizeOf457
  v77 := Tryz.zeroValue457 }
end Go.Proofs

namespace Go.Proofs.YtffbohecdocajaaGreat
open Go.SL Go.Proofs Go.Pulse
set_option linter.unusedVariables false

theorem LO.eqSl {P : Program} {β : Bs} {env : Env} {L : List Res} {d : Option Nat} {ty : TypeId} {pos : String} {aft : Array Edge} {g : Option (Nat × Bool)} {T T2 : TypeId} {x y : Operand} {p : Option Addr} {n c : Nat} (hT : ∃ E, P.underlying T = some (.slice E)) (hx : OV env x (.slice p n c)) (hy : OV env y (.slice none 0 0)) :
    LO P β env L ⟨d, .binOp .eql T x y T2, ty, pos, aft, g⟩ (.bool p.isNone) :=
  .of_run fun a w h hw => ⟨w, by
    obtain ⟨E, hE⟩ := hT
    have key : (Op.equalIn Op.maxDepth T (.slice p n c) (.slice none 0 0)).run P w = .ok p.isNone w := by
      show (Op.equalIn (9999 + 1) T (.slice p n c) (.slice none 0 0)).run P w = _
      unfold Op.equalIn
      rw [Sem.run_bind, run_underlying hE]
      cases p <;> rfl
    simp only [execOp, h x (by simp [Op.operands]) _ hx, h y (by simp [Op.operands]) _ hy, eqGuard, binOp, Op.equal, Sem.run_bind, Sem.run_pure, Result.andThen_ok, key, Bool.not_true, Bool.false_eq_true, if_false], hw⟩
end Go.Proofs.YtffbohecdocajaaGreat

namespace Go.SL
set_option linter.unusedVariables false
set_option linter.unusedSimpArgs false
open Go.RowKit Go.Sort
/-- The row of an owned slice of elements of some cells is turned in place; behind it new blocks may lie. -/
theorem own_putF {w w' : World} {E z cap b n : Nat} {L M : List (List Value)} {os : Array Obj} (h : (own E z (some ⟨b, 0, none⟩) cap L).inv w) (hb : b < w.heap.size) (hm : M.length = L.length) (hf : M.flatten.length = L.flatten.length) (hz : ∀ r ∈ M, r.length = z)
    (hw : w' = grow (putRow id (Sort.ahead w n) b 0 M.flatten.toArray) os) : St ⟨w, (own E z (some ⟨b, 0, none⟩) cap L).fp⟩ [own E z (some ⟨b, 0, none⟩) cap M] w' := by
  obtain ⟨h1, h2, h3, h4⟩ := h
  obtain ⟨g1, g2, C, spare, g3, g4, g5⟩ := h4 _ rfl
  have hsz : (putRow id (Sort.ahead w n) b 0 M.flatten.toArray).heap.size = w.heap.size := by rw [size_putRow]; rfl
  have hlen : L.flatten.length ≤ C.size := by
    have : C.toList.length = C.size := Array.length_toList
    rw [← this, g4]; simp
  have hnew : w'.heap[b]? = some (.cells (putCells id 0 M.flatten.toArray C) E (0,0)) := by
    rw [hw, heap_grow_old _ _ (by rw [hsz]; exact hb)]
    have : (Sort.ahead w n).heap = w.heap := rfl
    simp only [putRow, mapBlock, this, Array.getElem?_modify, g3, if_true, Option.map_some, onCells]
  have hC : (putCells id 0 M.flatten.toArray C).toList = M.flatten ++ spare := by
    refine List.ext_getElem? fun k => ?_
    have e1 : (putCells id 0 M.flatten.toArray C).toList[k]? = C.toList[k]?.map fun x => if k < M.flatten.length then (M.flatten.toArray[k]!) else x := by
      unfold putCells
      rw [Array.getElem?_toList, Array.getElem?_mapIdx, ← Array.getElem?_toList]
      simp
    rw [e1, g4]
    by_cases hk : k < M.flatten.length
    · rw [List.getElem?_append_left (by omega), List.getElem?_append_left hk, List.getElem?_eq_getElem hk, List.getElem?_eq_getElem (show k < L.flatten.length by omega)]
      simp only [Option.map_some, if_pos hk]
      rw [getElem!_pos _ _ (by simpa using hk)]
      simp
    · rw [List.getElem?_append_right (by omega), List.getElem?_append_right (by omega)]
      rw [hf] at hk ⊢
      cases spare[k - L.flatten.length]? with
      | none => rfl
      | some v => simp only [Option.map_some]; rw [if_neg hk]
  have hfr : ∀ k, k < w.heap.size → k ≠ b → w'.heap[k]? = w.heap[k]? := by
    intro k hk hne
    rw [hw, heap_grow_old _ _ (by rw [hsz]; exact hk)]
    have : (Sort.ahead w n).heap = w.heap := rfl
    simp only [putRow, mapBlock, this, Array.getElem?_modify]
    rw [if_neg (Ne.symm hne)]
  refine ⟨by rw [hw]; rfl, by rw [hw]; rfl, by rw [hw]; rfl, by rw [hw, size_grow, hsz]; exact Nat.le_add_right _ _, ?_, ?_, ?_, ?_⟩
  · intro k hk hO
    exact hfr k hk (fun e => hO ⟨by simp, e⟩)
  · intro i r hr
    cases i with
    | zero =>
      cases hr
      refine ⟨by rw [hm]; exact h1, hz, fun q => (by cases q), fun a q => ?_⟩
      cases q
      refine ⟨rfl, rfl,_, spare, hnew, hC, ?_⟩
      rw [← g5]; simp [putCells]
    | succ i => simp at hr
  · intro i r hr k hk
    cases i with
    | zero =>
      cases hr
      have e : k = b := hk.2
      subst e
      refine ⟨.inl ⟨by simp, rfl⟩, ?_⟩
      rw [hw, size_grow, hsz]; exact Nat.lt_of_lt_of_le hb (Nat.le_add_right _ _)
    | succ i => simp at hr
  · intro i j r s hij hr hs
    cases i with
    | zero => cases j with | zero => exact absurd rfl hij | succ j => simp at hs
    | succ i => simp at hr
theorem holds_ownF {w : World} {E z cap : Nat} {a : Addr} {L : List (List Value)} (h : (own E z (some a) cap L).inv w) : Holds id w a.block 0 L.flatten.toArray ∧ a = ⟨a.block, 0, none⟩ := by
  obtain ⟨h1, h2, h3, h4⟩ := h
  obtain ⟨g1, g2, C, spare, g3, g4, g5⟩ := h4 a rfl
  have ea : a = ⟨a.block, 0, none⟩ := by cases a; simp_all
  refine ⟨fun j hj => ?_, ea⟩
  rw [List.size_toArray] at hj
  refine ⟨?_, frozen_of_row w a.block _ C E g3⟩
  have : C.toList[0 + j]? = some L.flatten[j] := by
    rw [g4, Nat.zero_add, List.getElem?_append_left hj, List.getElem?_eq_getElem hj]
  simp only [World.cell?, g3, Option.isSome_none, Bool.false_eq_true, if_false]
  rw [← Array.getElem?_toList, this]
  congr 2
  rw [getElem!_pos _ _ (by simpa using hj)]
  simp
section
variable {α : Type} [Inhabited α]
theorem flatK_list (enc : α → List Value) (k : Nat) (hk : ∀ x, (enc x).length = k) (d : Array α) : flatK enc k d = (d.toList.map enc).flatten.toArray := by
  have key : ∀ (l : List α) (t : Nat), t < l.length * k → (l.map enc).flatten[t]? = ((l[t / k]?).bind fun x => (enc x)[t % k]?) := fun l => by
    induction l with
    | nil => intro t ht; simp at ht
    | cons x l ih =>
      intro t ht
      have k0 : 0 < k := by rcases Nat.eq_zero_or_pos k with h | h; · subst h; simp at ht
                            · exact h
      simp only [List.map_cons, List.flatten_cons]
      by_cases h : t < k
      · rw [List.getElem?_append_left (by rw [hk]; exact h), Nat.div_eq_of_lt h, Nat.mod_eq_of_lt h]; rfl
      · rw [List.getElem?_append_right (by rw [hk]; omega), hk, ih (t - k) (by simp [Nat.add_mul] at ht; omega)]
        obtain ⟨u, rfl⟩ : ∃ u, t = u + k := ⟨t - k, by omega⟩
        rw [Nat.add_sub_cancel, Nat.add_div_right _ k0, Nat.add_mod_right]; rfl
  have hl : ∀ l : List α, (l.map enc).flatten.length = l.length * k := fun l => by
    induction l with
    | nil => simp
    | cons x l ih => simp only [List.map_cons, List.flatten_cons, List.length_append, hk, ih, List.length_cons, Nat.add_mul, Nat.one_mul]; omega
  refine ext_get! (by rw [size_flatK]; exact (List.size_toArray.trans (by rw [hl, Array.length_toList])).symm) fun t ht => ?_
  rw [size_flatK] at ht
  rw [get_flatK _ _ _ _ ht]
  have k0 : 0 < k := by rcases Nat.eq_zero_or_pos k with h | h; · subst h; simp at ht
                        · exact h
  have hd : t / k < d.size := Nat.div_lt_of_lt_mul (by rw [Nat.mul_comm]; exact ht)
  have e := key d.toList t (by rw [Array.length_toList]; exact ht)
  rw [List.getElem?_eq_getElem (l := d.toList) (i := t / k) (by rw [Array.length_toList]; exact hd)] at e
  simp only [Option.bind_some, Array.getElem_toList] at e
  have ht2 : t < (d.toList.map enc).flatten.length := by rw [hl, Array.length_toList]; exact ht
  have a1 : (d.toList.map enc).flatten.toArray[t]! = (d.toList.map enc).flatten[t] := by
    generalize (d.toList.map enc).flatten = X at ht2
    rw [getElem!_pos X.toArray t (by simpa using ht2)]; simp
  have a2 : d[t / k]! = d[t / k] := getElem!_pos d (t / k) hd
  have a3 : (enc d[t / k])[t % k]! = (enc d[t / k])[t % k]'(by rw [hk]; exact Nat.mod_lt _ k0) := getElem!_pos _ _ _
  rw [a1, a2, a3]
  rw [List.getElem?_eq_getElem ht2, List.getElem?_eq_getElem (by rw [hk]; exact Nat.mod_lt _ k0)] at e
  exact (Option.some.inj e).symm
end
end Go.SL
namespace Go.Proofs.YtffbohecdocajaaGreat
open Go.SL Go.Proofs Go.Pulse Go.Sort
set_option linter.unusedVariables false
end Go.Proofs.YtffbohecdocajaaGreat

namespace Go.Proofs.YtffbohecdocajaaGreat
open Go.SL Go.Proofs Go.Pulse Go.Sort Go.Lib
set_option linter.unusedVariables false
theorem nanI0 (x : Int) (w : World) : Calls Tryz.prog 172 #[.int .i64 x] w fun e w' => e = .returned (.bool false) ∧ w' = w := by
  go_enter Tryz.func172, Tryz.ntmps172
  go_wp2
  go_ret
  exact ⟨by simp, rfl⟩
theorem cmpI0 (x y : Int) (w : World) : Calls Tryz.prog 104 #[.int .i64 x, .int .i64 y] w fun e w' => e = .returned (.int .i64 (cmpI x y)) ∧ w' = w := by
  go_enter Tryz.func104, Tryz.ntmps104
  go_wp2_with (go_at_call 172; refine (nanI0 _ _).mono ?_; rintro e w' ⟨rfl, hw⟩; rw [hw])
  all_goals (go_ret; refine ⟨?_, rfl⟩; unfold cmpI; (repeat' split) <;> first | rfl | (exfalso; omega))
theorem nanS0 (n : ByteArray) (w : World) : Calls Tryz.prog 173 #[.string n] w fun e w' => e = .returned (.bool false) ∧ w' = w := by
  go_enter Tryz.func173, Tryz.ntmps173
  go_wp2
  go_ret
  exact ⟨by simp, rfl⟩
theorem run_gtS (a b : ByteArray) (w : World) : (Go.binOp .gtr 9 (.string a) (.string b)).run Tryz.prog w = .ok (.bool (!(Op.bytesLess a.toList b.toList || a.toList == b.toList))) w := by simp [Go.binOp, Op.stringOp]
theorem cmpS1 (a b : ByteArray) (w : World) : Calls Tryz.prog 105 #[.string a, .string b] w fun e w' => e = .returned (.int .i64 (if Op.bytesLess a.toList b.toList = true then -1 else if (!(Op.bytesLess a.toList b.toList || a.toList == b.toList)) = true then 1 else 0)) ∧ w' = w := by
  have hg := run_gtS a b
  generalize hx : (!(Op.bytesLess a.toList b.toList || a.toList == b.toList)) = x at *
  clear hx
  go_enter Tryz.func105, Tryz.ntmps105
  go_wp2_with (first | (go_at_call 173; refine (nanS0 _ _).mono ?_; rintro e w' ⟨rfl, hw⟩; rw [hw]) | (rw [hg]; simp only [Result.andThen_ok, Oper.upon, Sem.run]))
  all_goals (refine bodyPost_ret (results_tmp rfl _ _ _) rfl ?_; refine ⟨?_, rfl⟩; simp [*])
theorem cmpS_fin : ∀ r q : Fin 3, (if decide (r < q) = true then -1 else if (!(decide (r < q) || decide (r = q))) = true then 1 else 0 : Int) = cmpI (fI r) (fI q) := by decide +kernel
theorem cmpS0 (r q : Fin 3) (w : World) : Calls Tryz.prog 105 #[.string (nmT r), .string (nmT q)] w fun e w' => e = .returned (.int .i64 (cmpI (fI r) (fI q))) ∧ w' = w := by
  refine (cmpS1 (nmT r) (nmT q) w).mono fun e w' ⟨h1, h2⟩ => ⟨?_, h2⟩
  rw [h1, nmT_lt, nmT_eq, cmpS_fin]
theorem or30 (x y z : Int) (b c : Nat) (w : World) (h0 : w.cell? ⟨b, 0, none⟩ = some (.int .i64 x)) (h1 : w.cell? ⟨b, 1, none⟩ = some (.int .i64 y)) (h2 : w.cell? ⟨b, 2, none⟩ = some (.int .i64 z)) :
    Calls Tryz.prog 103 #[.slice (some ⟨b, 0, none⟩) 3 c] w fun e w' => e = .returned (.int .i64 (orI [x, y, z])) ∧ w' = w := by
  rw [orI_3]
  go_enter Tryz.func103, Tryz.ntmps103
  go_wp2
  refine wp_loop_rounds 4 ?_
  unfold Code.rounds
  go_wp2
  all_goals try (refine bodyPost_ret (results_tmp rfl _ _ _) rfl ?_; refine ⟨?_, rfl⟩; refine congrArg (fun n => Ending.returned (Value.int .i64 n)) ?_; (repeat' split) <;> first | rfl | omega | (simp at *; omega))
  unfold Code.rounds
  go_wp2
  all_goals try (refine bodyPost_ret (results_tmp rfl _ _ _) rfl ?_; refine ⟨?_, rfl⟩; refine congrArg (fun n => Ending.returned (Value.int .i64 n)) ?_; (repeat' split) <;> first | rfl | omega | (simp at *; omega))
  unfold Code.rounds
  go_wp2
  all_goals try (refine bodyPost_ret (results_tmp rfl _ _ _) rfl ?_; refine ⟨?_, rfl⟩; refine congrArg (fun n => Ending.returned (Value.int .i64 n)) ?_; (repeat' split) <;> first | rfl | omega | (simp at *; omega))
  unfold Code.rounds
  go_wp2
  all_goals try (refine bodyPost_ret (results_tmp rfl _ _ _) rfl ?_; refine ⟨?_, rfl⟩; refine congrArg (fun n => Ending.returned (Value.int .i64 n)) ?_; (repeat' split) <;> first | rfl | omega | (simp at *; omega))
theorem new3 (W : World) (x y z : Value) (T n : Nat) (hn : n = W.heap.size) : (W.alloc (.cells #[x, y, z] T)).drew.cell? ⟨n, 0, none⟩ = some x ∧ (W.alloc (.cells #[x, y, z] T)).drew.cell? ⟨n, 1, none⟩ = some y ∧ (W.alloc (.cells #[x, y, z] T)).drew.cell? ⟨n, 2, none⟩ = some z := by
  subst hn
  have h : (W.alloc (.cells #[x, y, z] T)).drew.heap[W.heap.size]? = some (.cells #[x, y, z] T) := heap_alloc_new W _
  refine ⟨?_, ?_, ?_⟩ <;> (unfold World.cell?; rw [h]; rfl)
set_option maxHeartbeats 1000000 in
/-- The closure that compares: blocks are laid. -/
theorem cmp257 (x y : KeyM) (W : World) : Calls Tryz.prog 257 #[.agg (keyC x).toArray, .agg (keyC y).toArray] W fun e w' => e = .returned (.int .i64 (cmpK x y)) ∧ ∃ q os', w' = grow (W.drewN q) os' := by
  obtain ⟨x0, x1, x2⟩ := x
  obtain ⟨y0, y1, y2⟩ := y
  show Calls Tryz.prog 257 #[.agg #[.string (nmT x0), .int .i64 x1, .int .i64 x2], .agg #[.string (nmT y0), .int .i64 y1, .int .i64 y2]] W fun e w' => e = .returned (.int .i64 (orI [cmpI x2 y2, cmpI (fI x0) (fI y0), cmpI x1 y1])) ∧ _
  have k0 := cmpS0 x0 y0
  replace k0 := Lib.hid k0
  generalize hd : cmpI (fI x0) (fI y0) = d at *
  generalize nmT x0 = n0 at *
  generalize nmT y0 = m0 at *
  clear hd
  have hs : W.heap.size + 1 + 1 = ((W.alloc (.cells #[.string n0, .int .i64 x1, .int .i64 x2] 139)).alloc (.cells #[.string m0, .int .i64 y1, .int .i64 y2] 139)).heap.size := by rw [World.size_alloc, World.size_alloc]
  replace hs := Lib.hid hs
  go_enter Tryz.func257, Tryz.ntmps257
  go_wp2
  go_region_held3 (fun w' => (w'.cell? ⟨W.heap.size, 0, none⟩ = some (.string n0) ∧ w'.cell? ⟨W.heap.size, 1, none⟩ = some (.int .i64 x1) ∧ w'.cell? ⟨W.heap.size, 2, none⟩ = some (.int .i64 x2)) ∧ w'.cell? ⟨W.heap.size + 1,0, none⟩ = some (.string m0) ∧ w'.cell? ⟨W.heap.size + 1,1, none⟩ = some (.int .i64 y1) ∧ w'.cell? ⟨W.heap.size + 1,2, none⟩ = some (.int .i64 y2)) (go_keep)
    (first | (go_at_call 104; refine (cmpI0 _ _ _).mono ?_; rintro e w' ⟨rfl, rfl⟩) | (go_at_call 105; refine (k0.out _).mono ?_; rintro e w' ⟨rfl, rfl⟩) | (go_at_call 103; refine (or30 (cmpI x2 y2) d (cmpI x1 y1) _ _ _ (new3 _ _ _ _ _ _ hs.out).1 (new3 _ _ _ _ _ _ hs.out).2.1 (new3 _ _ _ _ _ _ hs.out).2.2).mono ?_; rintro e w' ⟨rfl, rfl⟩))
  go_wp2
  go_ret
  exact ⟨rfl, 1,_, by rw [alloc_eq_grow, alloc_eq_grow, alloc_eq_grow, grow_grow, grow_grow]; rfl⟩
theorem ltK (x y : KeyM) : ltOf cmpK x y = decide (cmpK x y < 0) := rfl
theorem swoK : SWO (ltOf cmpK) := ⟨fun x => by rw [ltK]; simpa using cmpK_irr x, fun x y z h k => by rw [ltK] at *; simp at *; exact cmpK_tr x y z h k, fun x y z h k => by
  rw [ltK] at *
  simp at *
  rw [← Int.not_lt] at *
  rw [cmpK_lt] at *
  generalize fI x.1 = f1 at *
  generalize fI y.1 = f2 at *
  generalize fI z.1 = f3 at *
  omega⟩
theorem keyC_len (x : KeyM) : (keyC x).length = 3 := rfl
theorem keyC_one (x : KeyM) : ∀ v ∈ keyC x, v.oneCell' = true := fun v hv => by
  simp at hv
  rcases hv with rfl | rfl | rfl <;> rfl
instance : Inhabited KeyM := ⟨0,0,0⟩
set_option maxHeartbeats 2000000 in
set_option maxRecDepth 100000 in
theorem SortK_some (blk cap : Nat) (d : Array KeyM) (w : World) (hH : HoldsK keyC 3 w blk 0 d) (hblk : blk < w.heap.size) (hsz : d.size < 4611686018427387904) :
    Calls Tryz.prog 292 #[.slice (some ⟨blk, 0, none⟩) d.size cap, .func (.func 257) #[] #[]] w fun e w' => e = .returned (.tuple #[]) ∧ ∃ n os, w' = sortWorldK keyC 3 w blk 0 n (pdq (ltOf cmpK) d 0 d.size (Lib.bitLen d.size) true true) os := by
  have eg : ∀ args w, (callFunc 257 args).run Tryz.prog w = .ok (.enter 257 args) w := enters_of Tryz.func257 (by kernel_rfl) rfl
  have hcmp : CmpLays Tryz.prog 257 #[] keyC 3 cmpK blk 0 d.size w := fun _ _ _ _ x y => cmp257 x y _
  have hlim : Lib.bitLen d.size < 4611686018427387904 := Nat.lt_of_le_of_lt (Lib.bitLen_le d.size 62 (by omega) (by omega)) (by omega)
  have hp := AnyQ.pdqsortCmpFunc_all Tryz.pdqCmpK 3 Tryz.isAgg139 Tryz.sizeOf139 keyC cmpK 257 #[] swoK blk 0 cap d w eg hcmp ⟨keyC_len, keyC_one, hH, hblk⟩ (d.size + 1) 0 d.size (Lib.bitLen d.size) d w (by omega) rfl (SWK.start hH) (Nat.zero_le _) (Nat.le_refl _) hsz hlim (Or.inl rfl)
  change Calls Tryz.prog 304 _ _ _ at hp
  have hl : Calls Tryz.prog 196 #[.int .u64 (d.size : Int)] w fun e w' => e = .returned (.int .i64 (Lib.bitLen d.size : Nat)) ∧ w' = w := by
    have h := Tryz.bits_Len (d.size : Int) w (by omega) (by omega)
    rwa [Int.toNat_natCast] at h
  have wr : IntKind.u64.wrap (d.size : Int) = d.size := by simp [IntKind.wrap, IntKind.bits, IntKind.signed]; omega
  clear hH hcmp
  go_enter Tryz.func292, Tryz.ntmps292
  go_wp2_with (first | (go_at_call 196; refine hl.mono ?_; rintro e w' ⟨rfl, rfl⟩) | (go_at_call 304; refine hp.mono ?_; rintro e w' ⟨rfl, n, os, rfl⟩))
  go_end0
  exact ⟨rfl, n, os, rfl⟩
set_option maxHeartbeats 2000000 in
theorem SortK_none (cap : Nat) (w : World) : Calls Tryz.prog 292 #[.slice none 0 cap, .func (.func 257) #[] #[]] w fun e w' => e = .returned (.tuple #[]) ∧ w' = w := by
  have hp := fun lim => AnyF.pdqsortCmpFunc_none Tryz.pdqCmpK none cap lim (.func (.func 257) #[] #[]) w
  change ∀ lim, Calls Tryz.prog 304 _ _ _ at hp
  have hl : Calls Tryz.prog 196 #[.int .u64 0] w fun e w' => e = .returned (.int .i64 (Lib.bitLen 0 : Nat)) ∧ w' = w := by
    have h := Tryz.bits_Len 0 w (by omega) (by omega)
    exact h
  go_enter Tryz.func292, Tryz.ntmps292
  go_wp2_with (first | (go_at_call 196; refine hl.mono ?_; rintro e w' ⟨rfl, rfl⟩) | (go_at_call 304; refine (hp _).mono ?_; rintro e w' ⟨rfl, rfl⟩))
  go_end0
  exact ⟨rfl, rfl⟩
/-- slices.SortFunc on a slice of keys that is owned. -/
theorem SortK_h {β : Bs} {L : List Res} {w : World} {p : Option Addr} {cap : Nat} {l : List KeyM} (i : Nat) (hw : St β L w) (hi : L[i]? = some (own 139 3 p cap (l.map keyC))) (hl : l.length < 4611686018427387904) :
    Calls Tryz.prog 292 #[.slice p l.length cap, .func (.func 257) #[] #[]] w fun e w' => ∃ x : List KeyM, (x.Perm l ∧ x.Pairwise fun a b => ¬ cmpK b a < 0) ∧ e = .returned (.tuple #[]) ∧ St ⟨w, (own 139 3 p cap (l.map keyC)).fp⟩ [own 139 3 p cap (x.map keyC)] w' := by
  have hinv := hw.inv i _ hi
  have hrng := hw.rng i _ hi
  cases p with
  | none =>
    have h0 : l = [] := by simpa using (hinv.2.2.1 rfl).1
    subst h0
    refine (SortK_none cap w).mono fun e w' ⟨h1, h2⟩ => ⟨[], ⟨List.Perm.refl _, List.Pairwise.nil⟩, h1, ?_⟩
    subst h2
    exact St.one hinv (fun k hk => (hrng k hk).2)
  | some a =>
    obtain ⟨hH, ea⟩ := holds_ownF hinv
    have hb : a.block < w.heap.size := (hrng a.block ⟨by simp, rfl⟩).2
    rw [ea] at hinv ⊢
    have hH2 : HoldsK keyC 3 w a.block 0 l.toArray := by
      unfold HoldsK
      rw [flatK_list keyC 3 keyC_len]
      exact hH
    refine (SortK_some a.block cap l.toArray w hH2 hb (by simpa using hl)).mono fun e w' ⟨h1, n, os, h2⟩ => ?_
    have hq := pdq_sorts (ltOf cmpK) swoK l.toArray 0 l.toArray.size (Lib.bitLen l.toArray.size) true true (Nat.zero_le _) (Nat.le_refl _) (Or.inl rfl)
    generalize hm : pdq (ltOf cmpK) l.toArray 0 l.toArray.size (Lib.bitLen l.toArray.size) true true = m at h2 hq
    obtain ⟨⟨q1, q2, q3⟩, q4⟩ := hq
    have hperm : m.toList.Perm l := by
      have e1 : m.extract 0 l.toArray.size = m := by rw [← q1]; simp
      have e2 : l.toArray.extract 0 l.toArray.size = l.toArray := by simp
      rw [e1, e2] at q3
      simpa using q3
    refine ⟨m.toList, ⟨hperm, ?_⟩, h1, ?_⟩
    · refine List.pairwise_iff_getElem.2 fun i j hi hj hij => ?_
      have := q4 i j (Nat.zero_le _) hij (by rw [← q1]; simpa using hj)
      rw [ltK, getElem!_pos m j (by simpa using hj), getElem!_pos m i (by simpa using hi)] at this
      have := of_decide_eq_false this
      simp only [Array.getElem_toList]
      exact this
    · refine own_putF (os := os) (n := n) hinv hb (by simp [hperm.length_eq]) ?_ ?_ ?_
      · have key : ∀ q : List KeyM, (q.map keyC).flatten.length = q.length * 3 := fun q => by
          induction q with
          | nil => rfl
          | cons x q ih => simp only [List.map_cons, List.flatten_cons, List.length_append, ih, List.length_cons, List.length_nil]; omega
        rw [key, key, hperm.length_eq]
      · intro r hr
        obtain ⟨x,_, rfl⟩ := List.mem_map.1 hr
        rfl
      · rw [h2]
        unfold sortWorldK putRowK
        rw [flatK_list keyC 3 keyC_len]
/-- What is sorted so is one list. -/
theorem KeysOf.of {S : KeyM → List (List Span)} {l x : List KeyM} (hp : x.Perm l) (hs : x.Pairwise fun a b => ¬ cmpK b a < 0) (hn : l.Nodup) (hm : ∀ k, k ∈ l ↔ S k ≠ []) : KeysOf S x := by
  refine ⟨?_, fun k => by rw [hp.mem_iff, hm]⟩
  have hn2 : x.Nodup := hp.nodup_iff.2 hn
  refine hs.imp₂ (fun a b h1 h2 => ?_) hn2
  refine Classical.byContradiction fun q => h2 (cmpK_0 q h1)
end Go.Proofs.YtffbohecdocajaaGreat

namespace Go.Proofs.YtffbohecdocajaaGreat
open Go.SL Go.Proofs Go.Pulse
set_option linter.unusedVariables false

theorem Z139 : ZeroOf Tryz.prog 139 (.agg #[.string ByteArray.empty, .int .i64 0, .int .i64 0]) := by unfold ZeroOf; kernel_rfl
theorem N139 : (Tryz.prog.info? 139).map (·.size) = some 3 := by kernel_rfl
theorem O392 : IsOne Tryz.prog 392 := ⟨⟨_, Tryz.underlying392, rfl⟩, by kernel_rfl⟩
theorem S392 : IsSlice Tryz.prog 392 139 := Tryz.underlying392


theorem seqg_end {J Jx : List (List Value) → Res → Prop} {En : List (List Value) → Prop} {r : Res} {β : Bs} {w : World} (h : (∃ n, En n ∧ J n r) ∨ ∃ n, Jx n r) (hw : St β [r] w) : ∃ n r', ((En n ∧ J n r') ∨ Jx n r') ∧ St β [r'] w := by
  rcases h with ⟨n, h1, h2⟩ | ⟨n, h⟩
  · exact ⟨n, r, .inl ⟨h1, h2⟩, hw⟩
  · exact ⟨n, r, .inr h, hw⟩
/-- What the keys of a map are found by. -/
structure KeysCap (q km : Nat) (es : Array MapEntry) (ck : Nat) (w : World) : Prop where
  c : Cells w ⟨q, 0, none⟩ [.map (some km)]
  m : w.heap[km]? = some (.map es ck)
/-- What the values of a slice are found by. -/
structure ValsCap (q : Nat) (p : Option Addr) (c : Nat) (xs : List KeyM) (w : World) : Prop where
  c : Cells w ⟨q, 0, none⟩ [.slice p xs.length c]
  r : RO 3 keyC w p xs
theorem keyV_inj {a b : KeyM} (h : keyV a = keyV b) : a = b := triV_inj cell9 cell3 cell3 h
section
variable {P : Program} {β : Bs} {env : Env} {L : List Res} {d : Option Nat} {ty : TypeId} {pos : String} {aft : Array Edge} {g : Option (Nat × Bool)}
theorem LO.entryK {x : Operand} {ib b since clock : Nat} {seen : Array Nat} {es : Array MapEntry} {e : MapEntry} {kv : Value} (hx : OV env x (.pointer (some ⟨ib, 0, none⟩))) (hi : ∀ w, St β L w → w.heap[ib]? = some (.mapIter (some b) since (seen.push e.born) clock)) (hc : ∀ w, St β L w → w.heap[b]? = some (.map es clock)) (he : e ∈ es.toList) (hn : (es.toList.map (·.born)).Nodup) (hk : e.key = kv) : LO P β env L ⟨d, .entry x, ty, pos, aft, g⟩ (.tuple #[kv, e.val]) := by
  rw [← hk]; exact LO.entry hx hi hc he hn
end

set_option maxRecDepth 20000 in
theorem keys_seq (q km : Nat) (M : KeyM → Option TY) (es : Array MapEntry) (ck : Nat) (hM : MapG keyV tV es.toList M) (hSt : Stamps es.toList ck) :
  SeqG Tryz.prog 261 [.pointer (some ⟨q, 0, none⟩)] (KeysCap q km es ck) (NxK keyV M) (EnK keyV M) := by
  intro l0 J Jx w r hCap hyl hJJ hi0 hf0
  have hinj : ∀ {a b : KeyM}, keyV a = keyV b → a = b := keyV_inj
  refine enterO (vs := [_,_]) (env := [(0,_), (1,_)]) (St.one hi0 hf0) Tryz.func261 rfl rfl rfl rfl ?_
  refine VC.seq ?_
  refine VC.reg (VO.l (LO.ld O274 (.r rfl) (fun _ hw => sub_cells (off := 0) (hCap _ _ _ hJJ (St.inv hw 0 _ rfl)).c ⟨_, rfl⟩)) rfl<|VO.h rfl<|HO.rangeM Tryz.underlying274 rfl (fun _ hw => (hCap _ _ _ hJJ (St.inv hw 0 _ rfl)).m) fun b2 => VO.nil ?_)
  refine VE.seqN ?_
  refine VC.block ?_
  refine VC.loopK (α := (Array Nat) × (List KeyM) × Res) 2 (fun gx => []) [(0,_), (5,_)] (fun gx => [blk b2 (.mapIter (some km) ck gx.1 ck), gx.2.2]) (fun gx => SeenK keyV es.toList gx.1 gx.2.1 ∧ (∀ m, m ∈ gx.2.1 → (M m).isSome = true) ∧ J (gx.2.1.map (fun k => [keyV k])) gx.2.2) (fun gx => (leftOf es gx.1).size) (#[], [], r) (by exact ⟨SeenK.zero, fun _ h => (by cases h), hJJ⟩) (.cons rfl (.cons rfl .nil)) (fun _ h => h) ?_
  rintro ⟨seen, ks, r⟩ ⟨hSe, hSeM, hJJ⟩
  show VC _ _ _ _ _ ([] ++ _) ([blk b2 (.mapIter (some km) ck seen ck), r] ++ _) _ _
  dsimp only at hSe hSeM hJJ
  refine VC.seq ?_
  by_cases h0 : (leftOf es seen).size = 0
  ·
    refine VC.reg (VO.h rfl<|HO.nextM0 0 rfl rfl (fun _ hw => (hCap _ _ _ hJJ (St.inv hw 1 _ rfl)).m) hSt.2 (Nat.le_refl _) h0<|VO.h rfl<|HO.lo (LO.ex (.r rfl) rfl)<|VO.nil ?_)
    refine VE.seqN ?_
    refine VC.seq ?_
    refine VC.cond rfl (fun h7 => ?_) (fun h7 => ?_)
    ·
      (exfalso; cases h7)
    ·
      have hE : (∃ n, EnK keyV M n ∧ J n r) ∨ ∃ n, Jx n r := by first | exact .inl ⟨_, ⟨ks, rfl, hSe.n, hSe.done hM h0 hinj⟩, hJJ⟩ | exact absurd rfl h7
      refine VC.exit (VE.thenX (VE.thenX (VE.inX (VE.resN (vs := []) rfl trivial (fun w hw => ?_)))))
      exact ⟨rfl, seqg_end hE (hw.sel [1] rfl)⟩
  ·
    refine VC.reg (VO.h rfl<|HO.nextM1 0 (fun R => [R,_]) rfl rfl (fun _ => rfl) (fun _ hw => (hCap _ _ _ hJJ (St.inv hw 1 _ rfl)).m) hSt.2 (Nat.le_refl _) h0 fun e he => VO.h rfl<|HO.lo (LO.ex (.r rfl) rfl)<|VO.nil ?_)
    refine VE.seqN ?_
    refine VC.seq ?_
    refine VC.cond rfl (fun h7 => ?_) (fun h7 => ?_)
    ·
      refine VC.skip (VE.seqN ?_)
      refine VC.block ?_
      refine VC.seq ?_
      obtain ⟨k, hk, hkn, hkM, hSe2⟩ := hSe.next hinj hM hSt he
      refine VC.reg (VO.l (LO.entryK (.r rfl) (fun _ hw => St.inv hw 0 _ rfl) (fun _ hw => (hCap _ _ _ hJJ (St.inv hw 1 _ rfl)).m) (left_mem.1 he).1 hSt.1 hk) rfl<|VO.l (LO.ex (.r rfl) rfl) rfl<|VO.h rfl<|HO.alloc (C := #[_,_,_]) Z139 rfl fun b3 => VO.h0<|HO.st 0 (vs := [_,_,_]) (C' := [_,_,_]) (L' := [_,_,_]) N139 rfl rfl rfl rfl rfl rfl rfl rfl<|VO.nil ?_)
      refine VE.seqN ?_
      refine VC.seq ?_
      refine VC.reg (VO.l (LO.mv (.r rfl)) rfl<|VO.l (LO.lda (vs := [_,_,_]) A139 (.r rfl) (fun _ hw => cells_at hw 0 rfl ⟨_, rfl⟩) rfl) rfl<|VO.h rfl<|HO.yield 2 (r := r) (vs := [_]) (post := fun b r' => if b = true then J (ks.map (fun k => [keyV k]) ++ [[keyV k]]) r' else Jx (ks.map (fun k => [keyV k]) ++ [[keyV k]]) r') (.r rfl) ⟨.r rfl, trivial⟩ rfl (fun w2 hi hr hs => hyl _ _ ⟨ks, k, rfl, rfl, hSe2.n, fun m hm => (List.mem_append.1 hm).elim (fun q => hSeM m q) (fun q => by rw [List.mem_singleton.1 q]; exact hkM)⟩ r w2 hJJ hi hr hs) fun bb1 r1 hp => VO.h rfl<|HO.lo (LO.not (.r rfl))<|VO.nil ?_)
      refine VE.seqN ?_
      refine VC.cond rfl (fun h13 => ?_) (fun h13 => ?_)
      ·
        rw [if_neg (by simpa using h13)] at hp
        have hE : (∃ n, EnK keyV M n ∧ J n r1) ∨ ∃ n, Jx n r1 := .inr ⟨_, hp⟩
        refine VC.ret (VE.inR (VE.thenR (VE.inR (VE.res (vs := []) rfl trivial (fun w hw => ?_)))))
        exact ⟨rfl, seqg_end hE (hw.sel [2] rfl)⟩
      ·
        rw [if_pos (by simpa using h13)] at hp
        refine VC.skip (VE.inN ?_)
        refine VE.thenN fun a w ha hw => ⟨(seen.push e.born, ks ++ [k], r1), ⟨hSe2, fun m hm => (List.mem_append.1 hm).elim (fun q => hSeM m q) (fun q => by rw [List.mem_singleton.1 q]; exact hkM), by dsimp only; rw [List.map_append]; exact hp⟩, (by dsimp only; exact left_lt he), ha.sub (.cons rfl (.cons rfl .nil)), hw.sel [1,2] rfl⟩
    ·
      have hE : (∃ n, EnK keyV M n ∧ J n r) ∨ ∃ n, Jx n r := by first | exact .inl ⟨_, ⟨ks, rfl, hSe.n, hSe.done hM h0 hinj⟩, hJJ⟩ | exact absurd rfl h7
      (exfalso; exact h7 rfl)

set_option maxRecDepth 20000 in
theorem vals_seq (q : Nat) (p : Option Addr) (c : Nat) (xs : List KeyM) (hn : xs.length < 1000000) :
  SeqG Tryz.prog 293 [.pointer (some ⟨q, 0, none⟩)] (ValsCap q p c xs) (NxL keyV xs) (EnL keyV xs) := by
  intro l0 J Jx w r hCap hyl hJJ hi0 hf0
  have hsm := (hCap _ _ _ hJJ hi0).r.sm
  refine enterO (vs := [_,_]) (env := [(0,_), (1,_)]) (St.one hi0 hf0) Tryz.func293 rfl rfl rfl rfl ?_
  refine VC.seq ?_
  refine VC.reg (VO.l (LO.ld O392 (.r rfl) (fun _ hw => sub_cells (off := 0) (hCap _ _ _ hJJ (St.inv hw 0 _ rfl)).c ⟨_, rfl⟩)) rfl<|VO.l (LO.len S392 (.r rfl) rfl) rfl<|VO.l (LO.mv (.r rfl)) rfl<|VO.nil ?_)
  refine VE.seqN ?_
  refine VC.block ?_
  refine VC.loopK (α := Nat × Res) 1 (fun gx => [(7, .int .i64 (gx.1 : Nat))]) [(0,_), (5,_), (6,_)] (fun gx => [gx.2]) (fun gx => gx.1 ≤ xs.length ∧ J ((xs.take gx.1).map (fun k => [keyV k])) gx.2) (fun gx => xs.length - gx.1) (0, r) (by exact ⟨Nat.zero_le _, hJJ⟩) (.cons rfl (.cons rfl (.cons rfl (.cons rfl .nil)))) (fun _ h => h) ?_
  rintro ⟨j, r⟩ ⟨hj, hJJ⟩
  show VC _ _ _ _ _ ([(7, .int .i64 (j : Nat))] ++ _) ([r] ++ _) _ _
  dsimp only at hj hJJ
  refine VC.seq ?_
  refine VC.reg (VO.l (LO.lt (.r rfl) (.r rfl)) rfl<|VO.nil ?_)
  refine VE.seqN ?_
  refine VC.seq ?_
  refine VC.cond rfl (fun h8 => ?_) (fun h8 => ?_)
  ·
    obtain ⟨k, hk⟩ : ∃ k, xs[j]? = some k := ⟨_, List.getElem?_eq_getElem (by omega)⟩
    refine VC.skip (VE.seqN ?_)
    refine VC.seq ?_
    refine VC.block ?_
    refine VC.seq ?_
    refine VC.reg (VO.l (LO.ixs S392 N139 hsm (.r rfl) (.r rfl) rfl (by omega)) rfl<|VO.l (LO.lda (vs := [_,_,_]) A139 (.r rfl) (fun w hw => cells_part (off := 0) ((fun w2 hw2 => (hCap _ _ _ hJJ (St.inv hw2 0 _ rfl)).r.cells _ _ (by rw [List.getElem?_map, hk]; rfl)) w hw) ⟨_, rfl⟩) rfl) rfl<|VO.h rfl<|HO.alloc (C := #[_,_,_]) Z139 rfl fun b2 => VO.h0<|HO.st 0 (vs := [_,_,_]) (C' := [_,_,_]) (L' := [_,_]) N139 rfl rfl rfl rfl rfl rfl rfl rfl<|VO.nil ?_)
    refine VE.seqN ?_
    refine VC.seq ?_
    refine VC.reg (VO.l (LO.mv (.r rfl)) rfl<|VO.l (LO.lda (vs := [_,_,_]) A139 (.r rfl) (fun _ hw => cells_at hw 0 rfl ⟨_, rfl⟩) rfl) rfl<|VO.h rfl<|HO.yield 1 (r := r) (vs := [_]) (post := fun b r' => if b = true then J ((xs.take j).map (fun k => [keyV k]) ++ [[keyV k]]) r' else Jx ((xs.take j).map (fun k => [keyV k]) ++ [[keyV k]]) r') (.r rfl) ⟨.r rfl, trivial⟩ rfl (fun w2 hi hr hs => hyl _ _ ⟨j, k, hk, rfl, rfl⟩ r w2 hJJ hi hr hs) fun bb1 r1 hp => VO.h rfl<|HO.lo (LO.not (.r rfl))<|VO.nil ?_)
    refine VE.seqN ?_
    refine VC.cond rfl (fun h14 => ?_) (fun h14 => ?_)
    ·
      rw [if_neg (by simpa using h14)] at hp
      have hE : (∃ n, EnL keyV xs n ∧ J n r1) ∨ ∃ n, Jx n r1 := .inr ⟨_, hp⟩
      refine VC.ret (VE.inR (VE.thenR (VE.thenR (VE.inR (VE.res (vs := []) rfl trivial (fun w hw => ?_))))))
      exact ⟨rfl, seqg_end hE (hw.sel [1] rfl)⟩
    ·
      rw [if_pos (by simpa using h14)] at hp
      refine VC.skip (VE.inN (VE.seqN ?_))
      refine VC.reg (VO.l (LO.add (.r rfl) (.r rfl) (wi (by omega) (by omega))) rfl<|VO.l (LO.mv (.r rfl)) rfl<|VO.nil ?_)
      refine VE.thenN fun a w ha hw => ⟨(j + 1, r1), ⟨by dsimp only; omega, by dsimp only; rw [take_at hk, List.map_append]; exact hp⟩, (by dsimp only; omega), ha.sub (.cons rfl (.cons rfl (.cons rfl (.cons rfl .nil)))), hw.sel [1] rfl⟩
  ·
    have hE : (∃ n, EnL keyV xs n ∧ J n r) ∨ ∃ n, Jx n r := .inl ⟨_, rfl, by rw [List.take_of_length_le (by omega)] at hJJ; exact hJJ⟩
    refine VC.exit (VE.thenX (VE.thenX (VE.inX (VE.resN (vs := []) rfl trivial (fun w hw => ?_)))))
    exact ⟨rfl, seqg_end hE (hw.sel [0] rfl)⟩

end Go.Proofs.YtffbohecdocajaaGreat

namespace Go.Proofs.YtffbohecdocajaaGreat
open Go.SL Go.Proofs Go.Pulse
set_option linter.unusedVariables false

theorem I139 : EInfo Tryz.prog 139 3 32 (.agg #[.string ByteArray.empty, .int .i64 0, .int .i64 0]) := ⟨by kernel_rfl, by kernel_rfl, by unfold ZeroOf; kernel_rfl, rfl, by decide⟩
theorem N392 : (Tryz.prog.info? 392).map (·.size) = some 1 := by kernel_rfl
theorem C260 : IsFn Tryz.prog 260 := ⟨_, Tryz.func260, by decide, rfl⟩
theorem C221 : IsFn Tryz.prog 221 := ⟨_, Tryz.func221, by decide, rfl⟩
theorem C292 : IsFn Tryz.prog 292 := ⟨_, Tryz.func292, by decide, rfl⟩
theorem Z465 : ZeroOf Tryz.prog 465 (.agg #[.nilFunc]) := by unfold ZeroOf; kernel_rfl
theorem B465 : Builds Tryz.prog 465 [(0,1)] [.nilFunc] := Builds.mk fun _ => by kernel_rfl
theorem N465 : (Tryz.prog.info? 465).map (·.size) = some 1 := by kernel_rfl
theorem A465 : IsAgg Tryz.prog 465 1 := ⟨⟨_, Tryz.underlying465, rfl⟩, by kernel_rfl⟩
theorem C259 : IsFn Tryz.prog 259 := ⟨_, Tryz.func259, by decide, rfl⟩
theorem F465_0 : FieldAt Tryz.prog 465 0 0 := ⟨_,_, Tryz.underlying465, rfl, rfl, 0, by kernel_rfl⟩
theorem O463 : IsOne Tryz.prog 463 := ⟨⟨_, Tryz.underlying463, rfl⟩, by kernel_rfl⟩
theorem C293 : IsFn Tryz.prog 293 := ⟨_, Tryz.func293, by decide, rfl⟩
theorem C258 : IsFn Tryz.prog 258 := ⟨_, Tryz.func258, by decide, rfl⟩
theorem C219 : IsFn Tryz.prog 219 := ⟨_, Tryz.func219, by decide, rfl⟩
theorem C222 : IsFn Tryz.prog 222 := ⟨_, Tryz.func222, by decide, rfl⟩
theorem C261 : IsFn Tryz.prog 261 := ⟨_, Tryz.func261, by decide, rfl⟩
theorem C220 : IsFn Tryz.prog 220 := ⟨_, Tryz.func220, by decide, rfl⟩


theorem cell_same {w w2 : World} (h : ∀ k, k < w.heap.size → w2.heap[k]? = w.heap[k]?) {x : Addr} {v : Value} (hc : w.cell? x = some v) : w2.cell? x = some v := by
  have hb : x.block < w.heap.size := by
    rcases Nat.lt_or_ge x.block w.heap.size with q | q
    · exact q
    · unfold World.cell? at hc; rw [Array.getElem?_eq_none q] at hc; cases hc
  unfold World.cell? at hc ⊢
  rw [h _ hb]; exact hc
theorem cells_same {w w2 : World} (h : ∀ k, k < w.heap.size → w2.heap[k]? = w.heap[k]?) {p : Addr} {vs : List Value} (hc : Cells w p vs) : Cells w2 p vs := fun j v hv => cell_same h (hc j v hv)
theorem RO.same {α : Type} {z : Nat} {f : α → List Value} {p : Option Addr} {l : List α} {w w2 : World} (h : ∀ k, k < w.heap.size → w2.heap[k]? = w.heap[k]?) (hr : RO z f w p l) : RO z f w2 p l := ⟨fun j r q => cells_same h (hr.cells j r q), hr.nil, hr.spot⟩
theorem obj_lt {w : World} {b : Nat} {o : Obj} (h : w.heap[b]? = some o) : b < w.heap.size := by
  rcases Nat.lt_or_ge b w.heap.size with q | q
  · exact q
  · rw [Array.getElem?_eq_none q] at h; cases h
theorem obj_keep {w0 w : World} {L : List Res} {b : Nat} {o : Obj} (h : w0.heap[b]? = some o) (hw : St (bs w0) L w) : w.heap[b]? = some o := (hw.fr b (obj_lt h) (fun f => f)).trans h
theorem kV_map : ∀ {l m : List KeyM}, l.map (fun k => [keyV k]) = m.map (fun k => [keyV k]) → l = m
  | [], [],_ => rfl
  | [], b :: m, h => by cases h
  | a :: l, [], h => by cases h
  | a :: l, b :: m, h => by
    rw [List.map_cons, List.map_cons] at h
    obtain ⟨h1, h2⟩ := List.cons.inj h
    rw [keyV_inj (List.cons.inj h1).1, kV_map h2]
theorem EnK.keys {M : KeyM → Option TY} {l : List KeyM} (h : EnK keyV M (l.map fun k => [keyV k])) : l.Nodup ∧ ∀ k, k ∈ l ↔ (M k).isSome = true := by
  obtain ⟨ks, h1, h2, h3⟩ := h
  have := kV_map h1
  subst this
  exact ⟨h2, h3⟩
theorem NdN.keys {S : KeyM → List (List Span)} {M : KeyM → Option TY} {ts : List TY} {vs : List VY} {c : Nat} (h : NdN S c) (hk : NdK S M ts vs) {ks : List KeyM} (hn : ks.Nodup) (hm : ∀ k, k ∈ ks → (M k).isSome = true) : ks.length ≤ c := by
  obtain ⟨ps, h1, h2, h3⟩ := h.h
  have hn2 : (ks.map fun k => (k, (S k).headD [])).Nodup := by
    rw [List.nodup_iff_pairwise_ne, List.pairwise_map]
    exact (List.nodup_iff_pairwise_ne.1 hn).imp fun {a b} q z => q (Prod.mk.inj z).1
  have := List.Nodup.length_le_of_subset hn2 (l₂ := ps) fun x hx => by
    obtain ⟨k, hk2, rfl⟩ := List.mem_map.1 hx
    refine (h2 k _).2 ?_
    have hne := (hk.ne k).2 (hm k hk2)
    cases q : S k with
    | nil => exact absurd q hne
    | cons v l => exact List.mem_cons_self
  rw [List.length_map] at this
  omega

set_option maxRecDepth 20000 in
theorem keysM_c (km : Nat) (w : World) :
  Calls Tryz.prog 222 #[.map (some km)] w fun e w' => ∃ q : Nat, True ∧ e = .returned (.func (.func 261) #[] #[.pointer (some ⟨q, 0, none⟩)]) ∧ St (bs w) [blk q (.cells #[.map (some km)] 274)] w' := by
  refine enter (vs := [_]) (env := [(0,_)]) Tryz.func222 rfl rfl rfl rfl ?_
  refine VC.seq ?_
  refine VC.reg (VO.h rfl<|HO.box (C := #[_]) rfl rfl fun b1 => VO.l (LO.as (.r rfl)) rfl<|VO.nil ?_)
  refine VE.seqN ?_
  refine VC.seq ?_
  refine VC.reg (VO.h rfl<|HO.lo (LO.mf (cap := [_]) ⟨(.r rfl), trivial⟩)<|VO.h rfl<|HO.lo (LO.as (.r rfl))<|VO.nil ?_)
  refine VE.seqN ?_
  refine VC.ret (VE.res (vs := [_]) rfl ⟨rfl, trivial⟩ (fun w hw => ?_))
  exact ⟨b1, trivial, rfl, hw⟩

set_option maxRecDepth 20000 in
theorem valuesK_c (p : Option Addr) (n c : Nat) (w : World) :
  Calls Tryz.prog 259 #[.slice p n c] w fun e w' => ∃ q : Nat, True ∧ e = .returned (.func (.func 293) #[] #[.pointer (some ⟨q, 0, none⟩)]) ∧ St (bs w) [blk q (.cells #[.slice p n c] 392)] w' := by
  refine enter (vs := [_]) (env := [(0,_)]) Tryz.func259 rfl rfl rfl rfl ?_
  refine VC.seq ?_
  refine VC.reg (VO.h rfl<|HO.box (C := #[_]) rfl rfl fun b1 => VO.l (LO.as (.r rfl)) rfl<|VO.nil ?_)
  refine VE.seqN ?_
  refine VC.seq ?_
  refine VC.reg (VO.h rfl<|HO.lo (LO.mf (cap := [_]) ⟨(.r rfl), trivial⟩)<|VO.h rfl<|HO.lo (LO.as (.r rfl))<|VO.nil ?_)
  refine VE.seqN ?_
  refine VC.ret (VE.res (vs := [_]) rfl ⟨rfl, trivial⟩ (fun w hw => ?_))
  exact ⟨b1, trivial, rfl, hw⟩

set_option maxRecDepth 20000 in
theorem appendK_c (gf : FuncId) (lb : List Value) (Cap : World → Prop) (Nx : List (List Value) → List Value → Prop) (En : List (List Value) → Prop) (hf : IsFn Tryz.prog gf) (hseq : SeqG Tryz.prog gf lb Cap Nx En) (hps : ∀ n vs, Nx n vs → n.length < 1000 ∧ ∃ k : KeyM, vs = [keyV k]) (w : World) (hcap : ∀ w2, (∀ k, k < w.heap.size → w2.heap[k]? = w.heap[k]?) → Cap w2) :
  Calls Tryz.prog 260 #[.slice none 0 0, .func (.func gf) #[] lb.toArray] w fun e w' => ∃ y : List KeyM × Option Addr × Nat, En (y.1.map fun k => [keyV k]) ∧ e = .returned (.slice y.2.1 y.1.length y.2.2) ∧ St (bs w) [own 139 3 y.2.1 y.2.2 (y.1.map keyC)] w' := by
  refine enter (vs := [_,_]) (env := [(0,_), (1,_)]) Tryz.func260 rfl rfl rfl rfl ?_
  refine VC.seq ?_
  refine VC.dm0 ?_
  refine VC.reg (VO.h rfl<|HO.box (C := #[_]) rfl rfl fun b2 => VO.l (LO.as (.r rfl)) rfl<|VO.nil ?_)
  refine VE.seqN ?_
  refine VC.seq ?_
  refine VC.seq ?_
  refine VC.res (fun _ h => h.ownNil 139 3) ?_
  show VC _ _ _ _ _ _ [_,_,_] _ _
  refine VC.reg (VO.l (LO.mv (.r rfl)) rfl<|VO.nil ?_)
  refine VE.seqN ?_
  refine VC.block ?_
  refine VC.rangeFuncNo (α := (List KeyM) × (Option Addr) × Nat) (γ := Nat) [] (fun gx => [own 139 3 gx.2.1 gx.2.2 (gx.1.map keyC), blk b2 (.cells #[.slice gx.2.1 gx.1.length gx.2.2] 392)]) (fun n_ gx => n_ = gx.1.map fun k => [keyV k]) (fun _ _ _ => False) ([], none, 0) (fun vs y_ => [blk y_ (.cells (vs.getD 0 (.bool false)).cells 139)]) (fun vs y_ => [(5, .pointer (some ⟨y_, 0, none⟩)), (2, .pointer (some ⟨b2,0, none⟩))]) rfl hf hseq (selK [0,1,2] rfl rfl) (rfl) (fun n vs h => by obtain ⟨_, k, rfl⟩ := hps n vs h; rfl) (by decide) (fun n x2 w2 _ _ h3 => hcap w2 (fun k hk => h3 k hk (fun f => f))) ?_ ?_ ?_ (fun _ _ _ _ h => h.elim)
  ·
    rintro n_ ⟨o, po, co⟩ vs__ l_ T w1 hI hxs hst
    obtain ⟨hlen, o1, rfl⟩ := hps _ _ hxs
    dsimp only at hI
    rw [hI, List.length_map] at hlen
    show VC _ _ _ _ _ _ ([own 139 3 po co (o.map keyC), blk b2 (.cells #[.slice po o.length co] 392)] ++ T) _ _
    refine VC.reg (VO.h rfl<|HO.alloc (C := #[_,_,_]) Z139 rfl fun b7 => VO.h0<|HO.st 0 (vs := [_,_,_]) (C' := [_,_,_]) N139 rfl rfl rfl rfl rfl rfl rfl rfl<|VO.nil ?_)
    exact fun a w ha hw => ⟨rfl, b7, ha.sub (.cons rfl (.cons rfl .nil)), selKT (L := [_,_,_]) (L1 := [_,_,_]) (L2 := []) (X := T) [0,1,2] rfl rfl rfl w hw⟩
  ·
    rintro n_ ⟨o, po, co⟩ vs__ b9 l_ T w1 hI hxs hst
    obtain ⟨hlen, o1, rfl⟩ := hps _ _ hxs
    dsimp only at hI
    rw [hI, List.length_map] at hlen
    show VC _ _ _ _ _ _ ([blk b9 (.cells #[.string (nmT o1.1), .int .i64 o1.2.1, .int .i64 o1.2.2] 139), own 139 3 po co (o.map keyC), blk b2 (.cells #[.slice po o.length co] 392)] ++ T) _ _
    refine VC.block ?_
    refine VC.reg (VO.l (LO.ld O392 (.r rfl) (fun _ hw => cells_at hw 2 rfl ⟨_, rfl⟩)) rfl<|VO.l (LO.lda (vs := [_,_,_]) A139 (.r rfl) (fun _ hw => cells_at hw 0 rfl ⟨_, rfl⟩) rfl) rfl<|VO.h rfl<|HO.bs (ps := [(_,_)]) (vs := [(_,_)]) (Z := [_,_,_]) (C := [_,_,_]) S392 Z139 N139 ⟨(.r rfl), trivial⟩ rfl rfl rfl rfl ⟨_, [_,_,_], [_,_,_], rfl, rfl, rfl, rfl, rfl⟩ fun b12 => VO.h rfl<|HO.appT (o1) 2 0 (fun R => [_,_, R,_] ++ T) S392 S392 I139 (.r rfl) (.r rfl) rfl rfl rfl rfl rfl rfl rfl (fun _ => rfl) rfl (by omega) fun p3 c3 => VO.h0<|HO.st 3 (vs := [_]) (C' := [_]) N392 rfl rfl rfl rfl rfl rfl rfl rfl<|VO.nil ?_)
    refine VE.inN ?_
    exact fun a w ha hw => ⟨(o ++ [o1], p3, c3), (by dsimp only at hI ⊢; rw [hI, List.map_append]; rfl), selKT (L := [_,_,_,_]) (L1 := [_,_]) (L2 := []) (X := T) [2,3] rfl rfl rfl w hw⟩
  ·
    rintro D_ n_ ⟨o, po, co⟩ hE hI
    dsimp only at hI
    subst hI
    show VE _ _ _ _ [own 139 3 po co (o.map keyC), blk b2 (.cells #[.slice po o.length co] 392),_] _ _
    refine VE.inN (VE.seqN ?_)
    refine VC.seq ?_
    refine VC.reg (VO.l (LO.ld O392 (.r rfl) (fun _ hw => cells_at hw 1 rfl ⟨_, rfl⟩)) rfl<|VO.l (LO.as (.r rfl)) rfl<|VO.nil ?_)
    refine VE.seqN ?_
    refine VC.ret (VE.resDm (vs := [_]) (A := [_,_]) rfl (selK [2,0,1] rfl rfl) ⟨rfl, trivial⟩ (fun w hw => ?_))
    exact ⟨(o, po, co), hE, rfl, hw.sel [0] rfl⟩

set_option maxRecDepth 20000 in
theorem collectK_c (gf : FuncId) (lb : List Value) (Cap : World → Prop) (Nx : List (List Value) → List Value → Prop) (En : List (List Value) → Prop) (hf : IsFn Tryz.prog gf) (hseq : SeqG Tryz.prog gf lb Cap Nx En) (hps : ∀ n vs, Nx n vs → n.length < 1000 ∧ ∃ k : KeyM, vs = [keyV k]) (w : World) (hcap : ∀ w2, (∀ k, k < w.heap.size → w2.heap[k]? = w.heap[k]?) → Cap w2) :
  Calls Tryz.prog 221 #[.func (.func gf) #[] lb.toArray] w fun e w' => ∃ y : List KeyM × Option Addr × Nat, En (y.1.map fun k => [keyV k]) ∧ e = .returned (.slice y.2.1 y.1.length y.2.2) ∧ St (bs w) [own 139 3 y.2.1 y.2.2 (y.1.map keyC)] w' := by
  refine enter (vs := [_]) (env := [(0,_)]) Tryz.func221 rfl rfl rfl rfl ?_
  refine VC.seq ?_
  refine VC.reg (VO.l (LO.as (.r rfl)) rfl<|VO.nil ?_)
  refine VE.seqN ?_
  refine VC.seq ?_
  refine VC.reg (VO.l (LO.mv (.r rfl)) rfl<|VO.h rfl<|HO.callx (xs := [_,_]) (vs := [_,_]) C260 ⟨(.r rfl), (.r rfl), trivial⟩ (fun w2 hw2 => appendK_c gf lb Cap Nx En hf hseq hps w2 (fun w3 h3 => hcap w3 (fun k hk => (h3 k (Nat.lt_of_lt_of_le hk hw2.size)).trans (hw2.fr k hk (fun f => f))))) fun y hy => VO.h rfl<|HO.lo (LO.as (.r rfl))<|VO.nil ?_)
  refine VE.seqN ?_
  refine VC.ret (VE.res (vs := [_]) rfl ⟨rfl, trivial⟩ (fun w hw => ?_))
  exact ⟨y, hy, rfl, hw.sel [0] rfl⟩

set_option maxRecDepth 20000 in
theorem sortedFnK_c (gf : FuncId) (lb : List Value) (Cap : World → Prop) (Nx : List (List Value) → List Value → Prop) (En : List (List Value) → Prop) (hf : IsFn Tryz.prog gf) (hseq : SeqG Tryz.prog gf lb Cap Nx En) (hps : ∀ n vs, Nx n vs → n.length < 1000 ∧ ∃ k : KeyM, vs = [keyV k]) (hen : ∀ n, En n → n.length < 1000000) (w : World) (hcap : ∀ w2, (∀ k, k < w.heap.size → w2.heap[k]? = w.heap[k]?) → Cap w2) :
  Calls Tryz.prog 258 #[.func (.func gf) #[] lb.toArray, .func (.func 257) #[] #[]] w fun e w' => ∃ y : List KeyM × Option Addr × Nat, (∃ l : List KeyM, En (l.map fun k => [keyV k]) ∧ y.1.Perm l ∧ y.1.Pairwise fun a b => ¬ cmpK b a < 0) ∧ e = .returned (.slice y.2.1 y.1.length y.2.2) ∧ St (bs w) [own 139 3 y.2.1 y.2.2 (y.1.map keyC)] w' := by
  refine enter (vs := [_,_]) (env := [(0,_), (1,_)]) Tryz.func258 rfl rfl rfl rfl ?_
  refine VC.seq ?_
  refine VC.reg (VO.l (LO.as (.r rfl)) rfl<|VO.nil ?_)
  refine VE.seqN ?_
  refine VC.seq ?_
  refine VC.reg (VO.l (LO.mv (.r rfl)) rfl<|VO.h rfl<|HO.callx (xs := [_]) (vs := [_]) C221 ⟨(.r rfl), trivial⟩ (fun w2 hw2 => collectK_c gf lb Cap Nx En hf hseq hps w2 (fun w3 h3 => hcap w3 (fun k hk => (h3 k (Nat.lt_of_lt_of_le hk hw2.size)).trans (hw2.fr k hk (fun f => f))))) fun y hy => VO.h rfl<|HO.lo (LO.as (.r rfl))<|VO.nil ?_)
  refine VE.seqN ?_
  refine VC.seq ?_
  have hyl := hen _ hy
  rw [List.length_map] at hyl
  refine VC.reg (VO.l (LO.mv (.r rfl)) rfl<|VO.l (LO.mv (.r rfl)) rfl<|VO.h rfl<|HO.callh (first := []) (cap := []) (xs := [_,_]) (vs := [_,_]) 0 (fun R => [R]) rfl (.r rfl) C292 ⟨(.r rfl), (.r rfl), trivial⟩ (fun _ => rfl) (fun w hw => SortK_h 0 hw rfl (by omega)) fun m ⟨hperm, hpair⟩ => VO.nil ?_)
  refine VE.seqN ?_
  refine VC.seq ?_
  have hml := hperm.length_eq
  refine VC.reg (VO.l (LO.mv (.r rfl)) rfl<|VO.l (LO.as (.r rfl)) rfl<|VO.nil ?_)
  refine VE.seqN ?_
  refine VC.ret (VE.res (vs := [_]) rfl ⟨rfl, trivial⟩ (fun w hw => ?_))
  exact ⟨(m, y.2), ⟨y.1, hy, hperm, hpair⟩, by rw [hml]; rfl, hw.sel [0] rfl⟩

set_option maxRecDepth 20000 in
theorem byTimeK_c (w : World) :
  Calls Tryz.prog 219 #[] w fun e w' => e = .returned (.agg #[.func (.func 257) #[] #[]]) ∧ St (bs w) [] w' := by
  refine enter (vs := []) (env := []) Tryz.func219 rfl rfl rfl rfl ?_
  refine VC.seq ?_
  refine VC.reg (VO.h rfl<|HO.alloc (C := #[_]) Z465 rfl fun b1 => VO.nil ?_)
  refine VE.seqN ?_
  refine VC.seq ?_
  refine VC.reg (VO.l (LO.bd (ps := [(_,_)]) (vs := [(_,_)]) (C := [_]) B465  ⟨(.r rfl), trivial⟩ rfl ⟨_, [_], [_], rfl, rfl, rfl, rfl, rfl⟩) rfl<|VO.h0<|HO.st 0 (vs := [_]) (C' := [_]) (L' := [_]) N465 rfl rfl rfl rfl rfl rfl rfl rfl<|VO.nil ?_)
  refine VE.seqN ?_
  refine VC.ret (VE.res (vs := [_]) rfl ⟨RV.agg (vs := [_]) A465 rfl (cells_blk 0 rfl ⟨_, rfl⟩) rfl, trivial⟩ (fun w hw => ?_))
  exact ⟨rfl, hw.nil⟩

set_option maxRecDepth 20000 in
theorem sortedK_c (xs : List KeyM) (p : Option Addr) (c : Nat) (hn : xs.length < 1000) (w : World) (hr : RO 3 keyC w p xs) :
  Calls Tryz.prog 220 #[.agg #[.func (.func 257) #[] #[]], .slice p xs.length c] w fun e w' => ∃ y : List KeyM × Option Addr × Nat, (y.1.Perm xs ∧ y.1.Pairwise fun a b => ¬ cmpK b a < 0) ∧ e = .returned (.slice y.2.1 y.1.length y.2.2) ∧ St (bs w) [own 139 3 y.2.1 y.2.2 (y.1.map keyC)] w' := by
  refine enter (vs := [_,_]) (env := [(0,_), (1,_)]) Tryz.func220 rfl rfl rfl rfl ?_
  refine VC.seq ?_
  refine VC.reg (VO.h rfl<|HO.box (C := #[_]) rfl rfl fun b1 => VO.l (LO.as (.r rfl)) rfl<|VO.nil ?_)
  refine VE.seqN ?_
  refine VC.seq ?_
  refine VC.drawH [[0], [0], [0], [0]] [some 0, none, some 1, some 1, none, none] mixed (by kernel_rfl) rfl (LX.l (fun _ hJ => LO.mv (.r rfl)) rfl<|LX.s<|LX.l (fun _ hJ => LO.fa (r := 0) F465_0 (.r rfl) rfl) rfl<|LX.l (fun _ hJ => LO.ld O463 (.r rfl) (fun _ hw => cells_at (hJ _ hw) 0 rfl ⟨_, rfl⟩)) rfl<|LX.s<|LX.s<|LX.nil) (HX.s<|HX.h rfl<|HO.callx (xs := [_]) (vs := [_]) C259 ⟨(.r rfl), trivial⟩ (fun w _ => valuesK_c p xs.length c w) fun q _ => ⟨fun _ hw => hw.sel [1] rfl, HX.s<|HX.s<|HX.h rfl<|HO.callx (xs := [_,_]) (vs := [_,_]) C258 ⟨(.r rfl), (.r rfl), trivial⟩ (fun w2 hw2 => sortedFnK_c 293 _ (ValsCap q p c xs) (NxL keyV xs) (EnL keyV xs) C293 (vals_seq q p c xs (by omega)) (fun n vs ⟨j, k,_, h2, h3⟩ => ⟨by rw [h2, List.length_map, List.length_take]; omega, k, h3⟩) (fun n h => by rw [h, List.length_map]; omega) w2 (fun w3 h3 => ⟨cells_same h3 (cells_inv (hw2.inv 0 _ rfl)), RO.same h3 (hr.keep w2 hw2)⟩)) fun y hy => ⟨fun _ hw => hw.sel [2] rfl, HX.h rfl<|HO.lo (LO.as (.r rfl))<|⟨fun _ hw => hw.sel [2] rfl, HX.nil ?_⟩⟩⟩)
  refine VE.seqN ?_
  refine VC.ret (VE.res (vs := [_]) rfl ⟨rfl, trivial⟩ (fun w hw => ?_))
  obtain ⟨l, hl1, hl2, hl3⟩ := hy
  have e2 : l = xs := kV_map hl1
  subst e2
  exact ⟨y, ⟨hl2, hl3⟩, rfl, hw.sel [0] rfl⟩

set_option maxRecDepth 20000 in
theorem KeysN_c (bn : Nat) (q : NdQ) (c : Nat) (S : KeyM → List (List Span)) (M : KeyM → Option TY) (ts : List TY) (vs : List VY) (w : World) (hS : NdS S M ts vs c) (hc : c < 1000) (hh : NdW w bn q c M ts vs) :
  Calls Tryz.prog 170 #[.pointer (some ⟨bn, 0, none⟩)] w fun e w' => ∃ y : List KeyM × Option Addr × Nat, KeysOf S y.1 ∧ e = .returned (.slice y.2.1 y.1.length y.2.2) ∧ St (bs w) [own 139 3 y.2.1 y.2.2 (y.1.map keyC)] w' := by
  obtain ⟨es, ck, hmk, hM, hSt⟩ := hh.K
  refine enter (vs := [_]) (env := [(0,_)]) Tryz.func170 rfl rfl rfl rfl ?_
  refine VC.seq ?_
  refine VC.reg (VO.l (LO.as (.r rfl)) rfl<|VO.nil ?_)
  refine VE.seqN ?_
  refine VC.seq ?_
  refine VC.seq ?_
  refine VC.reg (VO.l (LO.mv (.r rfl)) rfl<|VO.l (LO.call (xs := [_]) (vs := [_]) C92 ⟨(.r rfl), trivial⟩ (fun w hw => nothing_c bn q c w (hh.keep hw).B)) rfl<|VO.nil ?_)
  refine VE.seqN ?_
  refine VC.cond rfl (fun h4 => ?_) (fun h4 => ?_)
  ·
    (exfalso; (simp at h4))
  ·
    refine VC.skip (VE.seqN ?_)
    refine VC.seq ?_
    refine VC.drawH [[], [], [], [], []] [some 0, some 0, some 0, some 0, some 0, none, none, none, none] mixed (by kernel_rfl) rfl (LX.l (fun _ hJ => LO.call (xs := []) (vs := []) C219 trivial (fun w _ => byTimeK_c w)) rfl<|LX.l (fun _ hJ => LO.mv (.r rfl)) rfl<|LX.l (fun _ hJ => LO.nc (.r rfl)) rfl<|LX.l (fun _ hJ => LO.fa (r := 11) F277_3 (.r rfl) rfl) rfl<|LX.l (fun _ hJ => LO.ld O274 (.r rfl) (cells_keep (sub_cells (off := 11) hh.B ⟨_, rfl⟩))) rfl<|LX.s<|LX.s<|LX.s<|LX.s<|LX.nil) (HX.s<|HX.s<|HX.s<|HX.s<|HX.s<|HX.h rfl<|HO.callx (xs := [_]) (vs := [_]) C222 ⟨(.r rfl), trivial⟩ (fun w _ => keysM_c q.km w) fun qb _ => ⟨fun _ hw => hw.sel [] rfl, HX.h rfl<|HO.callx (xs := [_]) (vs := [_]) C221 ⟨(.r rfl), trivial⟩ (fun w2 hw2 => collectK_c 261 _ (KeysCap qb q.km es ck) (NxK keyV M) (EnK keyV M) C261 (keys_seq qb q.km M es ck hM hSt) (fun n vs ⟨ks, k, h1, h2, h3, h4⟩ => ⟨by have := hS.n.keys hS.k h3 h4; rw [List.length_append] at this; rw [h1, List.length_map]; omega, k, h2⟩) w2 (fun w3 h3 => ⟨cells_same h3 (cells_inv (hw2.inv 0 _ rfl)), (h3 _ (obj_lt (obj_keep hmk hw2))).trans (obj_keep hmk hw2)⟩)) fun y1 hy1 => ⟨fun _ hw => hw.sel [] rfl, HX.h rfl<|HO.callx (xs := [_,_]) (vs := [_,_]) C220 ⟨(.r rfl), (.r rfl), trivial⟩ (fun w2 hw2 => sortedK_c y1.1 y1.2.1 y1.2.2 (by have := hS.n.keys hS.k (EnK.keys hy1).1 (fun k h => ((EnK.keys hy1).2 k).1 h); omega) w2 (own_rows hw2 0 rfl)) fun y2 hy2 => ⟨fun _ hw => hw.sel [] rfl, HX.h rfl<|HO.lo (LO.as (.r rfl))<|⟨fun _ hw => hw.sel [] rfl, HX.nil ?_⟩⟩⟩⟩)
    refine VE.seqN ?_
    refine VC.ret (VE.res (vs := [_]) rfl ⟨rfl, trivial⟩ (fun w hw => ?_))
    obtain ⟨hk2, hk3⟩ := EnK.keys hy1
    exact ⟨y2, KeysOf.of hy2.1 hy2.2 hk2 (fun k => by rw [hk3, hS.k.ne]), rfl, hw.sel [0] rfl⟩

end Go.Proofs.YtffbohecdocajaaGreat

namespace Go.Proofs.YtffbohecdocajaaGreat
open Go.SL Go.Proofs Go.Pulse
set_option linter.unusedVariables false

theorem C170 : IsFn Tryz.prog 170 := ⟨_, Tryz.func170, by decide, rfl⟩
theorem B141 : Builds Tryz.prog 141 [(0,3), (3,1)] [.string ByteArray.empty, .int .i64 0, .int .i64 0, .slice none 0 0] := Builds.mk fun _ => by kernel_rfl
theorem S285 : IsSlice Tryz.prog 285 141 := Tryz.underlying285
theorem Z141 : ZeroOf Tryz.prog 141 (.agg #[.string ByteArray.empty, .int .i64 0, .int .i64 0, .slice none 0 0]) := by unfold ZeroOf; kernel_rfl
theorem N141 : (Tryz.prog.info? 141).map (·.size) = some 4 := by kernel_rfl
theorem I141 : EInfo Tryz.prog 141 4 56 (.agg #[.string ByteArray.empty, .int .i64 0, .int .i64 0, .slice none 0 0]) := ⟨by kernel_rfl, by kernel_rfl, by unfold ZeroOf; kernel_rfl, rfl, by decide⟩


/-- A message, as it lies in a list of messages. -/
abbrev MgY := KeyM × VY
abbrev mgY (m : MgY) : List Value := mgC m.1 m.2.v m.2.p m.2.c
abbrev mgP (m : MgY) : KeyM × List Span := (m.1, m.2.v)
/-- All messages, key by key. -/
def allP (S : KeyM → List (List Span)) (ks : List KeyM) : List (KeyM × List Span) := ks.flatMap fun k => (S k).map fun v => (k, v)
theorem allP_mem {S : KeyM → List (List Span)} {ks : List KeyM} (h : KeysOf S ks) (k : KeyM) (v : List Span) : (k, v) ∈ allP S ks ↔ v ∈ S k := by
  unfold allP
  rw [List.mem_flatMap]
  constructor
  · rintro ⟨m,_, hm⟩
    obtain ⟨u, hu, e⟩ := List.mem_map.1 hm
    cases e; exact hu
  · intro hv
    exact ⟨k, (h.m k).2 (fun e => by rw [e] at hv; cases hv), List.mem_map.2 ⟨v, hv, rfl⟩⟩
theorem allP_next {S : KeyM → List (List Span)} {ks : List KeyM} {i : Nat} {k : KeyM} (h : ks[i]? = some k) : allP S (ks.take (i + 1)) = allP S (ks.take i) ++ (S k).map fun v => (k, v) := by
  unfold allP
  rw [List.take_add_one, h, List.flatMap_append]; simp
theorem vls_get {l : List VY} {j : Nat} {y : VY} (h : l[j]? = some y) : (vls l)[j]? = some y.v := by unfold vls; rw [List.getElem?_map, h]; rfl
theorem pairs_next {k : KeyM} {l : List (List Span)} {j : Nat} {v : List Span} (h : l[j]? = some v) : (l.take (j + 1)).map (fun v => (k, v)) = (l.take j).map (fun v => (k, v)) ++ [(k, v)] := by
  rw [List.take_add_one, h, List.map_append]; rfl

set_option maxRecDepth 20000 in
set_option maxHeartbeats 2000000 in
theorem all_c (bn : Nat) (q : NdQ) (c : Nat) (S : KeyM → List (List Span)) (M : KeyM → Option TY) (ts : List TY) (vs : List VY) (w : World) (hS : NdS S M ts vs c) (hc : c < 1000) (hh : NdW w bn q c M ts vs) :
  Calls Tryz.prog 99 #[.pointer (some ⟨bn, 0, none⟩)] w fun e w' => ∃ y : (List MgY × List VY) × Option Addr × Nat, ((∃ ks, KeysOf S ks ∧ y.1.1.map mgP = allP S ks) ∧ (∀ m, m ∈ y.1.1 → m.2 ∈ y.1.2 ∧ m.2.v.length ≤ 36) ∧ y.1.1.length < 10000000) ∧ e = .returned (.slice y.2.1 y.1.1.length y.2.2) ∧ St (bs w) [own 141 4 y.2.1 y.2.2 (y.1.1.map mgY), bagD (y.1.2.map vOwn)] w' := by
  refine enter (vs := [_]) (env := [(0,_)]) Tryz.func99 rfl rfl rfl rfl ?_
  refine VC.seq ?_
  refine VC.reg (VO.l (LO.as (.r rfl)) rfl<|VO.nil ?_)
  refine VE.seqN ?_
  refine VC.seq ?_
  refine VC.reg (VO.l (LO.as (.r rfl)) rfl<|VO.nil ?_)
  refine VE.seqN ?_
  refine VC.seq ?_
  refine VC.seq ?_
  refine VC.reg (VO.l (LO.mv (.r rfl)) rfl<|VO.h rfl<|HO.callx (xs := [_]) (vs := [_]) C170 ⟨(.r rfl), trivial⟩ (fun w hw => KeysN_c bn q c S M ts vs w hS hc (hh.keep hw)) fun yk hyk => VO.h rfl<|HO.lo (LO.len S392 (.r rfl) rfl)<|VO.l (LO.mv (.r rfl)) rfl<|VO.nil ?_)
  refine VE.seqN ?_
  refine VC.block ?_
  refine VC.loopK (α := Nat × (List MgY) × (List VY) × Nat × (Option Addr) × Nat) 0 (fun gx => [(3, .slice gx.2.2.2.2.1 gx.2.2.2.1 gx.2.2.2.2.2), (11, .int .i64 (gx.1 : Nat))]) [(0,_), (9,_), (10,_)] (fun gx => [bagD (gx.2.2.1.map vOwn), own 141 4 gx.2.2.2.2.1 gx.2.2.2.2.2 (gx.2.1.map mgY)]) (fun gx => gx.1 ≤ yk.1.length ∧ gx.2.2.2.1 = gx.2.1.length ∧ gx.2.1.length ≤ 1000 * gx.1 ∧ gx.2.1.map mgP = allP S (yk.1.take gx.1) ∧ ∀ m, m ∈ gx.2.1 → m.2 ∈ gx.2.2.1 ∧ m.2.v.length ≤ 36) (fun gx => yk.1.length - gx.1) (0, [], [], 0, none, 0) (by exact ⟨Nat.zero_le _, rfl, Nat.zero_le _, rfl, fun _ h => (by cases h)⟩) (.cons rfl (.cons rfl (.cons rfl (.cons rfl (.cons rfl .nil))))) (fun _ h => (St.bagD (Rs := []) (h.ownNil 141 4))) ?_
  rintro ⟨i, o, b, n, po, co⟩ ⟨hi, hno, hol, hom, hob⟩
  show VC _ _ _ _ _ ([(3, .slice po n co), (11, .int .i64 (i : Nat))] ++ _) ([bagD (b.map vOwn), own 141 4 po co (o.map mgY)] ++ _) _ _
  dsimp only at hi hno hol hom hob
  refine VC.seq ?_
  have hkl : yk.1.length < 1000 := by have := hS.n.keys hS.k (hyk.s.imp fun {a b} q z => by rw [z] at q; exact cmpK_irr b q) (fun k hk => (hS.k.ne k).1 ((hyk.m k).1 hk)); omega
  refine VC.reg (VO.l (LO.lt (.r rfl) (.r rfl)) rfl<|VO.nil ?_)
  refine VE.seqN ?_
  refine VC.seq ?_
  refine VC.cond rfl (fun h12 => ?_) (fun h12 => ?_)
  ·
    obtain ⟨k, hki⟩ : ∃ k, yk.1[i]? = some k := ⟨_, List.getElem?_eq_getElem (by omega)⟩
    have hrow := hh.row hS.k k
    have hg := hS.k.get k
    have hgl := congrArg List.length hg
    rw [List.length_map] at hgl
    have hSl := hS.n.len (hS.k.s k)
    refine VC.skip (VE.seqN ?_)
    refine VC.seq ?_
    refine VC.block ?_
    refine VC.seq ?_
    refine VC.reg (VO.l (LO.ixo S392 N139 (fun _ hw => (own_rows hw 2 rfl).some (by rw [List.length_map])) (.r rfl) (.r rfl) rfl (by omega)) rfl<|VO.l (LO.lda (vs := [_,_,_]) A139 (.r rfl) (fun w hw => cells_part (off := 0) (own_cell hw 2 rfl hki) ⟨_, rfl⟩) rfl) rfl<|VO.h rfl<|HO.alloc (C := #[_,_,_]) Z139 rfl fun b4 => VO.h0<|HO.st 0 (vs := [_,_,_]) (C' := [_,_,_]) (L' := [_,_,_,_]) N139 rfl rfl rfl rfl rfl rfl rfl rfl<|VO.nil ?_)
    refine VE.seqN ?_
    refine VC.seq ?_
    refine VC.draw mixed (LL.l (LO.mv (.r rfl)) rfl<|LL.l (LO.nc (.r rfl)) rfl<|LL.l (LO.fa (r := 11) F277_3 (.r rfl) rfl) rfl<|LL.l (LO.ld O274 (.r rfl) (cells_keep (sub_cells (off := 11) hh.B ⟨_, rfl⟩))) rfl<|LL.l (LO.lda (vs := [_,_,_]) A139 (.r rfl) (fun _ hw => cells_at hw 0 rfl ⟨_, rfl⟩) rfl) rfl<|LL.l (LO.lkG1 (n := k) map274 (.r rfl) (.r rfl) (fun w hw => (hh.keep hw).K)) rfl<|LL.l (LO.len S383 (.r rfl) rfl) rfl<|LL.l (LO.mv (.r rfl)) rfl<|LL.nil) (by kernel_rfl) ?_
    refine VE.seqN ?_
    refine VC.block ?_
    refine VC.perm [1,2,0,3] rfl ?_
    refine VC.loopK (α := Nat × (List MgY) × (List VY) × Nat × (Option Addr) × Nat) 2 (fun gx => [(3, .slice gx.2.2.2.2.1 gx.2.2.2.1 gx.2.2.2.2.2), (22, .int .i64 (gx.1 : Nat))]) [(0,_), (5,_), (9,_), (10,_), (11,_), (20,_), (21,_)] (fun gx => [bagD (gx.2.2.1.map vOwn), own 141 4 gx.2.2.2.2.1 gx.2.2.2.2.2 (gx.2.1.map mgY)]) (fun gx => gx.1 ≤ ((M k).getD dTY).l.length ∧ gx.2.2.2.1 = gx.2.1.length ∧ gx.2.1.length ≤ 1000 * i + gx.1 ∧ gx.2.1.map mgP = allP S (yk.1.take i) ++ ((S k).take gx.1).map (fun v => (k, v)) ∧ ∀ m, m ∈ gx.2.1 → m.2 ∈ gx.2.2.1 ∧ m.2.v.length ≤ 36) (fun gx => ((M k).getD dTY).l.length - gx.1) (0, o, b, n, po, co) (by exact ⟨Nat.zero_le _, hno, by omega, by rw [List.take_zero, List.map_nil, List.append_nil]; exact hom, hob⟩) (.cons rfl (.cons rfl (.cons rfl (.cons rfl (.cons rfl (.cons rfl (.cons rfl (.cons rfl (.cons rfl .nil))))))))) (fun _ h => h) ?_
    rintro ⟨j, o, b, n, po, co⟩ ⟨hj, hno, hol, hom2, hob⟩
    show VC _ _ _ _ _ ([(3, .slice po n co), (22, .int .i64 (j : Nat))] ++ _) ([bagD (b.map vOwn), own 141 4 po co (o.map mgY)] ++ _) _ _
    dsimp only at hj hno hol hom2 hob
    refine VC.seq ?_
    refine VC.reg (VO.l (LO.lt (.r rfl) (.r rfl)) rfl<|VO.nil ?_)
    refine VE.seqN ?_
    refine VC.seq ?_
    refine VC.cond rfl (fun h23 => ?_) (fun h23 => ?_)
    ·
      obtain ⟨y, hy⟩ : ∃ y, ((M k).getD dTY).l[j]? = some y := ⟨_, List.getElem?_eq_getElem (by omega)⟩
      have hySk : (S k)[j]? = some y.v := by rw [← hg]; exact vls_get hy
      have hyl := hS.k.w k y.v (List.mem_of_getElem? hySk)
      refine VC.skip (VE.seqN ?_)
      refine VC.seq ?_
      refine VC.block ?_
      refine VC.seq ?_
      refine VC.reg (VO.l (LO.ixs S383 N45 hrow.1.sm (.r rfl) (.r rfl) rfl (by omega)) rfl<|VO.l (LO.ld O45 (.r rfl) (fun w hw => cells_part (off := 0) ((fun w2 hw2 => (hrow.1.keep w2 hw2).cells _ _ (by rw [List.getElem?_map, hy]; rfl)) w hw) ⟨_, rfl⟩)) rfl<|VO.l (LO.as (.r rfl)) rfl<|VO.nil ?_)
      refine VE.seqN ?_
      refine VC.drawH [[0,1,2,3], [0,1,2,3], [0,1,2,3], [0,1,2,3], [0,2,3], [0,2,3]] [some 3, some 1, some 0, none, none, none, none, none] mixed (by kernel_rfl) rfl (LX.l (fun _ hJ => LO.mv (.r rfl)) rfl<|LX.l (fun _ hJ => LO.lda (vs := [_,_,_]) A139 (.r rfl) (fun _ hw => cells_at (hJ _ hw) 2 rfl ⟨_, rfl⟩) rfl) rfl<|LX.l (fun _ hJ => LO.mv (.r rfl)) rfl<|LX.s<|LX.s<|LX.s<|LX.s<|LX.s<|LX.nil) (HX.s<|HX.s<|HX.s<|HX.h rfl<|HO.callx (xs := [_]) (vs := [_]) C80 ⟨(.r rfl), trivial⟩ (fun w hw => CloneSp_c y.v y.p y.c w (by omega) (hrow.2 y (List.mem_of_getElem? hy) |>.1.keep w hw)) fun ys _ => ⟨fun _ hw => hw.sel [1,2,3,4] rfl, HX.h rfl<|HO.lo (LO.bd (ps := [(_,_), (_,_)]) (vs := [(_,_), (_,_)]) (C := [_,_,_,_]) B141  ⟨(.r rfl), (.r rfl), trivial⟩ rfl ⟨_, [_,_,_], [_,_,_,_], rfl, rfl, rfl, rfl, ⟨_, [_], [_,_,_,_], rfl, rfl, rfl, rfl, rfl⟩⟩)<|⟨fun _ hw => hw.sel [1,2,3,4] rfl, HX.h rfl<|HO.bs (ps := [(_,_)]) (vs := [(_,_)]) (Z := [_,_,_,_]) (C := [_,_,_,_]) S285 Z141 N141 ⟨(.r rfl), trivial⟩ rfl rfl rfl rfl ⟨_, [_,_,_,_], [_,_,_,_], rfl, rfl, rfl, rfl, rfl⟩ fun b9 => ⟨fun _ hw => hw.sel [2,3,4,5] rfl, HX.h rfl<|HO.appT ((k, (⟨y.v, ys.1, ys.2⟩ : VY))) 3 0 (fun R => [_,_,_, R,_,_]) S285 S285 I141 (.r rfl) (.r rfl) rfl rfl rfl rfl rfl rfl rfl (fun _ => rfl) (by omega) (by omega) fun p6 c6 => ⟨fun _ hw => hw.sel [2,4,5] rfl, HX.h rfl<|HO.lo (LO.as (.r rfl))<|⟨fun _ hw => hw.sel [2,4,5] rfl, HX.nil ?_⟩⟩⟩⟩⟩)
      refine VE.inN (VE.seqN ?_)
      refine VC.reg (VO.l (LO.add (.r rfl) (.r rfl) (wi (by omega) (by omega))) rfl<|VO.l (LO.mv (.r rfl)) rfl<|VO.nil ?_)
      refine VE.thenN fun a w ha hw => ⟨(j + 1, o ++ [(k, (⟨y.v, ys.1, ys.2⟩ : VY))], ⟨y.v, ys.1, ys.2⟩ :: b, (o ++ [(k, (⟨y.v, ys.1, ys.2⟩ : VY))]).length, p6, c6), ⟨by dsimp only; omega, rfl, by dsimp only; rw [List.length_append]; show _ + 1 ≤ _; omega, by dsimp only; rw [List.map_append, hom2, pairs_next hySk, List.append_assoc]; rfl, fun m hm => by
  rcases List.mem_append.1 hm with q | q
  · exact ⟨List.mem_cons_of_mem _ (hob m q).1, (hob m q).2⟩
  · rw [List.mem_singleton.1 q]; exact ⟨List.mem_cons_self, hyl⟩⟩, (by dsimp only; omega), ha.sub (.cons rfl (.cons rfl (.cons rfl (.cons rfl (.cons rfl (.cons rfl (.cons rfl (.cons rfl (.cons rfl .nil))))))))), (bag_one (f := vOwn) (a := (⟨y.v, ys.1, ys.2⟩ : VY)) (l := b) (selK (L1 := [_,_,_,_,_]) [1,2,3,4,5] rfl rfl _ hw))⟩
    ·
      have hje : j = ((M k).getD dTY).l.length := by omega
      refine VC.exit (VE.thenX (VE.thenX (VE.inX (VE.inN (VE.seqN ?_)))))
      refine VC.reg (VO.l (LO.add (.r rfl) (.r rfl) (wi (by omega) (by omega))) rfl<|VO.l (LO.mv (.r rfl)) rfl<|VO.nil ?_)
      refine VE.thenN fun a w ha hw => ⟨(i + 1, o, b, n, po, co), ⟨by dsimp only; omega, hno, by dsimp only; omega, by dsimp only; rw [hom2, hje, hgl, List.take_length, allP_next hki], hob⟩, (by dsimp only; omega), ha.sub (.cons rfl (.cons rfl (.cons rfl (.cons rfl (.cons rfl .nil))))), hw.sel [0,1,3] rfl⟩
  ·
    have hie : i = yk.1.length := by omega
    refine VC.exit (VE.thenX (VE.thenX (VE.inX (VE.seqN ?_))))
    refine VC.seq ?_
    refine VC.reg (VO.l (LO.mv (.r rfl)) rfl<|VO.l (LO.as (.r rfl)) rfl<|VO.nil ?_)
    refine VE.seqN ?_
    refine VC.ret (VE.res (vs := [_]) rfl ⟨rfl, trivial⟩ (fun w hw => ?_))
    rw [hie, List.take_length] at hom
    exact ⟨((o, b), po, co), ⟨⟨yk.1, hyk, hom⟩, hob, by show o.length < _; omega⟩, by rw [hno]; rfl, hw.sel [1,0] rfl⟩

end Go.Proofs.YtffbohecdocajaaGreat

namespace Go.Proofs
open Go.Shelf
def Tryz.cloneK_ren : Go.Shelf.Ren := ⟨fun | 5 => 168 | 7 => 218 | n => n, fun | 23 => 274 | 25 => 139 | 3 => 383 | 4 => 4 | 20 => 20 | n => n, fun | n => n⟩
theorem Tryz.cloneK : Go.Proofs.SlLaysW.n5 Tryz.prog Tryz.cloneK_ren := {
  mixed := by kernel_rfl
  f5 := ⟨Tryz.f168.name, by decide, Tryz.func168.trans (congrArg some (by kernel_rfl))⟩
  f7 := Tryz.func218.trans (congrArg some (by kernel_rfl))
  t4 := Tryz.underlying4
  a4 := Tryz.isAgg4
  z4 := Tryz.sizeOf4
  v4 := Tryz.zeroValue4
  t20 := Tryz.underlying20
  a20 := Tryz.isAgg20
  z20 := Tryz.sizeOf20
  v20 := Tryz.zeroValue20
  t23 := Tryz.underlying274
  a23 := Tryz.isAgg274
  z23 := Tryz.sizeOf274
  v23 := Tryz.zeroValue274 }
def Tryz.cloneL_ren : Go.Shelf.Ren := ⟨fun | 5 => 169 | 7 => 218 | n => n, fun | 23 => 275 | 25 => 391 | 3 => 291 | 4 => 4 | 20 => 20 | n => n, fun | n => n⟩
theorem Tryz.cloneL : Go.Proofs.SlLaysW.n5 Tryz.prog Tryz.cloneL_ren := {
  mixed := by kernel_rfl
  f5 := ⟨Tryz.f169.name, by decide, Tryz.func169.trans (congrArg some (by kernel_rfl))⟩
  f7 := Tryz.func218.trans (congrArg some (by kernel_rfl))
  t4 := Tryz.underlying4
  a4 := Tryz.isAgg4
  z4 := Tryz.sizeOf4
  v4 := Tryz.zeroValue4
  t20 := Tryz.underlying20
  a20 := Tryz.isAgg20
  z20 := Tryz.sizeOf20
  v20 := Tryz.zeroValue20
  t23 := Tryz.underlying275
  a23 := Tryz.isAgg275
  z23 := Tryz.sizeOf275
  v23 := Tryz.zeroValue275 }
end Go.Proofs

namespace Go.Proofs.YtffbohecdocajaaGreat
open Go.SL Go.Proofs Go.Pulse
set_option linter.unusedVariables false

theorem A277 : IsAgg Tryz.prog 277 14 := ⟨⟨_, Tryz.underlying277, rfl⟩, by kernel_rfl⟩
theorem Z277 : ZeroOf Tryz.prog 277 (.agg #[.int .i64 0, .int .i64 0, .int .i64 0, .int .i64 0, .int .i64 0, .int .i64 0, .int .i64 0, .slice none 0 0, .int .i64 0, .map none, .int .i64 0, .map none, .int .i64 0, .map none]) := by unfold ZeroOf; kernel_rfl
theorem N277 : (Tryz.prog.info? 277).map (·.size) = some 14 := by kernel_rfl
theorem F277_5 : FieldAt Tryz.prog 277 5 13 := ⟨_,_, Tryz.underlying277, rfl, rfl, 0, by kernel_rfl⟩
theorem O275 : IsOne Tryz.prog 275 := ⟨⟨_, Tryz.underlying275, rfl⟩, by kernel_rfl⟩
theorem N274 : (Tryz.prog.info? 274).map (·.size) = some 1 := by kernel_rfl
theorem N275 : (Tryz.prog.info? 275).map (·.size) = some 1 := by kernel_rfl
theorem A270 : IsAgg Tryz.prog 270 10 := ⟨⟨_, Tryz.underlying270, rfl⟩, by kernel_rfl⟩
theorem A88 : IsAgg Tryz.prog 88 5 := ⟨⟨_, Tryz.underlying88, rfl⟩, by kernel_rfl⟩
theorem EA88 : FlatA Tryz.prog 88 5 := ⟨⟨_, Tryz.underlying88, rfl⟩, by kernel_rfl, by kernel_rfl⟩
theorem F131_1 : FieldAt Tryz.prog 131 1 5 := ⟨_,_, Tryz.underlying131, rfl, rfl, 1, by kernel_rfl⟩
theorem F131_3 : FieldAt Tryz.prog 131 3 8 := ⟨_,_, Tryz.underlying131, rfl, rfl, 0, by kernel_rfl⟩
theorem F131_2 : FieldAt Tryz.prog 131 2 7 := ⟨_,_, Tryz.underlying131, rfl, rfl, 0, by kernel_rfl⟩
theorem O129 : IsOne Tryz.prog 129 := ⟨⟨_, Tryz.underlying129, rfl⟩, by kernel_rfl⟩
theorem C167 : IsFn Tryz.prog 167 := ⟨_, Tryz.func167, by decide, rfl⟩


/-- What is looked up: a radar and a tilt. -/
abbrev KeyW := Fin 3 × Int
abbrev wV (k : KeyW) : Value := pairV nmV intV k
abbrev lkV (y : VY) : Value := .slice y.p y.v.length y.c
theorem s2_391 : IsS2 Tryz.prog 391 9 3 := ⟨_,_, Tryz.underlying391, by decide, by decide, rfl, rfl, rfl, rfl, by kernel_rfl⟩
theorem key391 : KeyE Tryz.prog 391 wV := key_pair cell9 cell3 s2_391
theorem map275 : IsMapG Tryz.prog 275 wV lkV zVY := ⟨_,_, Tryz.underlying275, key391, by unfold ZeroOf; kernel_rfl⟩
theorem MCloneK (b : Nat) (M : KeyM → Option TY) (w : World) (h : (mapR keyV tV b M).inv w) :
    Calls Tryz.prog 168 #[.map (some b)] w fun e w' => ∃ k : Nat, True ∧ e = .returned (.map (some k)) ∧ St (bs w) [mapR keyV tV k M] w' := by
  obtain ⟨es, c, h1, h2, h3⟩ := h
  refine (AnyW.maps_Clone Tryz.cloneK b es c w h1).mono fun e w' ⟨he, hw⟩ => ⟨w.heap.size, trivial, he, ?_⟩
  subst hw
  have z := (St.refl w).alloc (.map es c)
  have := z.conv 0 (r' := mapR keyV tV w.heap.size M) rfl (fun k hk => hk) ⟨es, c, z.inv 0 _ rfl, h2, h3⟩
  simpa using this
theorem MCloneL (b : Nat) (M : KeyW → Option VY) (w : World) (h : (mapR wV lkV b M).inv w) :
    Calls Tryz.prog 169 #[.map (some b)] w fun e w' => ∃ k : Nat, True ∧ e = .returned (.map (some k)) ∧ St (bs w) [mapR wV lkV k M] w' := by
  obtain ⟨es, c, h1, h2, h3⟩ := h
  refine (AnyW.maps_Clone Tryz.cloneL b es c w h1).mono fun e w' ⟨he, hw⟩ => ⟨w.heap.size, trivial, he, ?_⟩
  subst hw
  have z := (St.refl w).alloc (.map es c)
  have := z.conv 0 (r' := mapR wV lkV w.heap.size M) rfl (fun k hk => hk) ⟨es, c, z.inv 0 _ rfl, h2, h3⟩
  simpa using this
def qM (q : NdQ) (km lm : Nat) : NdQ := { q with km := km, lm := lm }
theorem C168 : IsFn Tryz.prog 168 := ⟨_, Tryz.func168, by decide, rfl⟩
theorem C169 : IsFn Tryz.prog 169 := ⟨_, Tryz.func169, by decide, rfl⟩
theorem flat25 : Flat Tryz.prog 25 2 := ⟨⟨_, Tryz.underlying25⟩, by kernel_rfl, by kernel_rfl⟩
theorem agg59 : IsAgg Tryz.prog 59 8 := ⟨⟨_, Tryz.underlying59, rfl⟩, by kernel_rfl⟩
theorem agg25 : IsAgg Tryz.prog 25 2 := ⟨⟨_, Tryz.underlying25, rfl⟩, by kernel_rfl⟩
theorem one9 : IsOne Tryz.prog 9 := ⟨⟨_, Tryz.underlying9, rfl⟩, by kernel_rfl⟩
theorem one3 : IsOne Tryz.prog 3 := ⟨⟨_, Tryz.underlying3, rfl⟩, by kernel_rfl⟩
theorem self59 (x : RdM) (d : Nat) : SelfE Tryz.prog 59 (d + 2) (.agg #[.string (nmT x.r), .int .i64 x.x, .int .i64 x.y, .int .i64 x.z, .int .i64 2, .int .i64 x.g, .int .i64 1000, .int .i64 0]) := by
  refine SelfE.struct Tryz.underlying59 (by kernel_rfl) fun F hF => ?_
  simp only [List.mem_cons, List.not_mem_nil, or_false] at hF
  rcases hF with rfl | rfl | rfl | rfl | rfl | rfl | rfl | rfl
  · exact ⟨nmV x.r, part_one one9 rfl, SelfE.one cell9 _ _⟩
  all_goals exact ⟨intV _, part_one one3 rfl, SelfE.one cell3 _ _⟩
theorem self270 (x : RdM) : SelfE Tryz.prog 270 10000 (.agg (rdC x).toArray) := by
  refine SelfE.struct (d := 9999) Tryz.underlying270 (by kernel_rfl) fun F hF => ?_
  simp only [List.mem_cons, List.not_mem_nil, or_false] at hF
  rcases hF with rfl | rfl
  · exact ⟨_, part_agg agg59, self59 x 9997⟩
  · exact ⟨_, part_agg agg25, SelfE.flat (xs := [0,0]) flat25 rfl (by decide)⟩
theorem map_fr {α δ : Type} {kE : α → Value} {vE : δ → Value} {M : α → Option δ} {β : Bs} {L : List Res} {w : World} {b km ck : Nat} {o : Obj} {es : Array MapEntry} (hw : St β L w) (i j : Nat) (hi : L[i]? = some (blk b o)) (hj : L[j]? = some (mapR kE vE km M)) (hij : i ≠ j) (hm : w.heap[km]? = some (.map es ck)) : ∀ L2 w2, St ⟨w, fpL [blk b o]⟩ L2 w2 → w2.heap[km]? = some (.map es ck) := fun L2 w2 h2 => by
  refine (h2.fr km (obj_lt hm) fun q => ?_).trans hm
  obtain ⟨n, r, hr, hk⟩ := q
  cases n with
  | zero => cases hr; exact hw.dis i j _ _ hij hi hj km hk rfl
  | succ n => cases hr
theorem guard270 : Tryz.prog.eqGuardType Tryz.prog.depth 270 = false := by kernel_rfl

set_option maxRecDepth 20000 in
set_option maxHeartbeats 2000000 in
theorem CopyN_c (bn : Nat) (q : NdQ) (c : Nat) (M : KeyM → Option TY) (C : KeyW → Option VY) (w : World) (hB : Cells w ⟨bn, 0, none⟩ (ndL q c)) (hK : (mapR keyV tV q.km M).inv w) (hL : (mapR wV lkV q.lm C).inv w) :
  Calls Tryz.prog 97 #[.pointer (some ⟨bn, 0, none⟩)] w fun e w' => ∃ y : Nat × Nat × Nat, True ∧ e = .returned (.pointer (some ⟨y.1,0, none⟩)) ∧ St (bs w) [ndB y.1 (qM q y.2.1 y.2.2) c, mapR keyV tV y.2.1 M, mapR wV lkV y.2.2 C] w' := by
  refine enter (vs := [_]) (env := [(0,_)]) Tryz.func97 rfl rfl rfl rfl ?_
  refine VC.seq ?_
  refine VC.reg (VO.l (LO.as (.r rfl)) rfl<|VO.nil ?_)
  refine VE.seqN ?_
  refine VC.seq ?_
  refine VC.seq ?_
  refine VC.reg (VO.l (LO.mv (.r rfl)) rfl<|VO.l (LO.call (xs := [_]) (vs := [_]) C92 ⟨(.r rfl), trivial⟩ (fun w hw => nothing_c bn q c w (cells_keep hB w hw))) rfl<|VO.nil ?_)
  refine VE.seqN ?_
  refine VC.cond rfl (fun h5 => ?_) (fun h5 => ?_)
  ·
    (exfalso; (simp at h5))
  ·
    refine VC.skip (VE.seqN ?_)
    refine VC.seq ?_
    refine VC.reg (VO.l (LO.mv (.r rfl)) rfl<|VO.l (LO.nc (.r rfl)) rfl<|VO.l (LO.lda (vs := [_,_,_,_,_,_,_,_,_,_,_,_,_,_]) A277 (.r rfl) (cells_keep (sub_cells (off := 0) hB ⟨_, rfl⟩)) rfl) rfl<|VO.h rfl<|HO.alloc (C := #[_,_,_,_,_,_,_,_,_,_,_,_,_,_]) Z277 rfl fun b1 => VO.h0<|HO.st 0 (vs := [_,_,_,_,_,_,_,_,_,_,_,_,_,_]) (C' := [_,_,_,_,_,_,_,_,_,_,_,_,_,_]) (L' := [_]) N277 rfl rfl rfl rfl rfl rfl rfl rfl<|VO.nil ?_)
    refine VE.seqN ?_
    refine VC.seq ?_
    refine VC.drawH [[0], [0], [0], [], []] [some 0, some 0, some 0, some 0, none, some 1, some 1, some 1, some 1, none, some 2, none, some 3, none] mixed (by kernel_rfl) rfl (LX.l (fun _ hJ => LO.mv (.r rfl)) rfl<|LX.l (fun _ hJ => LO.nc (.r rfl)) rfl<|LX.l (fun _ hJ => LO.fa (r := 11) F277_3 (.r rfl) rfl) rfl<|LX.l (fun _ hJ => LO.ld O274 (.r rfl) (cells_keep (sub_cells (off := 11) hB ⟨_, rfl⟩))) rfl<|LX.s<|LX.l (fun _ hJ => LO.mv (.r rfl)) rfl<|LX.l (fun _ hJ => LO.nc (.r rfl)) rfl<|LX.l (fun _ hJ => LO.fa (r := 13) F277_5 (.r rfl) rfl) rfl<|LX.l (fun _ hJ => LO.ld O275 (.r rfl) (cells_keep (sub_cells (off := 13) hB ⟨_, rfl⟩))) rfl<|LX.s<|LX.l (fun _ hJ => LO.fa (r := 11) F277_3 (.r rfl) rfl) rfl<|LX.s<|LX.l (fun _ hJ => LO.fa (r := 13) F277_5 (.r rfl) rfl) rfl<|LX.s<|LX.nil) (HX.s<|HX.s<|HX.s<|HX.s<|HX.h rfl<|HO.callx (xs := [_]) (vs := [_]) C168 ⟨(.r rfl), trivial⟩ (fun w hw => MCloneK q.km M w (mapR_keep hK hw)) fun mk _ => ⟨fun _ hw => hw.sel [1] rfl, HX.s<|HX.s<|HX.s<|HX.s<|HX.h rfl<|HO.callx (xs := [_]) (vs := [_]) C169 ⟨(.r rfl), trivial⟩ (fun w hw => MCloneL q.lm C w (mapR_keep hL hw)) fun ml _ => ⟨fun _ hw => hw.sel [2] rfl, HX.s<|HX.h0<|HO.st 2 (vs := [_]) (C' := [_,_,_,_,_,_,_,_,_,_,_,_,_,_]) (L' := [_,_,_]) N274 rfl rfl rfl rfl rfl rfl rfl rfl<|⟨fun _ hw => hw.sel [] rfl, HX.s<|HX.h0<|HO.st 2 (vs := [_]) (C' := [_,_,_,_,_,_,_,_,_,_,_,_,_,_]) (L' := [_,_,_]) N275 rfl rfl rfl rfl rfl rfl rfl rfl<|⟨fun _ hw => hw.sel [] rfl, HX.nil ?_⟩⟩⟩⟩)
    refine VE.seqN ?_
    refine VC.seq ?_
    refine VC.reg (VO.l (LO.as (.r rfl)) rfl<|VO.nil ?_)
    refine VE.seqN ?_
    refine VC.ret (VE.res (vs := [_]) rfl ⟨rfl, trivial⟩ (fun w hw => ?_))
    exact ⟨(b1, mk, ml), trivial, rfl, hw.sel [2,1,0] rfl⟩

set_option maxRecDepth 20000 in
set_option maxHeartbeats 1000000 in
theorem moveN_c (bn : Nat) (q : NdQ) (c : Nat) (t : Int) (e0 : t = 0) (M : KeyM → Option TY) (es : Array MapEntry) (ck : Nat) (hM : MapG keyV tV es.toList M) (hSt : Stamps es.toList ck) (hc : c < 1000000) (ht : ∀ k, (M k).isSome = true → 0 ≤ k.2.2) (w : World) (hh : Has w [ndB bn q c]) (hmp : ∀ L w2, St ⟨w, fpL [ndB bn q c]⟩ L w2 → w2.heap[q.km]? = some (.map es ck)) :
  Calls Tryz.prog 98 #[.pointer (some ⟨bn, 0, none⟩), .int .i64 t] w fun e w' => ∃ _u : Unit, True ∧ e = .returned (.int .i64 0) ∧ St ⟨w, fpL [ndB bn q c]⟩ [ndB bn q c] w' := by
  subst e0
  have hinj : ∀ {a b : KeyM}, keyV a = keyV b → a = b := keyV_inj
  refine enterO (vs := [_,_]) (env := [(0,_), (1,_)]) hh.enter Tryz.func98 rfl rfl rfl rfl ?_
  refine VC.seq ?_
  refine VC.reg (VO.l (LO.as (.r rfl)) rfl<|VO.nil ?_)
  refine VE.seqN ?_
  refine VC.seq ?_
  refine VC.reg (VO.l (LO.mv (.r rfl)) rfl<|VO.l (LO.nc (.r rfl)) rfl<|VO.l (LO.fa (r := 12) F277_4 (.r rfl) rfl) rfl<|VO.l (LO.ld O3 (.r rfl) (fun _ hw => cells_at hw 0 rfl ⟨_, rfl⟩)) rfl<|VO.l (LO.as (.r rfl)) rfl<|VO.nil ?_)
  refine VE.seqN ?_
  refine VC.seq ?_
  refine VC.reg (VO.l (LO.mv (.r rfl)) rfl<|VO.l (LO.mv (.r rfl)) rfl<|VO.l (LO.nc (.r rfl)) rfl<|VO.l (LO.fa (r := 10) F277_2 (.r rfl) rfl) rfl<|VO.h0<|HO.st 0 (vs := [_]) (C' := [_,_,_,_,_,_,_,_,_,_,_,_,_,_]) (L' := [_]) N3 rfl rfl rfl rfl rfl rfl rfl rfl<|VO.nil ?_)
  refine VE.seqN ?_
  refine VC.seq ?_
  refine VC.seq ?_
  refine VC.reg (VO.l (LO.mv (.r rfl)) rfl<|VO.l (LO.nc (.r rfl)) rfl<|VO.l (LO.fa (r := 11) F277_3 (.r rfl) rfl) rfl<|VO.l (LO.ld O274 (.r rfl) (fun _ hw => cells_at hw 0 rfl ⟨_, rfl⟩)) rfl<|VO.h rfl<|HO.rangeM Tryz.underlying274 rfl (fun _ hw => hmp _ _ hw) fun b3 => VO.nil ?_)
  refine VE.seqN ?_
  refine VC.block ?_
  refine VC.loopK (α := (Array Nat) × (List KeyM)) 1 (fun gx => []) [(0,_), (1,_), (5,_), (20,_)] (fun gx => [blk b3 (.mapIter (some q.km) ck gx.1 ck)]) (fun gx => SeenK keyV es.toList gx.1 gx.2) (fun gx => (leftOf es gx.1).size) (#[], []) (by exact SeenK.zero) (.cons rfl (.cons rfl (.cons rfl (.cons rfl .nil)))) (fun _ h => h) ?_
  rintro ⟨seen, ks⟩ hSe
  show VC _ _ _ _ _ ([] ++ _) ([blk b3 (.mapIter (some q.km) ck seen ck)] ++ _) _ _
  dsimp only at hSe
  refine VC.seq ?_
  by_cases h0 : (leftOf es seen).size = 0
  ·
    refine VC.reg (VO.h rfl<|HO.nextM0 0 rfl rfl (fun _ hw => hmp _ _ hw) hSt.2 (Nat.le_refl _) h0<|VO.h rfl<|HO.lo (LO.ex (.r rfl) rfl)<|VO.nil ?_)
    refine VE.seqN ?_
    refine VC.seq ?_
    refine VC.cond rfl (fun h22 => ?_) (fun h22 => ?_)
    ·
      (exfalso; cases h22)
    ·
      refine VC.exit (VE.thenX (VE.thenX (VE.inX (VE.seqN ?_))))
      refine VC.seq ?_
      refine VC.reg (VO.l (LO.mv (.r rfl)) rfl<|VO.l (LO.mv (.r rfl)) rfl<|VO.l (LO.nc (.r rfl)) rfl<|VO.l (LO.fa (r := 12) F277_4 (.r rfl) rfl) rfl<|VO.l (LO.ld O3 (.r rfl) (fun _ hw => cells_at hw 1 rfl ⟨_, rfl⟩)) rfl<|VO.l (LO.sub (.r rfl) (.r rfl) (wi (by omega) (by omega))) rfl<|VO.l (LO.as (.r rfl)) rfl<|VO.nil ?_)
      refine VE.seqN ?_
      refine VC.ret (VE.res (vs := [_]) rfl ⟨rfl, trivial⟩ (fun w hw => ?_))
      exact ⟨(), trivial, by simp only [resV, Int.sub_self], hw.sel [1] rfl⟩
  ·
    refine VC.reg (VO.h rfl<|HO.nextM1 0 (fun R => [R,_]) rfl rfl (fun _ => rfl) (fun _ hw => hmp _ _ hw) hSt.2 (Nat.le_refl _) h0 fun e he => VO.h rfl<|HO.lo (LO.ex (.r rfl) rfl)<|VO.nil ?_)
    refine VE.seqN ?_
    refine VC.seq ?_
    refine VC.cond rfl (fun h22 => ?_) (fun h22 => ?_)
    ·
      refine VC.skip (VE.seqN ?_)
      refine VC.block ?_
      refine VC.seq ?_
      obtain ⟨k, hk, hkn, hkM, hSe2⟩ := hSe.next hinj hM hSt he
      have hk0 := ht k hkM
      refine VC.reg (VO.l (LO.entryK (.r rfl) (fun _ hw => St.inv hw 0 _ rfl) (fun _ hw => hmp _ _ hw) (left_mem.1 he).1 hSt.1 hk) rfl<|VO.l (LO.ex (.r rfl) rfl) rfl<|VO.l (LO.ex (.r rfl) rfl) rfl<|VO.h rfl<|HO.alloc (C := #[_,_,_]) Z139 rfl fun b4 => VO.h0<|HO.st 0 (vs := [_,_,_]) (C' := [_,_,_]) (L' := [_,_,_]) N139 rfl rfl rfl rfl rfl rfl rfl rfl<|VO.l (LO.as (.r rfl)) rfl<|VO.nil ?_)
      refine VE.seqN ?_
      refine VC.seq ?_
      refine VC.reg (VO.l (LO.fa (r := 2) F139_2 (.r rfl) rfl) rfl<|VO.l (LO.ld O3 (.r rfl) (fun _ hw => cells_at hw 0 rfl ⟨_, rfl⟩)) rfl<|VO.l (LO.mv (.r rfl)) rfl<|VO.l (LO.lt (.r rfl) (.r rfl)) rfl<|VO.nil ?_)
      refine VE.seqN ?_
      refine VC.cond rfl (fun h29 => ?_) (fun h29 => ?_)
      ·
        (exfalso; omega)
      ·
        refine VC.skip (VE.inN ?_)
        refine VE.thenN fun a w ha hw => ⟨(seen.push e.born, ks ++ [k]), hSe2, (by dsimp only; exact left_lt he), ha.sub (.cons rfl (.cons rfl (.cons rfl (.cons rfl .nil)))), hw.sel [1,2] rfl⟩
    ·
      (exfalso; exact h22 rfl)

set_option maxRecDepth 20000 in
theorem EqualR_t (l : List RdM) (p p2 : Option Addr) (c c2 : Nat) (w : World) (hn : l.length < 1000000) (h1 : RO 10 rdC w p l) (h2 : RO 10 rdC w p2 l) :
  Calls Tryz.prog 167 #[.slice p l.length c, .slice p2 l.length c2] w fun e w' => e = .returned (.bool true) ∧ St (bs w) [] w' := by
  refine enter (vs := [_,_]) (env := [(0,_), (1,_)]) Tryz.func167 rfl rfl rfl rfl ?_
  refine VC.seq ?_
  refine VC.reg (VO.l (LO.as (.r rfl)) rfl<|VO.nil ?_)
  refine VE.seqN ?_
  refine VC.seq ?_
  refine VC.seq ?_
  refine VC.reg (VO.l (LO.mv (.r rfl)) rfl<|VO.l (LO.len S129 (.r rfl) rfl) rfl<|VO.l (LO.mv (.r rfl)) rfl<|VO.l (LO.len S129 (.r rfl) rfl) rfl<|VO.l (LO.ne (.r rfl) (.r rfl)) rfl<|VO.nil ?_)
  refine VE.seqN ?_
  refine VC.cond rfl (fun h10 => ?_) (fun h10 => ?_)
  ·
    (exfalso; (exact h10 rfl))
  ·
    refine VC.skip (VE.seqN ?_)
    refine VC.seq ?_
    refine VC.seq ?_
    refine VC.reg (VO.l (LO.mv (.r rfl)) rfl<|VO.l (LO.len S129 (.r rfl) rfl) rfl<|VO.l (LO.mv (.r rfl)) rfl<|VO.nil ?_)
    refine VE.seqN ?_
    refine VC.block ?_
    refine VC.loopK (α := Nat) 0 (fun gx => [(13, .int .i64 (gx : Nat))]) [(0,_), (1,_), (12,_)] (fun gx => []) (fun gx => gx ≤ l.length) (fun gx => l.length - gx) 0 (by exact Nat.zero_le _) (.cons rfl (.cons rfl (.cons rfl (.cons rfl .nil)))) (fun _ h => h) ?_
    rintro i hi
    refine VC.seq ?_
    refine VC.reg (VO.l (LO.lt (.r rfl) (.r rfl)) rfl<|VO.nil ?_)
    refine VE.seqN ?_
    refine VC.seq ?_
    refine VC.cond rfl (fun h14 => ?_) (fun h14 => ?_)
    ·
      obtain ⟨x, hx⟩ : ∃ x, l[i]? = some x := ⟨_, List.getElem?_eq_getElem (by omega)⟩
      refine VC.skip (VE.seqN ?_)
      refine VC.seq ?_
      refine VC.block ?_
      refine VC.seq ?_
      refine VC.reg (VO.l (LO.mv (.r rfl)) rfl<|VO.l (LO.as (.r rfl)) rfl<|VO.nil ?_)
      refine VE.seqN ?_
      refine VC.seq ?_
      refine VC.draw mixed (LL.l (LO.mv (.r rfl)) rfl<|LL.l (LO.mv (.r rfl)) rfl<|LL.l (LO.ixs S129 N270 h1.sm (.r rfl) (.r rfl) rfl (by omega)) rfl<|LL.l (LO.lda (vs := [_,_,_,_,_,_,_,_,_,_]) A270 (.r rfl) (fun w hw => cells_part (off := 0) ((fun w2 hw2 => (h1.keep w2 hw2).cells _ _ (by rw [List.getElem?_map, hx]; rfl)) w hw) ⟨_, rfl⟩) rfl) rfl<|LL.l (LO.mv (.r rfl)) rfl<|LL.l (LO.mv (.r rfl)) rfl<|LL.l (LO.ixs S129 N270 h2.sm (.r rfl) (.r rfl) rfl (by omega)) rfl<|LL.l (LO.lda (vs := [_,_,_,_,_,_,_,_,_,_]) A270 (.r rfl) (fun w hw => cells_part (off := 0) ((fun w2 hw2 => (h2.keep w2 hw2).cells _ _ (by rw [List.getElem?_map, hx]; rfl)) w hw) ⟨_, rfl⟩) rfl) rfl<|LL.l (LO.neSelf (self270 x) guard270 (.r rfl) (.r rfl)) rfl<|LL.nil) (by kernel_rfl) ?_
      refine VE.seqN ?_
      refine VC.cond rfl (fun h24 => ?_) (fun h24 => ?_)
      ·
        (exfalso; (cases h24))
      ·
        refine VC.skip (VE.inN (VE.seqN ?_))
        refine VC.reg (VO.l (LO.add (.r rfl) (.r rfl) (wi (by omega) (by omega))) rfl<|VO.l (LO.mv (.r rfl)) rfl<|VO.nil ?_)
        refine VE.thenN fun a w ha hw => ⟨i + 1, (by omega), (by omega), ha.sub (.cons rfl (.cons rfl (.cons rfl (.cons rfl .nil)))), hw⟩
    ·
      refine VC.exit (VE.thenX (VE.thenX (VE.inX (VE.seqN ?_))))
      refine VC.seq ?_
      refine VC.reg (VO.l (LO.as (.r rfl)) rfl<|VO.nil ?_)
      refine VE.seqN ?_
      refine VC.ret (VE.res (vs := [_]) rfl ⟨rfl, trivial⟩ (fun w hw => ?_))
      exact ⟨rfl, hw.nil⟩

set_option maxRecDepth 20000 in
theorem equalS_t (ww hh ww2 hh2 : Int) (n n2 : Nat) (ew : ww2 = ww) (eh : hh2 = hh) (l : List RdM) (e1 : n = l.length) (e2 : n2 = l.length) (p p2 : Option Addr) (c c2 : Nat) (w : World) (hn : l.length < 1000000) (h1 : RO 10 rdC w p l) (h2 : RO 10 rdC w p2 l) :
  Calls Tryz.prog 96 #[.agg #[.int .i64 0, .int .i64 0, .int .i64 1000, .int .i64 ww, .int .i64 hh, .int .i64 8000000, .int .i64 9000000, .slice p n c, .int .i64 600], .agg #[.int .i64 0, .int .i64 0, .int .i64 1000, .int .i64 ww2, .int .i64 hh2, .int .i64 8000000, .int .i64 9000000, .slice p2 n2 c2, .int .i64 600]] w fun e w' => e = .returned (.bool true) ∧ St (bs w) [] w' := by
  subst ew
  subst eh
  subst e1
  subst e2
  refine enter (vs := [_,_]) (env := [(0,_), (1,_)]) Tryz.func96 rfl rfl rfl rfl ?_
  refine VC.seq ?_
  refine VC.reg (VO.h rfl<|HO.box (C := #[_,_,_,_,_,_,_,_,_]) rfl rfl fun b1 => VO.h rfl<|HO.box (C := #[_,_,_,_,_,_,_,_,_]) rfl rfl fun b2 => VO.l (LO.as (.r rfl)) rfl<|VO.nil ?_)
  refine VE.seqN ?_
  refine VC.seq ?_
  refine VC.reg (VO.l (LO.fa (r := 0) F131_0 (.r rfl) rfl) rfl<|VO.l (LO.lda (vs := [_,_,_,_,_]) A88 (.r rfl) (fun _ hw => cells_at hw 1 rfl ⟨_, rfl⟩) rfl) rfl<|VO.l (LO.fa (r := 0) F131_0 (.r rfl) rfl) rfl<|VO.l (LO.lda (vs := [_,_,_,_,_]) A88 (.r rfl) (fun _ hw => cells_at hw 0 rfl ⟨_, rfl⟩) rfl) rfl<|VO.l (LO.eqA («as» := [_,_,_,_,_]) (bs := [_,_,_,_,_]) EA88 (.r rfl) (.r rfl) rfl rfl) rfl<|VO.l (LO.mv (.r rfl)) rfl<|VO.lg rfl rfl (GD.t _) (fun hg => LO.fa (r := 5) F131_1 (.r rfl) rfl) rfl<|VO.lg rfl rfl (GD.t _) (fun hg => LO.lda (vs := [_,_]) A25 (.g hg rfl) (fun _ hw => cells_at hw 1 rfl ⟨_, rfl⟩) rfl) rfl<|VO.lg rfl rfl (GD.t _) (fun hg => LO.fa (r := 5) F131_1 (.r rfl) rfl) rfl<|VO.lg rfl rfl (GD.t _) (fun hg => LO.lda (vs := [_,_]) A25 (.g hg rfl) (fun _ hw => cells_at hw 0 rfl ⟨_, rfl⟩) rfl) rfl<|VO.lg rfl rfl (GD.t _) (fun hg => LO.eqA («as» := [_,_]) (bs := [_,_]) EA25 (.g hg rfl) (.g hg rfl) rfl rfl) rfl<|VO.l (LO.pkA (.r rfl) rfl rfl (.r rfl)) rfl<|VO.l (LO.mv (.r rfl)) rfl<|VO.lg rfl rfl (GD.t _) (fun hg => LO.fa (r := 8) F131_3 (.r rfl) rfl) rfl<|VO.lg rfl rfl (GD.t _) (fun hg => LO.ld O3 (.g hg rfl) (fun _ hw => cells_at hw 1 rfl ⟨_, rfl⟩)) rfl<|VO.lg rfl rfl (GD.t _) (fun hg => LO.fa (r := 8) F131_3 (.r rfl) rfl) rfl<|VO.lg rfl rfl (GD.t _) (fun hg => LO.ld O3 (.g hg rfl) (fun _ hw => cells_at hw 0 rfl ⟨_, rfl⟩)) rfl<|VO.lg rfl rfl (GD.t _) (fun hg => LO.eq (.g hg rfl) (.g hg rfl)) rfl<|VO.l (LO.pkA (.r rfl) rfl rfl (.r rfl)) rfl<|VO.l (LO.mv (.r rfl)) rfl<|VO.lg rfl rfl (GD.t _) (fun hg => LO.fa (r := 7) F131_2 (.r rfl) rfl) rfl<|VO.lg rfl rfl (GD.t _) (fun hg => LO.ld O129 (.g hg rfl) (fun _ hw => cells_at hw 1 rfl ⟨_, rfl⟩)) rfl<|VO.lg rfl rfl (GD.t _) (fun hg => LO.fa (r := 7) F131_2 (.r rfl) rfl) rfl<|VO.lg rfl rfl (GD.t _) (fun hg => LO.ld O129 (.g hg rfl) (fun _ hw => cells_at hw 0 rfl ⟨_, rfl⟩)) rfl<|VO.lg rfl rfl (GD.t _) (fun hg => LO.call (xs := [_,_]) (vs := [_,_]) C167 ⟨(.g hg rfl), (.g hg rfl), trivial⟩ (fun w hw => EqualR_t l p p2 c c2 w hn (h1.keep w hw) (h2.keep w hw))) rfl<|VO.l (LO.pkA (.r rfl) rfl rfl (.r rfl)) rfl<|VO.l (LO.as (.r rfl)) rfl<|VO.nil ?_)
  refine VE.seqN ?_
  refine VC.ret (VE.res (vs := [_]) rfl ⟨rfl, trivial⟩ (fun w hw => ?_))
  exact ⟨by simp [resV], hw.nil⟩

end Go.Proofs.YtffbohecdocajaaGreat

namespace Go.Proofs.YtffbohecdocajaaGreat
open Go.SL Go.Proofs Go.Pulse
set_option linter.unusedVariables false

theorem A131 : IsAgg Tryz.prog 131 9 := ⟨⟨_, Tryz.underlying131, rfl⟩, by kernel_rfl⟩
theorem C96 : IsFn Tryz.prog 96 := ⟨_, Tryz.func96, by decide, rfl⟩
theorem C97 : IsFn Tryz.prog 97 := ⟨_, Tryz.func97, by decide, rfl⟩
theorem C98 : IsFn Tryz.prog 98 := ⟨_, Tryz.func98, by decide, rfl⟩
theorem C99 : IsFn Tryz.prog 99 := ⟨_, Tryz.func99, by decide, rfl⟩


theorem allP_len {S : KeyM → List (List Span)} {ks : List KeyM} {c : Nat} (h : NdN S c) (hk : KeysOf S ks) (hs : ∀ k, SrtV (S k)) : (allP S ks).length ≤ c := by
  obtain ⟨ps, h1, h2, h3⟩ := h.h
  have hn : (allP S ks).Nodup := by
    unfold allP
    rw [List.Nodup, List.pairwise_flatMap]
    refine ⟨fun k _ => ?_, hk.s.imp fun {a b} q x hx y hy e => ?_⟩
    · rw [List.pairwise_map]
      exact (hs k).imp fun {a b} q e => by
        have := (Prod.mk.inj e).2
        rw [this] at q
        exact cmpV_irr b q
    · obtain ⟨u,_, rfl⟩ := List.mem_map.1 hx
      obtain ⟨v,_, rfl⟩ := List.mem_map.1 hy
      have := (Prod.mk.inj e).1
      rw [this] at q
      exact cmpK_irr b q
  have := List.Nodup.length_le_of_subset hn (l₂ := ps) fun x hx => (h2 x.1 x.2).2 ((allP_mem hk x.1 x.2).1 hx)
  omega
/-- What a merge is found by, besides the node that it changes. -/
structure MrgF (qa qb : NdQ) (bn cb : Nat) (Mb : KeyM → Option TY) (Ca : KeyW → Option VY) (rds : List RdM) (w : World) : Prop where
  b : Cells w ⟨bn, 0, none⟩ (ndL qb cb)
  k : (mapR keyV tV qb.km Mb).inv w
  r : RO 10 rdC w qa.pr rds
  r2 : RO 10 rdC w qb.pr rds
  l : (mapR wV lkV qa.lm Ca).inv w
/-- What comes of a merge. -/
structure MrgP (Sa Sb : KeyM → List (List Span)) (ts : List TY) (vs : List VY) (ca cb : Nat) (y : (KeyM → List (List Span)) × NdY) : Prop where
  s : NdS y.1 y.2.1 y.2.2.1 y.2.2.2.1 y.2.2.2.2
  m : ∀ k v, v ∈ y.1 k ↔ v ∈ Sa k ∨ v ∈ Sb k
  t : ∀ e, e ∈ ts → e ∈ y.2.2.1
  v : ∀ e, e ∈ vs → e ∈ y.2.2.2.1
  c : y.2.2.2.2 ≤ ca + cb
theorem mrg_0 {Sa : KeyM → List (List Span)} {l : List MgY} (k : KeyM) (v : List Span) : v ∈ Sa k ↔ v ∈ Sa k ∨ (k, v) ∈ (l.take 0).map mgP := by simp
theorem mrg_put {Sa S : KeyM → List (List Span)} {l : List MgY} {i : Nat} {m : MgY} (hm : l[i]? = some m) (h : ∀ k v, v ∈ S k ↔ v ∈ Sa k ∨ (k, v) ∈ (l.take i).map mgP) (k : KeyM) (v : List Span) : v ∈ addS S m.1 m.2.v k ↔ v ∈ Sa k ∨ (k, v) ∈ (l.take (i + 1)).map mgP := by
  rw [addS_mem, h, List.take_add_one, hm, List.map_append, List.mem_append]
  simp only [Option.toList_some, List.map_cons, List.map_nil, List.mem_singleton, Prod.mk.injEq]
  rw [or_assoc]
theorem mrg_has {Sa S : KeyM → List (List Span)} {l : List MgY} {i : Nat} {m : MgY} (hm : l[i]? = some m) (h : ∀ k v, v ∈ S k ↔ v ∈ Sa k ∨ (k, v) ∈ (l.take i).map mgP) (hin : m.2.v ∈ S m.1) (k : KeyM) (v : List Span) : v ∈ S k ↔ v ∈ Sa k ∨ (k, v) ∈ (l.take (i + 1)).map mgP := by
  have := mrg_put hm h k v
  unfold addS at this
  rw [if_pos hin] at this
  exact this

set_option maxRecDepth 20000 in
set_option maxHeartbeats 8000000 in
theorem Merge_c (an bn : Nat) (qa qb : NdQ) (ca cb : Nat) (Sa Sb : KeyM → List (List Span)) (Ma Mb : KeyM → Option TY) (ts : List TY) (vs : List VY) (Ca : KeyW → Option VY) (rds : List RdM) (w : World) (hSa : NdS Sa Ma ts vs ca) (hSb : NdS Sb Mb ts vs cb) (hcc : ca + cb ≤ 256) (hta : ∀ k, Sa k ≠ [] → 0 ≤ k.2.2) (htb : ∀ k, Sb k ≠ [] → 0 ≤ k.2.2) (hqw : qb.w = qa.w) (hqh : qb.h = qa.h) (hna : qa.nr = rds.length) (hnb : qb.nr = rds.length) (hrn : rds.length < 1000) (hh : Has w [ndB an qa ca, mapR keyV tV qa.km Ma, bagD (ts.map tOwn), bagD (vs.map vOwn)]) (hF : ∀ L w2, St ⟨w, fpL [ndB an qa ca, mapR keyV tV qa.km Ma, bagD (ts.map tOwn), bagD (vs.map vOwn)]⟩ L w2 → MrgF qa qb bn cb Mb Ca rds w2) :
  Calls Tryz.prog 38 #[.pointer (some ⟨an, 0, none⟩), .pointer (some ⟨bn, 0, none⟩)] w fun e w' => ∃ y : ((KeyM → List (List Span)) × NdY) × Nat, MrgP Sa Sb ts vs ca cb y.1 ∧ e = .returned (.tuple #[.int .i64 ((y.1.2.2.2.2 : Nat) - (ca : Nat)), .int .i64 0]) ∧ St ⟨w, fpL [ndB an qa ca, mapR keyV tV qa.km Ma, bagD (ts.map tOwn), bagD (vs.map vOwn)]⟩ [ndB an (qM qa y.2 qa.lm) y.1.2.2.2.2, mapR keyV tV (qM qa y.2 qa.lm).km y.1.2.1, bagD (y.1.2.2.1.map tOwn), bagD (y.1.2.2.2.1.map vOwn)] w' := by
  have hta2 : ∀ k, (Ma k).isSome = true → 0 ≤ k.2.2 := fun k h => hta k ((hSa.k.ne k).2 h)
  refine enterO (vs := [_,_]) (env := [(0,_), (1,_)]) hh.enter Tryz.func38 rfl rfl rfl rfl ?_
  refine VC.seq ?_
  refine VC.reg (VO.l (LO.as (.r rfl)) rfl<|VO.l (LO.as (.r rfl)) rfl<|VO.nil ?_)
  refine VE.seqN ?_
  refine VC.seq ?_
  refine VC.block ?_
  refine VC.seq ?_
  refine VC.reg (VO.l (LO.mv (.r rfl)) rfl<|VO.l (LO.call (xs := [_]) (vs := [_]) C92 ⟨(.r rfl), trivial⟩ (fun w hw => nothing_c an qa ca w (cells_inv (hw.inv 0 _ rfl)))) rfl<|VO.l (LO.mv (.r rfl)) rfl<|VO.lg rfl rfl (GD.f _) (fun hg => LO.mv (.r rfl)) rfl<|VO.lg rfl rfl (GD.f _) (fun hg => LO.call (xs := [_]) (vs := [_]) C92 ⟨(.g hg rfl), trivial⟩ (fun w hw => nothing_c bn qb cb w (hF _ _ hw).b)) rfl<|VO.l (LO.pkO (.r rfl) (.r rfl) rfl rfl) rfl<|VO.l (LO.as (.r rfl)) rfl<|VO.nil ?_)
  refine VE.seqN ?_
  refine VC.cond rfl (fun h12 => ?_) (fun h12 => ?_)
  ·
    (exfalso; (simp at h12))
  ·
    refine VC.seq ?_
    refine VC.draw mixed (LL.l (LO.mv (.r rfl)) rfl<|LL.l (LO.nc (.r rfl)) rfl<|LL.l (LO.fa (r := 0) F277_0 (.r rfl) rfl) rfl<|LL.l (LO.lda (vs := [_,_,_,_,_,_,_,_,_]) A131 (.r rfl) (fun _ hw => cells_at hw 0 rfl ⟨_, rfl⟩) rfl) rfl<|LL.l (LO.mv (.r rfl)) rfl<|LL.l (LO.nc (.r rfl)) rfl<|LL.l (LO.fa (r := 0) F277_0 (.r rfl) rfl) rfl<|LL.l (LO.lda (vs := [_,_,_,_,_,_,_,_,_]) A131 (.r rfl) (fun _ hw => sub_cells (off := 0) (hF _ _ hw).b ⟨_, rfl⟩) rfl) rfl<|LL.l (LO.call (xs := [_,_]) (vs := [_,_]) C96 ⟨(.r rfl), (.r rfl), trivial⟩ (fun w hw => equalS_t qa.w qa.h qb.w qb.h qa.nr qb.nr (by rw [hqw]) (by rw [hqh]) rds hna hnb qa.pr qb.pr qa.cr qb.cr w (by omega) (hF _ _ hw).r (hF _ _ hw).r2)) rfl<|LL.l (LO.not (.r rfl)) rfl<|LL.l (LO.as (.r rfl)) rfl<|LL.nil) (by kernel_rfl) ?_
    refine VE.seqN ?_
    refine VC.cond rfl (fun h19 => ?_) (fun h19 => ?_)
    ·
      (exfalso; (simp at h19))
    ·
      refine VC.skip (VE.inN (VE.seqN ?_))
      refine VC.seq ?_
      refine VC.reg (VO.l (LO.mv (.r rfl)) rfl<|VO.h rfl<|HO.callx (xs := [_]) (vs := [_]) C97 ⟨(.r rfl), trivial⟩ (fun w hw => CopyN_c an qa ca Ma Ca w (cells_inv (hw.inv 0 _ rfl)) (hw.inv 1 _ rfl) (hF _ _ hw).l) fun yc _ => VO.l (LO.as (.r rfl)) rfl<|VO.nil ?_)
      refine VE.seqN ?_
      refine VC.seq ?_
      refine VC.drawH [[0,1,2,3,4,5,6], [1,2,3,4,5,6]] [some 0, some 0, some 0, some 0, some 0, some 0, some 0, some 0, some 0, some 0, none] mixed (by kernel_rfl) rfl (LX.l (fun _ hJ => LO.mv (.r rfl)) rfl<|LX.l (fun _ hJ => LO.mv (.r rfl)) rfl<|LX.l (fun _ hJ => LO.nc (.r rfl)) rfl<|LX.l (fun _ hJ => LO.fa (r := 10) F277_2 (.r rfl) rfl) rfl<|LX.l (fun _ hJ => LO.ld O3 (.r rfl) (fun _ hw => cells_at (hJ _ hw) 3 rfl ⟨_, rfl⟩)) rfl<|LX.l (fun _ hJ => LO.mv (.r rfl)) rfl<|LX.l (fun _ hJ => LO.nc (.r rfl)) rfl<|LX.l (fun _ hJ => LO.fa (r := 10) F277_2 (.r rfl) rfl) rfl<|LX.l (fun _ hJ => LO.ld O3 (.r rfl) (fun _ hw => sub_cells (off := 10) (hF _ _ (hJ _ hw)).b ⟨_, rfl⟩)) rfl<|LX.l (fun _ hJ => LO.max (.r rfl) (.r rfl)) rfl<|LX.s<|LX.nil) (HX.s<|HX.s<|HX.s<|HX.s<|HX.s<|HX.s<|HX.s<|HX.s<|HX.s<|HX.s<|HX.h rfl<|HO.callP (first := []) (cap := []) (xs := [_,_]) (vs := [_,_]) [_] [_,_,_,_,_,_] (selK (L1 := [_] ++ [_,_,_,_,_,_]) [0,1,2,3,4,5,6] rfl rfl) (.r rfl) C98 ⟨(.r rfl), (.r rfl), trivial⟩ (fun w hw hh => by
      obtain ⟨es, ck, h1, h2, h3⟩ := hw.inv 1 _ rfl
      exact moveN_c yc.1 (qM qa yc.2.1 yc.2.2) ca (max 0 0) (by decide) Ma es ck h2 h3 (by omega) hta2 w hh (map_fr hw 0 1 rfl rfl (by decide) h1)) fun _ _ => ⟨fun _ hw => hw.sel [1,2,3,4,5,6] rfl, HX.nil ?_⟩)
      refine VE.seqN ?_
      refine VC.seq ?_
      refine VC.reg (VO.l (LO.mv (.r rfl)) rfl<|VO.l (LO.nc (.r rfl)) rfl<|VO.l (LO.fa (r := 12) F277_4 (.r rfl) rfl) rfl<|VO.l (LO.ld O3 (.r rfl) (fun _ hw => cells_at hw 0 rfl ⟨_, rfl⟩)) rfl<|VO.l (LO.as (.r rfl)) rfl<|VO.nil ?_)
      refine VE.seqN ?_
      refine VC.seq ?_
      refine VC.seq ?_
      refine VC.reg (VO.l (LO.mv (.r rfl)) rfl<|VO.h rfl<|HO.callx (xs := [_]) (vs := [_]) C99 ⟨(.r rfl), trivial⟩ (fun w hw => all_c bn qb cb Sb Mb ts vs w hSb (by omega) ⟨(hF _ _ hw).b, (hF _ _ hw).k, (NdW.of hw 3 4 5 6 rfl rfl rfl rfl).T, (NdW.of hw 3 4 5 6 rfl rfl rfl rfl).V⟩) fun yl ⟨⟨ks, hks, hpl⟩, hml, hll⟩ => VO.l (LO.len S285 (.r rfl) rfl) rfl<|VO.l (LO.mv (.r rfl)) rfl<|VO.nil ?_)
      refine VE.seqN ?_
      refine VC.block ?_
      refine VC.perm [2,3,7,8,0,1,4,5,6] rfl ?_
      refine VC.loopK (α := Nat × (KeyM → List (List Span)) × (KeyM → Option TY) × (List TY) × (List VY) × Nat) 4 (fun gx => [(50, .int .i64 (gx.1 : Nat))]) [(0,_), (6,_), (7,_), (48,_), (49,_)] (fun gx => [ndB yc.1 (qM qa yc.2.1 yc.2.2) gx.2.2.2.2.2, mapR keyV tV (qM qa yc.2.1 yc.2.2).km gx.2.2.1, bagD (gx.2.2.2.1.map tOwn), bagD (gx.2.2.2.2.1.map vOwn)]) (fun gx => gx.1 ≤ yl.1.1.length ∧ NdS gx.2.1 gx.2.2.1 gx.2.2.2.1 gx.2.2.2.2.1 gx.2.2.2.2.2 ∧ gx.2.2.2.2.2 ≤ ca + gx.1 ∧ (∀ k v, v ∈ gx.2.1 k ↔ v ∈ Sa k ∨ (k, v) ∈ (yl.1.1.take gx.1).map mgP) ∧ (∀ e, e ∈ ts → e ∈ gx.2.2.2.1) ∧ (∀ e, e ∈ vs → e ∈ gx.2.2.2.2.1)) (fun gx => yl.1.1.length - gx.1) (0, Sa, Ma, ts, vs, ca) (by exact ⟨Nat.zero_le _, hSa, Nat.le_refl _, mrg_0, fun _ h => h, fun _ h => h⟩) (.cons rfl (.cons rfl (.cons rfl (.cons rfl (.cons rfl (.cons rfl .nil)))))) (fun _ h => h) ?_
      rintro ⟨i, S2, M2, ts2, vs2, c2⟩ ⟨hi, hS2, hc2, hmem, ht2, hv2⟩
      show VC _ _ _ _ _ ([(50, .int .i64 (i : Nat))] ++ _) ([ndB yc.1 (qM qa yc.2.1 yc.2.2) c2, mapR keyV tV (qM qa yc.2.1 yc.2.2).km M2, bagD (ts2.map tOwn), bagD (vs2.map vOwn)] ++ _) _ _
      dsimp only at hi hS2 hc2 hmem ht2 hv2
      refine VC.seq ?_
      have hlen : yl.1.1.length ≤ cb := by have h1 := allP_len hSb.n hks hSb.k.s; have h2 := congrArg List.length hpl; rw [List.length_map] at h2; omega
      refine VC.reg (VO.l (LO.lt (.r rfl) (.r rfl)) rfl<|VO.nil ?_)
      refine VE.seqN ?_
      refine VC.seq ?_
      refine VC.cond rfl (fun h51 => ?_) (fun h51 => ?_)
      ·
        obtain ⟨m, hmi⟩ : ∃ m, yl.1.1[i]? = some m := ⟨_, List.getElem?_eq_getElem (by omega)⟩
        have hmm := hml m (List.mem_of_getElem? hmi)
        have hSl := hS2.n.len (hS2.k.s m.1)
        refine VC.skip (VE.seqN ?_)
        refine VC.seq ?_
        refine VC.block ?_
        refine VC.seq ?_
        refine VC.reg (VO.l (LO.ixo S285 N141 (fun _ hw => (own_rows hw 4 rfl).some (by rw [List.length_map])) (.r rfl) (.r rfl) rfl (by omega)) rfl<|VO.l (LO.lda (vs := [_,_,_,_]) A141 (.r rfl) (fun w hw => cells_part (off := 0) (own_cell hw 4 rfl hmi) ⟨_, rfl⟩) rfl) rfl<|VO.h rfl<|HO.alloc (C := #[_,_,_,_]) Z141 rfl fun b12 => VO.h0<|HO.st 0 (vs := [_,_,_,_]) (C' := [_,_,_,_]) (L' := [_,_,_,_,_,_,_,_,_,_]) N141 rfl rfl rfl rfl rfl rfl rfl rfl<|VO.nil ?_)
        refine VE.seqN ?_
        refine VC.seq ?_
        refine VC.reg (VO.l (LO.mv (.r rfl)) rfl<|VO.l (LO.lda (vs := [_,_,_,_]) A141 (.r rfl) (fun _ hw => cells_at hw 0 rfl ⟨_, rfl⟩) rfl) rfl<|VO.l (LO.call (xs := [_,_]) (vs := [_,_]) C94 ⟨(.r rfl), (.r rfl), trivial⟩ (fun w hw => place_c yc.1 (qM qa yc.2.1 yc.2.2) c2 S2 M2 ts2 vs2 m.1 m.2.v m.2.p m.2.c w hS2.k (by omega) hmm.2 (NdW.of hw 1 2 3 4 rfl rfl rfl rfl) (own_inv_rows ((hw.inv 6 _ rfl).1 _ (List.mem_map_of_mem hmm.1))))) rfl<|VO.l (LO.mv (.r rfl)) rfl<|VO.l (LO.ex (.r rfl) rfl) rfl<|VO.l (LO.ex (.r rfl) rfl) rfl<|VO.l (LO.as (.r rfl)) rfl<|VO.l (LO.as (.r rfl)) rfl<|VO.nil ?_)
        refine VE.seqN ?_
        refine VC.seq ?_
        refine VC.draw mixed (LL.l (LO.mv (.r rfl)) rfl<|LL.l (LO.not (.r rfl)) rfl<|LL.l (LO.mv (.r rfl)) rfl<|LL.lg rfl rfl (GD.t _) (fun hg => LO.fa (r := 0) F141_0 (.r rfl) rfl) rfl<|LL.lg rfl rfl (GD.t _) (fun hg => LO.fa (r := 2) F139_2 (.g hg rfl) rfl) rfl<|LL.lg rfl rfl (GD.t _) (fun hg => LO.ld O3 (.g hg rfl) (fun _ hw => cells_at hw 0 rfl ⟨_, rfl⟩)) rfl<|LL.lg rfl rfl (GD.t _) (fun hg => LO.mv (.r rfl)) rfl<|LL.lg rfl rfl (GD.t _) (fun hg => LO.nc (.g hg rfl)) rfl<|LL.lg rfl rfl (GD.t _) (fun hg => LO.fa (r := 10) F277_2 (.g hg rfl) rfl) rfl<|LL.lg rfl rfl (GD.t _) (fun hg => LO.ld O3 (.g hg rfl) (fun _ hw => cells_at hw 1 rfl ⟨_, rfl⟩)) rfl<|LL.lg rfl rfl (GD.t _) (fun hg => LO.ge (.g hg rfl) (.g hg rfl)) rfl<|LL.l (LO.pkA (.r rfl) rfl rfl (.r rfl)) rfl<|LL.nil) (by kernel_rfl) ?_
        refine VE.seqN ?_
        refine VC.cond rfl (fun h71 => ?_) (fun h71 => ?_)
        ·
          refine VC.reg (VO.l (LO.mv (.r rfl)) rfl<|VO.l (LO.lda (vs := [_,_,_,_]) A141 (.r rfl) (fun _ hw => cells_at hw 0 rfl ⟨_, rfl⟩) rfl) rfl<|VO.h rfl<|HO.callP (first := []) (cap := []) (xs := [_,_]) (vs := [_,_]) [_,_,_,_] [_,_,_,_,_,_] (selK (L1 := [_,_,_,_] ++ [_,_,_,_,_,_]) [1,2,3,4,0,5,6,7,8,9] rfl rfl) (.r rfl) C95 ⟨(.r rfl), (.r rfl), trivial⟩ (fun w hw hh => put_c yc.1 (qM qa yc.2.1 yc.2.2) c2 S2 M2 ts2 vs2 m.1 m.2.v m.2.p m.2.c w hS2.k (by omega) (by omega) hmm.2 hh (fun L w2 h2 => own_inv_rows (((St.rightOf (St.fz (selK (L1 := [_,_,_,_] ++ [_,_,_,_,_,_]) [1,2,3,4,0,5,6,7,8,9] rfl rfl w hw) h2)).inv 2 (bagD (yl.1.2.map vOwn)) rfl).1 _ (List.mem_map_of_mem hmm.1)))) fun yp hyp => VO.nil ?_)
          refine VE.inN (VE.seqN ?_)
          refine VC.reg (VO.l (LO.add (.r rfl) (.r rfl) (wi (by omega) (by omega))) rfl<|VO.l (LO.mv (.r rfl)) rfl<|VO.nil ?_)
          refine VE.thenN fun a w ha hw => ⟨(i + 1, (addS S2 m.1 m.2.v), (updG M2 m.1 yp.1), (yp.1 :: ts2), (yp.2 :: vs2), (c2 + 1)), ⟨by dsimp only; omega, (hS2.put h71.1 hmm.2 hyp.1 hyp.2).s, by dsimp only; omega, mrg_put hmi hmem, fun e he => (hS2.put h71.1 hmm.2 hyp.1 hyp.2).t e (ht2 e he), fun e he => (hS2.put h71.1 hmm.2 hyp.1 hyp.2).v e (hv2 e he)⟩, (by dsimp only; omega), ha.sub (.cons rfl (.cons rfl (.cons rfl (.cons rfl (.cons rfl (.cons rfl .nil)))))), hw.sel [0,1,2,3,5,6,7,8,9] rfl⟩
        ·
          have hmb : m.2.v ∈ Sb m.1 := (allP_mem hks _ _).1 (hpl ▸ List.mem_map_of_mem (f := mgP) (List.mem_of_getElem? hmi))
          have htm : 0 ≤ m.1.2.2 := htb m.1 (fun e => by rw [e] at hmb; cases hmb)
          have hin : m.2.v ∈ S2 m.1 := Classical.byContradiction fun q => h71 ⟨q, htm⟩
          refine VC.skip (VE.inN (VE.seqN ?_))
          refine VC.reg (VO.l (LO.add (.r rfl) (.r rfl) (wi (by omega) (by omega))) rfl<|VO.l (LO.mv (.r rfl)) rfl<|VO.nil ?_)
          refine VE.thenN fun a w ha hw => ⟨(i + 1, S2, M2, ts2, vs2, c2), ⟨by dsimp only; omega, hS2, by dsimp only; omega, mrg_has hmi hmem hin, ht2, hv2⟩, (by dsimp only; omega), ha.sub (.cons rfl (.cons rfl (.cons rfl (.cons rfl (.cons rfl (.cons rfl .nil)))))), hw.sel [1,2,3,4,5,6,7,8,9] rfl⟩
      ·
        have hie : i = yl.1.1.length := by omega
        refine VC.exit (VE.thenX (VE.thenX (VE.inX (VE.seqN ?_))))
        refine VC.seq ?_
        refine VC.seq ?_
        refine VC.reg (VO.l (LO.mv (.r rfl)) rfl<|VO.l (LO.nc (.r rfl)) rfl<|VO.l (LO.fa (r := 12) F277_4 (.r rfl) rfl) rfl<|VO.l (LO.ld O3 (.r rfl) (fun _ hw => cells_at hw 0 rfl ⟨_, rfl⟩)) rfl<|VO.l (LO.gt (.r rfl) (.r rfl)) rfl<|VO.nil ?_)
        refine VE.seqN ?_
        refine VC.cond rfl (fun h80 => ?_) (fun h80 => ?_)
        ·
          (exfalso; omega)
        ·
          refine VC.skip (VE.seqN ?_)
          refine VC.seq ?_
          refine VC.drawH [[0,1,2,3,4,5,6,7,8], [0,1,2,3,4,5,6,8], [0,1,2,3,4,5,6,8], [0,1,2,3,4,5,6,8]] [some 0, some 1, some 2, some 0, some 0, some 0, some 0, some 0, some 0, some 0, some 0, some 0, some 0, some 0, some 0, some 0, some 0, none, some 1, some 1, none, some 2, some 2, none] mixed (by kernel_rfl) rfl (LX.l (fun _ hJ => LO.mv (.r rfl)) rfl<|LX.l (fun _ hJ => LO.mv (.r rfl)) rfl<|LX.l (fun _ hJ => LO.mv (.r rfl)) rfl<|LX.l (fun _ hJ => LO.mv (.r rfl)) rfl<|LX.l (fun _ hJ => LO.nc (.r rfl)) rfl<|LX.l (fun _ hJ => LO.fa (r := 10) F277_2 (.r rfl) rfl) rfl<|LX.l (fun _ hJ => LO.ld O3 (.r rfl) (fun _ hw => cells_at (hJ _ hw) 0 rfl ⟨_, rfl⟩)) rfl<|LX.l (fun _ hJ => LO.mv (.r rfl)) rfl<|LX.l (fun _ hJ => LO.nc (.r rfl)) rfl<|LX.l (fun _ hJ => LO.fa (r := 11) F277_3 (.r rfl) rfl) rfl<|LX.l (fun _ hJ => LO.ld O274 (.r rfl) (fun _ hw => cells_at (hJ _ hw) 0 rfl ⟨_, rfl⟩)) rfl<|LX.l (fun _ hJ => LO.mv (.r rfl)) rfl<|LX.l (fun _ hJ => LO.nc (.r rfl)) rfl<|LX.l (fun _ hJ => LO.fa (r := 12) F277_4 (.r rfl) rfl) rfl<|LX.l (fun _ hJ => LO.ld O3 (.r rfl) (fun _ hw => cells_at (hJ _ hw) 0 rfl ⟨_, rfl⟩)) rfl<|LX.l (fun _ hJ => LO.nc (.r rfl)) rfl<|LX.l (fun _ hJ => LO.fa (r := 10) F277_2 (.r rfl) rfl) rfl<|LX.s<|LX.l (fun _ hJ => LO.nc (.r rfl)) rfl<|LX.l (fun _ hJ => LO.fa (r := 11) F277_3 (.r rfl) rfl) rfl<|LX.s<|LX.l (fun _ hJ => LO.nc (.r rfl)) rfl<|LX.l (fun _ hJ => LO.fa (r := 12) F277_4 (.r rfl) rfl) rfl<|LX.s<|LX.nil) (HX.s<|HX.s<|HX.s<|HX.s<|HX.s<|HX.s<|HX.s<|HX.s<|HX.s<|HX.s<|HX.s<|HX.s<|HX.s<|HX.s<|HX.s<|HX.s<|HX.s<|HX.h0<|HO.st 7 (vs := [_]) (C' := [_,_,_,_,_,_,_,_,_,_,_,_,_,_]) (L' := [_,_,_,_,_,_,_,_,_]) N3 rfl rfl rfl rfl rfl rfl rfl rfl<|⟨selJ (L1 := [_,_,_,_,_,_,_,_]) [0,1,2,3,4,5,6,8] rfl rfl rfl, HX.s<|HX.s<|HX.h0<|HO.st 7 (vs := [_]) (C' := [_,_,_,_,_,_,_,_,_,_,_,_,_,_]) (L' := [_,_,_,_,_,_,_,_,_]) N274 rfl rfl rfl rfl rfl rfl rfl rfl<|⟨selJ (L1 := [_,_,_,_,_,_,_,_]) [0,1,2,3,4,5,6,8] rfl rfl rfl, HX.s<|HX.s<|HX.h0<|HO.st 7 (vs := [_]) (C' := [_,_,_,_,_,_,_,_,_,_,_,_,_,_]) (L' := [_,_,_,_,_,_,_,_,_]) N3 rfl rfl rfl rfl rfl rfl rfl rfl<|⟨selJ (L1 := [_,_,_,_,_,_,_,_]) [0,1,2,3,4,5,6,8] rfl rfl rfl, HX.nil ?_⟩⟩⟩)
          refine VE.seqN ?_
          refine VC.seq ?_
          refine VC.reg (VO.l (LO.mv (.r rfl)) rfl<|VO.l (LO.nc (.r rfl)) rfl<|VO.l (LO.fa (r := 12) F277_4 (.r rfl) rfl) rfl<|VO.l (LO.ld O3 (.r rfl) (fun _ hw => cells_at hw 0 rfl ⟨_, rfl⟩)) rfl<|VO.l (LO.mv (.r rfl)) rfl<|VO.l (LO.sub (.r rfl) (.r rfl) (wi (by omega) (by omega))) rfl<|VO.l (LO.as (.r rfl)) rfl<|VO.l (LO.as (.r rfl)) rfl<|VO.nil ?_)
          refine VE.seqN ?_
          refine VC.ret (VE.res (vs := [_,_]) rfl ⟨rfl, rfl, trivial⟩ (fun w hw => ?_))
          exact ⟨((S2, M2, ts2, vs2, c2), yc.2.1), ⟨hS2, fun k v => by rw [hmem k v, hie, List.take_length, hpl, allP_mem hks], ht2, hv2, by show c2 ≤ _; omega⟩, rfl, hw.sel [7,1,2,3] rfl⟩

end Go.Proofs.YtffbohecdocajaaGreat

namespace Go.Proofs.YtffbohecdocajaaGreat
open Go.SL Go.Proofs Go.Pulse
set_option linter.unusedVariables false

def rnd (u : Bool) (a b : Int) : Int := if u then up a b else a / b
section

end
section

theorem mul_le2 {a b c d : Int} (h1 : a ≤ b) (h2 : c ≤ d) (hc : 0 ≤ c) (hb : 0 ≤ b) : a * c ≤ b * d := Int.le_trans (Int.mul_le_mul_of_nonneg_right h1 hc) (Int.mul_le_mul_of_nonneg_left h2 hb)
end
section

end
end Go.Proofs.YtffbohecdocajaaGreat

namespace Go.Proofs.YtffbohecdocajaaGreat
open Go.SL Go.Proofs Go.Pulse
set_option linter.unusedVariables false

/-! ### What is in the way of a beam -/
def lenT (t : Int) : Int := 262144 + t * t
def cosT (t : Int) : Int := 262144 - t * t
def sinT (t : Int) : Int := 1024 * t
/-- The ground range of a gate of 1000 metres at a tilt, rounded. -/
def reaV (u : Bool) (t j : Int) : Int := rnd u ((2 * j + 1) * 1000 * cosT t) (2 * lenT t)
/-- An end of the height of a gate. -/
def risV (u : Bool) (z t j e : Int) : Int := z + rnd u ((2 * j + 1) * 1000 * sinT t) (2 * lenT t) + rnd u (reaV u t j * reaV u t j) (2 * e)
section
variable {n k j : Nat} {o : List Span} {G : Span} {c : Int}
end
/-! ### The heights are spans -/
theorem rnd_le {a b d : Int} (hd : 0 < d) (h : a ≤ b) : rnd false a d ≤ rnd true b d := div_up hd h
theorem tt_bd {t : Int} (h1 : -30 ≤ t) (h2 : t ≤ 30) : 0 ≤ t * t ∧ t * t ≤ 900 := by
  have : t.natAbs ≤ 30 := by omega
  have e : t * t = (t.natAbs * t.natAbs : Nat) := by rw [Int.natAbs_mul_self]
  have := Nat.mul_le_mul this this
  omega
theorem reaV_bd {t j : Int} (h1 : -30 ≤ t) (h2 : t ≤ 30) (hj : 0 ≤ j) (hj2 : j ≤ 10) : 0 ≤ reaV false t j ∧ reaV false t j ≤ reaV true t j ∧ reaV true t j ≤ 10500 := by
  have b := tt_bd h1 h2
  have a1 : 0 ≤ (2 * j + 1) * 1000 * cosT t := Int.mul_nonneg (by omega) (by unfold cosT; omega)
  have hd : 0 < 2 * lenT t := by unfold lenT; omega
  unfold reaV
  refine ⟨Int.ediv_nonneg a1 (by omega), rnd_le hd (Int.le_refl _), ?_⟩
  refine up_le hd ?_
  have : (2 * j + 1) * 1000 * cosT t ≤ 21000 * lenT t := mul_le2 (by omega) (by unfold cosT lenT; omega) (by unfold cosT; omega) (by omega)
  omega
end Go.Proofs.YtffbohecdocajaaGreat

namespace Go.SL
set_option linter.unusedVariables false
set_option linter.unusedSimpArgs false
open Go.RowKit Go.Sort
section
variable {P : Program} {β : Bs} {L : List Res}

theorem flat_intsv (l : List Int) : (l.map fun n => [Value.int .i64 n]).flatten = l.map (Value.int .i64) := by
  induction l with
  | nil => rfl
  | cons x l ih => simp [ih]

theorem holds_ownv {w : World} {E cap : Nat} {a : Addr} {l : List Int} (h : (own E 1 (some a) cap (l.map fun n => [.int .i64 n])).inv w) : Holds (Value.int .i64) w a.block 0 l.toArray ∧ a = ⟨a.block, 0, none⟩ := by
  obtain ⟨h1, h2, h3, h4⟩ := h
  obtain ⟨g1, g2, C, spare, g3, g4, g5⟩ := h4 a rfl
  have ea : a = ⟨a.block, 0, none⟩ := by cases a; simp_all
  refine ⟨fun j hj => ?_, ea⟩
  rw [List.size_toArray] at hj
  refine ⟨?_, frozen_of_row w a.block _ C E g3⟩
  rw [flat_intsv] at g4
  have : C.toList[0 + j]? = some (.int .i64 l[j]) := by
    rw [g4, Nat.zero_add, List.getElem?_append_left (by simpa using hj), List.getElem?_map, List.getElem?_eq_getElem hj]; rfl
  simp only [World.cell?, g3, Option.isSome_none, Bool.false_eq_true, if_false]
  rw [← Array.getElem?_toList, this]
  congr 2
  rw [getElem!_pos _ _ (by simpa using hj)]
  simp

/-- The row of an owned slice is turned in place; behind it new blocks may lie. -/
theorem own_putv {w w' : World} {E cap b n : Nat} {l m : List Int} {os : Array Obj} (h : (own E 1 (some ⟨b, 0, none⟩) cap (l.map fun n => [.int .i64 n])).inv w) (hb : b < w.heap.size) (hm : m.length = l.length)
    (hw : w' = grow (putRow (Value.int .i64) (Sort.ahead w n) b 0 m.toArray) os) : St ⟨w, (own E 1 (some ⟨b, 0, none⟩) cap (l.map fun n => [.int .i64 n])).fp⟩ [own E 1 (some ⟨b, 0, none⟩) cap (m.map fun n => [.int .i64 n])] w' := by
  obtain ⟨h1, h2, h3, h4⟩ := h
  obtain ⟨g1, g2, C, spare, g3, g4, g5⟩ := h4 _ rfl
  rw [flat_intsv] at g4
  have hsz : (putRow (Value.int .i64) (Sort.ahead w n) b 0 m.toArray).heap.size = w.heap.size := by rw [size_putRow]; rfl
  have hlen : l.length ≤ C.size := by
    have : C.toList.length = C.size := Array.length_toList
    rw [← this, g4]; simp
  have hnew : w'.heap[b]? = some (.cells (putCells (Value.int .i64) 0 m.toArray C) E (0,0)) := by
    rw [hw, heap_grow_old _ _ (by rw [hsz]; exact hb)]
    have : (Sort.ahead w n).heap = w.heap := rfl
    simp only [putRow, mapBlock, this, Array.getElem?_modify, g3, if_true, Option.map_some, onCells]
  have hC : (putCells (Value.int .i64) 0 m.toArray C).toList = m.map (Value.int .i64) ++ spare := by
    refine List.ext_getElem? fun k => ?_
    have e1 : (putCells (Value.int .i64) 0 m.toArray C).toList[k]? = C.toList[k]?.map fun x => if k < m.length then .int .i64 (m.toArray[k]!) else x := by
      unfold putCells
      simp [Array.getElem?_mapIdx]
    rw [e1, g4]
    by_cases hk : k < m.length
    · rw [List.getElem?_append_left (by simp; omega), List.getElem?_append_left (by simpa using hk), List.getElem?_map, List.getElem?_map, List.getElem?_eq_getElem hk, List.getElem?_eq_getElem (show k < l.length by omega)]
      simp [hk]
    · rw [List.getElem?_append_right (by simp; omega), List.getElem?_append_right (by simpa using hk)]
      simp only [List.length_map, hm]
      rw [hm] at hk
      cases spare[k - l.length]? with
      | none => rfl
      | some v => simp only [Option.map_some]; rw [if_neg hk]
  have hfr : ∀ k, k < w.heap.size → k ≠ b → w'.heap[k]? = w.heap[k]? := by
    intro k hk hne
    rw [hw, heap_grow_old _ _ (by rw [hsz]; exact hk)]
    have : (Sort.ahead w n).heap = w.heap := rfl
    simp only [putRow, mapBlock, this, Array.getElem?_modify]
    rw [if_neg (Ne.symm hne)]
  refine ⟨by rw [hw]; rfl, by rw [hw]; rfl, by rw [hw]; rfl, by rw [hw, size_grow, hsz]; exact Nat.le_add_right _ _, ?_, ?_, ?_, ?_⟩
  · intro k hk hO
    exact hfr k hk (fun e => hO ⟨by simp, e⟩)
  · intro i r hr
    cases i with
    | zero =>
      cases hr
      refine ⟨by simp [hm] at h1 ⊢; exact h1, by intro r hr; obtain ⟨x,_, rfl⟩ := List.mem_map.1 hr; rfl, fun q => (by cases q), fun a q => ?_⟩
      cases q
      refine ⟨rfl, rfl,_, spare, hnew, by rw [flat_intsv]; exact hC, ?_⟩
      rw [← g5]; simp [putCells]
    | succ i => simp at hr
  · intro i r hr k hk
    cases i with
    | zero =>
      cases hr
      have e : k = b := hk.2
      subst e
      refine ⟨.inl ⟨by simp, rfl⟩, ?_⟩
      rw [hw, size_grow, hsz]; exact Nat.lt_of_lt_of_le hb (Nat.le_add_right _ _)
    | succ i => simp at hr
  · intro i j r s hij hr hs
    cases i with
    | zero => cases j with | zero => exact absurd rfl hij | succ j => simp at hs
    | succ i => simp at hr

end
end Go.SL
namespace Go.Proofs.YtffbohecdocajaaGreat
open Go.SL Go.Proofs Go.Cast Go.Sort
set_option linter.unusedVariables false
def intCv (n : Int) : List Value := [.int .i64 n]
def sortLv (l : List Int) : List Int := l.mergeSort fun x y => decide (x ≤ y)
theorem sortL_lenv (l : List Int) : (sortLv l).length = l.length := List.length_mergeSort ..
/-- slices.Sort at a slice of ints that is owned. -/
theorem Sort_hv {β : Bs} {L : List Res} {w : World} {p : Option Addr} {cap : Nat} {l : List Int} (i : Nat) (hw : St β L w) (hi : L[i]? = some (own 3 1 p cap (l.map intCv))) (hl : l.length < 4611686018427387904) :
    Calls Tryz.prog 205 #[.slice p l.length cap] w fun e w' => ∃ x : Unit, True ∧ e = .returned (.tuple #[]) ∧ St ⟨w, (own 3 1 p cap (l.map intCv)).fp⟩ [own 3 1 p cap ((sortLv l).map intCv)] w' := by
  have hinv := hw.inv i _ hi
  have hrng := hw.rng i _ hi
  cases p with
  | none =>
    have h0 : l = [] := by simpa using (hinv.2.2.1 rfl).1
    subst h0
    refine (Tryz.slices_Sort_int_none none cap w).mono fun e w' ⟨h1, h2⟩ => ⟨(), trivial, h1, ?_⟩
    subst h2
    rw [show sortLv [] = [] from by simp [sortLv]]
    exact St.one hinv (fun k hk => (hrng k hk).2)
  | some a =>
    obtain ⟨hH, ea⟩ := holds_ownv hinv
    have hb : a.block < w.heap.size := (hrng a.block ⟨by simp, rfl⟩).2
    rw [ea] at hinv ⊢
    refine (Tryz.slices_Sort_int a.block 0 cap l w hH hb hl).mono fun e w' ⟨h1, n, os, h2⟩ => ⟨(), trivial, h1, ?_⟩
    exact own_putv (m := sortLv l) hinv hb (sortL_lenv l) h2
end Go.Proofs.YtffbohecdocajaaGreat
namespace Go.Proofs.YtffbohecdocajaaGreat
open Go.SL Go.Proofs Go.Cast Go.Cell
set_option linter.unusedVariables false
def sortN (l : List Nat) : List Nat := (sortLv (l.map Int.ofNat)).map Int.toNat
theorem sortL_perm (l : List Int) : (sortLv l).Perm l := List.mergeSort_perm _ _
theorem sortL_sorted (l : List Int) : (sortLv l).Pairwise (· ≤ ·) := by
  have := List.pairwise_mergeSort (le := fun x y : Int => decide (x ≤ y)) (fun a b c h1 h2 => by simp at *; omega) (fun a b => by simp; omega) l
  exact this.imp (fun h => by simpa using h)
theorem sortN_perm (l : List Nat) : (sortN l).Perm l := by
  have h := (sortL_perm (l.map Int.ofNat)).map Int.toNat
  rw [List.map_map] at h
  have e : (Int.toNat ∘ Int.ofNat) = id := by funext x; rfl
  rw [e, List.map_id] at h
  exact h
theorem sortN_sorted (l : List Nat) : (sortN l).Pairwise (· ≤ ·) := by
  unfold sortN
  refine List.pairwise_map.2 ((sortL_sorted _).imp fun h => by omega)
theorem sortN_len (l : List Nat) : (sortN l).length = l.length := (sortN_perm l).length_eq
theorem sortN_cells (l : List Nat) : (sortN l).map nC = (sortLv (l.map Int.ofNat)).map intCv := by
  unfold sortN
  rw [List.map_map]
  refine List.map_congr_left fun x hx => ?_
  obtain ⟨y,_, rfl⟩ := List.mem_map.1 ((sortL_perm _).mem_iff.1 hx)
  rfl
theorem nat_cells (l : List Nat) : l.map nC = (l.map Int.ofNat).map intCv := by rw [List.map_map]; rfl
/-- slices.Sort at a slice of pixels that is owned. -/
theorem SortN_h {β : Bs} {L : List Res} {w : World} {p : Option Addr} {cap : Nat} {l : List Nat} (i : Nat) (hw : St β L w) (hi : L[i]? = some (own 3 1 p cap (l.map nC))) (hl : l.length < 4611686018427387904) :
    Calls Tryz.prog 205 #[.slice p l.length cap] w fun e w' => ∃ x : Unit, True ∧ e = .returned (.tuple #[]) ∧ St ⟨w, (own 3 1 p cap (l.map nC)).fp⟩ [own 3 1 p cap ((sortN l).map nC)] w' := by
  rw [nat_cells] at hi
  have h := Sort_hv (l := l.map Int.ofNat) i hw hi (by rw [List.length_map]; exact hl)
  rw [List.length_map] at h
  rw [sortN_cells, nat_cells]
  exact h
/-- Numbers that ascend strictly, of the same numbers as a list without doubles, are that list, sorted. -/
theorem sortN_eq {l m : List Nat} (hm : m.Pairwise (· < ·)) (hl : l.Nodup) (h : ∀ x, x ∈ l ↔ x ∈ m) : sortN l = m := by
  refine asc_ext ?_ hm fun x => by rw [(sortN_perm l).mem_iff]; exact h x
  have h1 := sortN_sorted l
  have h2 : (sortN l).Nodup := (sortN_perm l).nodup_iff.2 hl
  refine (List.Pairwise.and h1 h2).imp fun ⟨a, b⟩ => Nat.lt_of_le_of_ne a b
end Go.Proofs.YtffbohecdocajaaGreat

namespace Go.Proofs.YtffbohecdocajaaGreat
open Go.SL Go.Proofs Go.Cast Go.Cell
set_option linter.unusedVariables false

theorem S112v : IsSlice Tryz.prog 112 3 := Tryz.underlying112
theorem C263 : IsFn Tryz.prog 263 := ⟨_, Tryz.func263, by decide, rfl⟩
theorem N3v : (Tryz.prog.info? 3).map (·.size) = some 1 := by kernel_rfl
theorem I3v : EInfo Tryz.prog 3 1 8 (.int .i64 0) := ⟨by kernel_rfl, by kernel_rfl, by unfold ZeroOf; kernel_rfl, rfl, by decide⟩


/-- Cells of which the first ones are filled. -/
def repC (v : Int) (n k : Nat) : List Value := List.replicate k (.int .i64 v) ++ List.replicate (n - k) (.int .i64 0)
theorem rep_len {v : Int} {n k : Nat} (h : k ≤ n) : (repC v n k).length = n := by unfold repC; simp; omega
theorem rep_flat (v : Int) (n : Nat) : (List.replicate n (Value.int .i64 0).cells.toList).flatten = repC v n 0 := by
  unfold repC
  show (List.replicate n [Value.int .i64 0]).flatten = _
  induction n with
  | zero => rfl
  | succ n ih => rw [List.replicate_succ, List.flatten_cons, ih]; simp [List.replicate_succ]
theorem rep_fill {v : Int} {n k m : Nat} (h : k + m ≤ n) : (repC v n k).take k ++ List.replicate m (.int .i64 v) ++ (repC v n k).drop (k + m) = repC v n (k + m) := by
  unfold repC
  rw [List.take_left' (by simp), List.drop_append, List.drop_eq_nil_of_le (by simp), List.nil_append, List.length_replicate, List.drop_replicate, show n - k - (k + m - k) = n - (k + m) by omega, List.replicate_append_replicate]
theorem rep_get {v : Int} {n k j : Nat} {x : Value} (h : j < k) : (repC v n k)[j]? = some (.int .i64 v) := by
  unfold repC
  rw [List.getElem?_append_left (by simpa using h), List.getElem?_replicate, if_pos h]
theorem add_blk {b o j : Nat} : (⟨b, o, none⟩ : Addr).add j = ⟨b, o + j, none⟩ := by unfold Addr.add; split <;> simp_all
theorem blk_cell {β : Bs} {L : List Res} {w : World} {b E i : Nat} {C : List Value} (hw : St β L w) (hi : L[i]? = some (blk b (.cells C.toArray E))) {j : Nat} {x : Value} (h : C[j]? = some x) : w.cell? ⟨b, j, none⟩ = some x := by
  have := hw.inv i _ hi
  have hh : w.heap[b]? = some (.cells C.toArray E (0,0)) := this
  simp only [World.cell?, hh, Option.isSome_none, Bool.false_eq_true, if_false]
  simpa using h
theorem St.blkOwnN {β : Bs} {L : List Res} {w : World} {b n : Nat} {v : Int} (i : Nat) (hw : St β L w) (hi : L[i]? = some (blk b (.cells (repC v n n).toArray 3))) : St β (L.set i (own 3 1 (some ⟨b, 0, none⟩) n ((List.replicate n v).map iC))) w := by
  have key : ∀ m : Nat, (List.replicate m (iC v)).flatten = List.replicate m (Value.int .i64 v) := fun m => by
    induction m with
    | zero => rfl
    | succ m ih => rw [List.replicate_succ, List.flatten_cons, ih]; rfl
  have e : ((List.replicate n v).map iC).flatten = repC v n n := by
    unfold repC
    rw [Nat.sub_self, List.replicate_zero, List.append_nil, List.map_replicate]
    exact key n
  exact hw.conv i hi (fun k hk => hk.2) ⟨by simp, fun r hr => by obtain ⟨x,_, rfl⟩ := List.mem_map.1 hr; rfl, fun q => (by cases q), fun a ha => by
    cases ha
    exact ⟨rfl, rfl, (repC v n n).toArray, [], hw.inv i _ hi, by rw [e]; simp, by rw [List.size_toArray, rep_len (Nat.le_refl _), Nat.mul_one]⟩⟩
theorem one_cs {v : Int} {n : Nat} : (List.replicate (min 1 n) (Value.int .i64 v)).length = Nat.min 1 n := List.length_replicate ..
theorem wuv {e : Int} (h1 : 0 ≤ e) (h2 : e ≤ 18446744073709551615) : IntKind.wrap .u64 e = e := IntWalk.u64_in _ ⟨h1, h2⟩

theorem rd_one {w0 w : World} {a0 : Addr} {v : Int} {n : Nat} {L : List Res} (hv : Ints w0 (some a0) [v]) (hw : St (bs w0) L w) {j : Nat} {x : Value} (hx : (List.replicate (min 1 n) (Value.int .i64 v))[j]? = some x) : w.cell? (a0.add j) = some x := by
  obtain ⟨hj, e⟩ := List.getElem?_eq_some_iff.1 hx
  rw [List.length_replicate] at hj
  rw [List.getElem_replicate] at e
  have hj0 : j = 0 := by omega
  subst hj0
  have h1 := hv.at (j := 0) (by simp) w hw 0 (.int .i64 v) rfl
  have ha := hv.some (by simp)
  rw [← e]
  have e2 : (⟨pb (some a0), po (some a0) + 0 * 1, none⟩ : Addr) = a0 := by
    rw [Nat.zero_mul, Nat.add_zero]; exact (Option.some.inj ha).symm
  rw [e2] at h1
  exact h1
theorem rd_rep {β : Bs} {L : List Res} {w : World} {b i n k m : Nat} {v : Int} (hw : St β L w) (hi : L[i]? = some (blk b (.cells (repC v n k).toArray 3))) {j : Nat} {x : Value} (hx : (List.replicate (min k m) (Value.int .i64 v))[j]? = some x) : w.cell? ((⟨b, 0, none⟩ : Addr).add j) = some x := by
  obtain ⟨hj, e⟩ := List.getElem?_eq_some_iff.1 hx
  rw [List.length_replicate] at hj
  rw [List.getElem_replicate] at e
  rw [← e, add_blk, Nat.zero_add]
  exact blk_cell hw hi (rep_get (by omega) (x := x))
theorem mul_c (n : Nat) (w : World) (hn : n ≤ 4096) : Calls Tryz.prog 263 #[.int .u64 ((1 : Nat) : Int), .int .u64 (n : Int)] w fun e w' => e = .returned (.tuple #[.int .u64 0, .int .u64 (n : Int)]) ∧ St (bs w) [] w' := by
  refine (Tryz.bits_Mul 1 n (by omega) (by omega) w).mono ?_
  rintro e w' ⟨rfl, rfl⟩
  refine ⟨?_, St.refl _⟩
  rw [Nat.one_mul, Nat.div_eq_of_lt (by omega), Nat.mod_eq_of_lt (by omega)]
  rfl

set_option maxRecDepth 20000 in
theorem Repeat_c (v : Int) (a0 : Addr) (cv n : Nat) (w : World) (hv : Ints w (some a0) [v]) (hn : n ≤ 4096) :
  Calls Tryz.prog 224 #[.slice (some a0) 1 cv, .int .i64 (n : Int)] w fun e w' => ∃ x : Option Addr × Nat, True ∧ e = .returned (.slice x.1 n x.2) ∧ St (bs w) [own 3 1 x.1 x.2 ((List.replicate n v).map iC)] w' := by
  refine enter (vs := [_,_]) (env := [(0,_), (1,_)]) Tryz.func224 rfl rfl rfl rfl ?_
  refine VC.seq ?_
  refine VC.reg (VO.l (LO.as (.r rfl)) rfl<|VO.nil ?_)
  refine VE.seqN ?_
  refine VC.seq ?_
  refine VC.seq ?_
  refine VC.reg (VO.l (LO.mv (.r rfl)) rfl<|VO.l (LO.lt (.r rfl) (.r rfl)) rfl<|VO.nil ?_)
  refine VE.seqN ?_
  refine VC.cond rfl (fun h10 => ?_) (fun h10 => ?_)
  ·
    (exfalso; omega)
  ·
    refine VC.skip (VE.seqN ?_)
    refine VC.seq ?_
    refine VC.reg (VO.l (LO.mv (.r rfl)) rfl<|VO.l (LO.len S112v (.r rfl) rfl) rfl<|VO.l (LO.cv ⟨_, Tryz.underlying3⟩ Tryz.underlying396 (.r rfl) (wuv (by omega) (by omega))) rfl<|VO.l (LO.mv (.r rfl)) rfl<|VO.l (LO.cv ⟨_, Tryz.underlying3⟩ Tryz.underlying396 (.r rfl) (wuv (by omega) (by omega))) rfl<|VO.l (LO.call (xs := [_,_]) (vs := [_,_]) C263 ⟨(.r rfl), (.r rfl), trivial⟩ (fun w hw => mul_c n w hn)) rfl<|VO.l (LO.mv (.r rfl)) rfl<|VO.l (LO.ex (.r rfl) rfl) rfl<|VO.l (LO.ex (.r rfl) rfl) rfl<|VO.l (LO.as (.r rfl)) rfl<|VO.l (LO.as (.r rfl)) rfl<|VO.nil ?_)
    refine VE.seqN ?_
    refine VC.seq ?_
    refine VC.seq ?_
    refine VC.reg (VO.l (LO.mv (.r rfl)) rfl<|VO.l (LO.gt (.r rfl) (.r rfl)) rfl<|VO.l (LO.mv (.r rfl)) rfl<|VO.lg rfl rfl (GD.f _) (fun hg => LO.mv (.r rfl)) rfl<|VO.lg rfl rfl (GD.f _) (fun hg => LO.gt (.g hg rfl) (.r rfl)) rfl<|VO.l (LO.pkO (.r rfl) (.r rfl) rfl rfl) rfl<|VO.nil ?_)
    refine VE.seqN ?_
    refine VC.cond rfl (fun h26 => ?_) (fun h26 => ?_)
    ·
      (exfalso; omega)
    ·
      refine VC.skip (VE.seqN ?_)
      refine VC.seq ?_
      refine VC.reg (VO.l (LO.mv (.r rfl)) rfl<|VO.l (LO.cv ⟨_, Tryz.underlying396⟩ Tryz.underlying3 (.r rfl) (wi (by omega) (by omega))) rfl<|VO.h rfl<|HO.mksB (n := n) S112v I3v (.r rfl) (.r rfl) rfl (by decide) (by omega) (by omega) fun b1 => VO.h rfl<|HO.lo (LO.as (.r rfl))<|VO.nil ?_)
      rw [rep_flat v]
      refine VE.seqN ?_
      refine VC.seq ?_
      refine VC.reg (VO.l (LO.mv (.r rfl)) rfl<|VO.l (LO.mv (.r rfl)) rfl<|VO.h rfl<|HO.cpy 0 (fun R => [R]) (C' := (repC v n (min 1 n)).toArray) (cs := List.replicate (min 1 n) (.int .i64 v)) S112v N3v (.r rfl) (.r rfl) rfl one_cs (fun w2 hw2 j x hx => rd_one hv hw2 hx) (by rw [List.length_replicate, List.size_toArray, rep_len (Nat.zero_le _)]; omega) (fun x hx => by rw [(List.mem_replicate.1 hx).2]; rfl) (by rw [List.toList_toArray, List.length_replicate]; have z := rep_fill (v := v) (n := n) (k := 0) (m := min 1 n) (by omega); rw [Nat.zero_add] at z ⊢; rw [z]) (fun _ => rfl)<|VO.h rfl<|HO.lo (LO.as (.r rfl))<|VO.nil ?_)
      rw [List.length_replicate]
      refine VE.seqN ?_
      refine VC.seq ?_
      refine VC.block ?_
      refine VC.loopK (α := Nat) 1 (fun gx => [(8, .int .i64 (gx : Nat))]) [(7,_)] (fun gx => [blk b1 (.cells (repC v n gx).toArray 3)]) (fun gx => gx ≤ n ∧ (0 < n → 0 < gx)) (fun gx => n - gx) (min 1 n) (by omega) (.cons rfl (.cons rfl .nil)) (fun _ h => h) ?_
      rintro k hk
      refine VC.seq ?_
      refine VC.seq ?_
      refine VC.reg (VO.l (LO.mv (.r rfl)) rfl<|VO.l (LO.mv (.r rfl)) rfl<|VO.l (LO.len S112v (.r rfl) rfl) rfl<|VO.l (LO.lt (.r rfl) (.r rfl)) rfl<|VO.nil ?_)
      refine VE.seqN ?_
      refine VC.cond rfl (fun h37 => ?_) (fun h37 => ?_)
      ·
        refine VC.skip (VE.seqN ?_)
        refine VC.block ?_
        refine VC.drawH [[0], [], [], []] [some 1, some 0, some 0, some 0, some 0, some 0, some 0, none, none, none] mixedv (by kernel_rfl) rfl (LX.l (fun _ hJ => LO.mv (.r rfl)) rfl<|LX.l (fun _ hJ => LO.mv (.r rfl)) rfl<|LX.l (fun _ hJ => LO.mv (.r rfl)) rfl<|LX.l (fun _ hJ => LO.eqv (LO.sl (l := k) S112v N3v (.r rfl) (.r rfl) rfl (by omega)) (by rw [slFrom_lt (by omega)])) rfl<|LX.l (fun _ hJ => LO.mv (.r rfl)) rfl<|LX.l (fun _ hJ => LO.mv (.r rfl)) rfl<|LX.l (fun _ hJ => LO.slH (k := k) S112v N3v (.r rfl) (.r rfl) rfl (by omega)) rfl<|LX.s<|LX.s<|LX.s<|LX.nil) (HX.s<|HX.s<|HX.s<|HX.s<|HX.s<|HX.s<|HX.s<|HX.h rfl<|HO.cpy 0 (fun R => [R]) (C' := (repC v n (k + min k (n - k))).toArray) (cs := List.replicate (min k (n - k)) (.int .i64 v)) S112v N3v (.r rfl) (.r rfl) rfl (List.length_replicate ..) (fun w2 hw2 j x hx => rd_rep (i := 0) (n := n) hw2 rfl hx) (by rw [List.length_replicate, List.size_toArray, rep_len hk.1]; omega) (fun x hx => by rw [(List.mem_replicate.1 hx).2]; rfl) (by rw [List.toList_toArray, List.length_replicate, rep_fill (by omega)]) (fun _ => rfl)<|⟨fun _ hw => hw.sel [] rfl, HX.h rfl<|HO.lo (LO.add (.r rfl) (.r rfl) (wi (by rw [List.length_replicate]; omega) (by rw [List.length_replicate]; omega)))<|⟨fun _ hw => hw.sel [] rfl, HX.h rfl<|HO.lo (LO.as (.r rfl))<|⟨fun _ hw => hw.sel [] rfl, HX.nil ?_⟩⟩⟩)
        refine VE.inN ?_
        refine VE.thenN fun a w ha hw => ⟨k + min k (n - k), (by omega), (by omega), ha.sub (.cons (congrArg (fun z => some (Value.int .i64 z)) (by rw [List.length_replicate]; omega)) (.cons rfl .nil)), hw⟩
      ·
        have hkn : k = n := by omega
        subst hkn
        refine VC.exit (VE.thenX (VE.thenX (VE.inX (VE.seqN ?_))))
        refine VC.seq ?_
        refine VC.reg (VO.l (LO.mv (.r rfl)) rfl<|VO.l (LO.as (.r rfl)) rfl<|VO.nil ?_)
        refine VE.seqN ?_
        refine VC.ret (VE.res (vs := [_]) rfl ⟨rfl, trivial⟩ (fun w hw => ?_))
        exact ⟨(some ⟨b1,0, none⟩,_), trivial, rfl, St.blkOwnN 0 hw rfl⟩

end Go.Proofs.YtffbohecdocajaaGreat

namespace Go.Proofs.YtffbohecdocajaaGreat
open Go.SL Go.Proofs Go.Cast Go.Cell
set_option linter.unusedVariables false

theorem C264 : IsFn Tryz.prog 264 := ⟨_, Tryz.func264, by decide, rfl⟩
theorem C225 : IsFn Tryz.prog 225 := ⟨_, Tryz.func225, by decide, rfl⟩
theorem Z3v : ZeroOf Tryz.prog 3 (.int .i64 0) := by unfold ZeroOf; kernel_rfl
theorem C224 : IsFn Tryz.prog 224 := ⟨_, Tryz.func224, by decide, rfl⟩
theorem Z112 : ZeroOf Tryz.prog 112 (.slice none 0 0) := by unfold ZeroOf; kernel_rfl
theorem N112v : (Tryz.prog.info? 112).map (·.size) = some 1 := by kernel_rfl
theorem O112v : IsOne Tryz.prog 112 := ⟨⟨_, Tryz.underlying112, rfl⟩, by kernel_rfl⟩
theorem O179 : IsOne Tryz.prog 179 := ⟨⟨_, Tryz.underlying179, rfl⟩, by kernel_rfl⟩
theorem S158 : IsSlice Tryz.prog 158 112 := Tryz.underlying158
theorem C205v : IsFn Tryz.prog 205 := ⟨_, Tryz.func205, by decide, rfl⟩
theorem I112 : EInfo Tryz.prog 112 1 24 (.slice none 0 0) := ⟨by kernel_rfl, by kernel_rfl, by unfold ZeroOf; kernel_rfl, rfl, by decide⟩


theorem cells_invv {w : World} {b : Nat} {C : Array Value} {E : TypeId} (h : (blk b (.cells C E)).inv w) : Cells w ⟨b, 0, none⟩ C.toList := by
  intro j v hj
  rw [add_blk, Nat.zero_add]
  have hb : w.heap[b]? = some (.cells C E) := h
  simp only [World.cell?, hb, Option.isSome_none, Bool.false_eq_true, if_false]
  simpa using hj
theorem ints_blk {β : Bs} {L : List Res} {w : World} {b : Nat} {v : Int} (i : Nat) (hw : St β L w) (hi : L[i]? = some (blk b (.cells #[.int .i64 v] 3))) : Ints w (some ⟨b, 0, none⟩) [v] := by
  have h : w.heap[b]? = some (.cells #[.int .i64 v] 3 (0,0)) := hw.inv i _ hi
  refine ⟨fun j r hr => ?_, fun q => (by cases q), fun _ a ha => (by cases ha; rfl)⟩
  cases j with
  | succ j => simp at hr
  | zero =>
    simp at hr; subst hr
    intro k x hk
    cases k with
    | succ k => simp at hk
    | zero =>
      simp at hk; subst hk
      show World.cell? w ((⟨b, 0 + 0 * 1, none⟩ : Addr).add 0) = _
      rw [add_blk]
      simp only [World.cell?, h, Option.isSome_none, Bool.false_eq_true, if_false]
      rfl
theorem St.blkOwn1 {β : Bs} {L : List Res} {w : World} {E b : Nat} {v : List Value} {z : Nat} (i : Nat) (hz : v.length = z) (hi : L[i]? = some (blk b (.cells v.toArray E))) (hw : St β L w) : St β (L.set i (own E z (some ⟨b, 0, none⟩) 1 [v])) w :=
  hw.conv i hi (fun k hk => hk.2) ⟨by simp, fun r hr => by simp at hr; subst hr; exact hz, fun q => (by cases q), fun a ha => by
    cases ha
    exact ⟨rfl, rfl, v.toArray, [], hw.inv i _ hi, by simp, by simp [hz]⟩⟩
structure PtY where
  rs : List (RowA Nat)
  p : Option Addr
  c : Nat
  po : Option Addr
  co : Nat
/-- For each pixel the number of its part, or -1. -/
def ofL (W H : Nat) (S : Nat → Bool) : List Int := (List.range (W * H)).map (idxL (partsL W H S))
theorem ofA_end {W H : Nat} {S : Nat → Bool} : ofA W H S (W * H) [] = ofL W H S := by
  unfold ofA ofL partsL
  refine List.map_congr_left fun q _ => ?_
  unfold ofV; rw [if_neg (by simp)]
theorem rs_len {rs : List (RowA Nat)} {ls : List (List Nat)} (h : rs.map RowA.l = ls) : (rs.length : Int) = (ls.length : Int) := by rw [← h, List.length_map]
theorem parts_len {W H : Nat} {S : Nat → Bool} : ∀ {p}, (partsTo W H S p).length ≤ p
  | 0 => by simp [partsTo]
  | p + 1 => by
    have := parts_len (W := W) (H := H) (S := S) (p := p)
    rw [partsTo]; split
    · rw [List.length_append]; simp; omega
    · omega

set_option maxRecDepth 20000 in
set_option maxHeartbeats 8000000 in
theorem parts_c (g : Grid) (fq : FuncId) (sv : List Value) (S : Nat → Bool) (w : World) (hg : gridOk g) (hfq : IsFn Tryz.prog fq) (hq : ∀ {L : List Res} (w2 : World) (p : Nat), p < gW g * gH g → St (bs w) L w2 → Calls Tryz.prog fq (sv ++ [Value.int .i64 (p : Int)] ++ []).toArray w2 fun e w' => e = .returned (.bool (S p)) ∧ St (bs w2) [] w') :
  Calls Tryz.prog 174 #[gridV g, .func (.func fq) sv.toArray #[]] w fun e w' => ∃ y : PtY, y.rs.map RowA.l = partsL (gW g) (gH g) S ∧ e = .returned (.tuple #[.slice y.p y.rs.length y.c, .slice y.po (gW g * gH g) y.co]) ∧ St (bs w) [own 112 1 y.p y.c (y.rs.map rowC), bagR 3 1 nC y.rs, own 3 1 y.po y.co ((ofL (gW g) (gH g) S).map iC)] w' := by
  have har := area_le hg
  obtain ⟨hW, hH, hW1, hW2, hH1, hH2⟩ := gWi hg
  have hbd := area_n hg
  obtain ⟨W_, hW_⟩ : ∃ n, n = gW g * gH g := ⟨_, rfl⟩
  refine enter (vs := [_,_]) (env := [(0,_), (1,_)]) Tryz.func174 rfl rfl rfl rfl ?_
  refine VC.seq ?_
  refine VC.dm0 ?_
  refine VC.reg (VO.h rfl<|HO.box (C := #[_,_,_,_,_]) rfl rfl fun b2 => VO.h rfl<|HO.box (C := #[_]) rfl rfl fun b3 => VO.l (LO.as (.r rfl)) rfl<|VO.l (LO.as (.r rfl)) rfl<|VO.nil ?_)
  refine VE.seqN ?_
  refine VC.seq ?_
  refine VC.reg (VO.l (LO.as (.r rfl)) rfl<|VO.nil ?_)
  refine VE.seqN ?_
  refine VC.seq ?_
  refine VC.reg (VO.h rfl<|HO.bs (ps := [(_,_)]) (vs := [(_,_)]) (Z := [_]) (C := [_]) S112v Z3v N3v ⟨(.r rfl), trivial⟩ rfl rfl rfl rfl ⟨_, [_], [_], rfl, rfl, rfl, rfl, rfl⟩ fun b4 => VO.l (LO.fa (r := 3) F88_3v (.r rfl) rfl) rfl<|VO.l (LO.ld O3v (.r rfl) (fun _ hw => cells_at hw 2 rfl ⟨_, rfl⟩)) rfl<|VO.l (LO.fa (r := 4) F88_4v (.r rfl) rfl) rfl<|VO.l (LO.ld O3v (.r rfl) (fun _ hw => cells_at hw 2 rfl ⟨_, rfl⟩)) rfl<|VO.l (LO.eqv (LO.mul (.r rfl) (.r rfl) (wi (by omega) (by omega))) (congrArg (Value.int .i64) hbd.symm)) rfl<|VO.h rfl<|HO.callx (xs := [_,_]) (vs := [_,_]) C224 ⟨(.r rfl), (.r rfl), trivial⟩ (fun w hw => Repeat_c (-1) _ 1 (gW g * gH g) w (ints_blk 0 hw rfl) har) fun x _ => VO.h rfl<|HO.alloc (C := #[_]) Z112 rfl fun b6 => VO.h0<|HO.st 0 (vs := [_]) (C' := [_]) (L' := [_,_,_,_,_,_]) N112v rfl rfl rfl rfl rfl rfl rfl rfl<|VO.nil ?_)
  rw [ofA_zero (S := S)]
  refine VE.seqN ?_
  refine VC.seq ?_
  refine VC.seq ?_
  refine VC.reg (VO.l (LO.ld O112v (.r rfl) (fun _ hw => cells_at hw 0 rfl ⟨_, rfl⟩)) rfl<|VO.l (LO.len S112v (.r rfl) rfl) rfl<|VO.l (LO.mv (.r rfl)) rfl<|VO.nil ?_)
  refine VE.seqN ?_
  refine VC.block ?_
  refine VC.perm [1,5,0,2,3,4] rfl ?_
  refine VC.loopD (α := Nat × (List (RowA Nat)) × (Option Addr) × Nat × (List Nat)) 2 (fun gx => [(6, .slice gx.2.2.1 gx.2.1.length gx.2.2.2.1), (22, .int .i64 (gx.1 : Nat))]) [(2,_), (3,_), (7,_), (21,_)] (fun gx => [own 3 1 x.1 x.2 ((ofA (gW g) (gH g) S gx.1 []).map iC), own 112 1 gx.2.2.1 gx.2.2.2.1 (gx.2.1.map rowC), bagR 3 1 nC gx.2.1, Db gx.2.2.2.2]) (fun gx => gx.2.2.2.2) (fun gx => gx.1 ≤ gW g * gH g ∧ gx.2.1.map RowA.l = partsTo (gW g) (gH g) S gx.1) (fun gx => gW g * gH g - gx.1) (0, [], none, 0, []) rfl (by exact ⟨Nat.zero_le _, rfl⟩) (.cons rfl (.cons rfl (.cons rfl (.cons rfl (.cons rfl (.cons rfl .nil)))))) (fun _ h => (((h.bagRNil 3 1 nC).ownNil 112 1)).sel [2,0,1,3,4,5,6,7] rfl) ?_
  rintro ⟨p, rs, pr, cr, Ds⟩ ⟨hpn, hrs⟩
  show VC _ _ _ _ _ ([(6, .slice pr rs.length cr), (22, .int .i64 (p : Nat))] ++ _) ([own 3 1 x.1 x.2 ((ofA (gW g) (gH g) S p []).map iC), own 112 1 pr cr (rs.map rowC), bagR 3 1 nC rs, Db Ds] ++ _) _ _
  dsimp only at hpn hrs
  have hrl := rs_len hrs
  have hpl := parts_len (W := gW g) (H := gH g) (S := S) (p := p)
  refine VC.seq ?_
  refine VC.reg (VO.l (LO.lt (.r rfl) (.r rfl)) rfl<|VO.nil ?_)
  refine VE.seqN ?_
  refine VC.seq ?_
  refine VC.cond rfl (fun h23 => ?_) (fun h23 => ?_)
  ·
    refine VC.skip (VE.seqN ?_)
    refine VC.seq ?_
    refine VC.block ?_
    refine VC.seq ?_
    refine VC.reg (VO.l (LO.mv (.r rfl)) rfl<|VO.l (LO.as (.r rfl)) rfl<|VO.nil ?_)
    refine VE.seqN ?_
    refine VC.seq ?_
    refine VC.seq ?_
    refine VC.reg (VO.l (LO.ld O112v (.r rfl) (fun _ hw => cells_at hw 4 rfl ⟨_, rfl⟩)) rfl<|VO.l (LO.mv (.r rfl)) rfl<|VO.l (LO.ixo S112v N3v (fun _ hw => (own_rows hw 0 rfl).some (by rw [List.length_map, ofA_len])) (.r rfl) (.r rfl) rfl (by omega)) rfl<|VO.l (LO.ld O3v (.r rfl) (fun w hw => cells_part (off := 0) (own_cell hw 0 rfl (ofA_get (by omega))) ⟨_, rfl⟩)) rfl<|VO.l (LO.ge (.r rfl) (.r rfl)) rfl<|VO.l (LO.mv (.r rfl)) rfl<|VO.lg rfl rfl (GD.f _) (fun hg => LO.ld O179 (.r rfl) (fun _ hw => cells_at hw 6 rfl ⟨_, rfl⟩)) rfl<|VO.lg rfl rfl (GD.f _) (fun hg => LO.mv (.r rfl)) rfl<|VO.lg rfl rfl (GD.f _) (fun hg => LO.callv (first := sv) (cap := []) (xs := [_]) (vs := [_]) (.g hg rfl) hfq ⟨.g hg rfl, trivial⟩ (fun w2 hw2 => hq w2 p (by omega) (hw2))) rfl<|VO.lg rfl rfl (GD.f _) (fun hg => LO.not (.g hg rfl)) rfl<|VO.l (LO.pkO (.r rfl) (.r rfl) rfl rfl) rfl<|VO.nil ?_)
    refine VE.seqN ?_
    refine VC.cond rfl (fun h35 => ?_) (fun h35 => ?_)
    ·
      have hold := of_old (W := gW g) (H := gH g) (S := S) (p := p) (by omega) (by simpa using h35)
      refine VC.exit (VE.thenX (VE.inX (VE.seqN ?_)))
      refine VC.reg (VO.l (LO.add (.r rfl) (.r rfl) (wi (by omega) (by omega))) rfl<|VO.l (LO.mv (.r rfl)) rfl<|VO.nil ?_)
      rw [← ofA_old hold]
      refine VE.thenN fun a w ha hw => ⟨(p + 1, rs, pr, cr, Ds), ⟨by dsimp only; omega, by dsimp only; rw [hold]; exact hrs⟩, (by dsimp only; omega), ha.sub (.cons rfl (.cons rfl (.cons rfl (.cons rfl (.cons rfl (.cons rfl .nil)))))), (by exact selK (L1 := [_,_,_,_,_,_,_,_]) [0,1,2,3,4,5,6,7] rfl rfl _ hw)⟩
    ·
      have h35b : ¬ 0 ≤ ofV (gW g) (gH g) S p [] p ∧ S p = true := by simpa using h35
      have hnew := of_new h35b.1
      refine VC.skip (VE.seqN ?_)
      refine VC.seq ?_
      refine VC.reg (VO.l (LO.mv (.r rfl)) rfl<|VO.l (LO.len S158 (.r rfl) rfl) rfl<|VO.h rfl<|HO.alloc (C := #[_]) Z3v rfl fun b10 => VO.h0<|HO.st 0 (vs := [_]) (C' := [_]) (L' := [_,_,_,_,_,_,_,_,_]) N3v rfl rfl rfl rfl rfl rfl rfl rfl<|VO.nil ?_)
      refine VE.seqN ?_
      refine VC.seq ?_
      refine VC.reg (VO.l (LO.mv (.r rfl)) rfl<|VO.h rfl<|HO.bs (ps := [(_,_)]) (vs := [(_,_)]) (Z := [_]) (C := [_]) S112v Z3v N3v ⟨(.r rfl), trivial⟩ rfl rfl rfl rfl ⟨_, [_], [_], rfl, rfl, rfl, rfl, rfl⟩ fun b12 => VO.h rfl<|HO.alloc (C := #[_]) Z112 rfl fun b13 => VO.h0<|HO.st 0 (vs := [_]) (C' := [_]) (L' := [_,_,_,_,_,_,_,_,_,_,_]) N112v rfl rfl rfl rfl rfl rfl rfl rfl<|VO.nil ?_)
      refine VE.seqN ?_
      refine VC.seq ?_
      refine VC.res (fun w hw => St.blkOwn1 (v := nC p) (z := 1) 1 rfl rfl hw) ?_
      show VC _ _ _ _ _ _ [_, own 3 1 (some ⟨b12,0, none⟩) 1 ([p].map nC),_,_,_,_,_,_,_,_,_] _ _
      refine VC.reg (VO.l (LO.ld O112v (.r rfl) (fun _ hw => cells_at hw 7 rfl ⟨_, rfl⟩)) rfl<|VO.l (LO.mv (.r rfl)) rfl<|VO.l (LO.ld O3v (.r rfl) (fun _ hw => cells_at hw 2 rfl ⟨_, rfl⟩)) rfl<|VO.l (LO.ixo S112v N3v (fun _ hw => (own_rows hw 3 rfl).some (by rw [List.length_map, ofA_len])) (.r rfl) (.r rfl) rfl (by omega)) rfl<|VO.h0<|HO.stm 3 (fun R => [_,_,_, R,_,_,_,_,_,_,_]) (((rs.length : Nat) : Int)) (vs := [_]) N3v (.r rfl) (.r rfl) rfl (by rw [ofA_len]; omega) rfl rfl rfl rfl rfl (fun _ => rfl)<|VO.nil ?_)
      rw [hrl, ofA_set (by omega)]
      refine VE.seqN ?_
      refine VC.seq ?_
      refine VC.seq ?_
      refine VC.reg (VO.l (LO.as (.r rfl)) rfl<|VO.nil ?_)
      refine VE.seqN ?_
      refine VC.block ?_
      refine VC.perm [0,1,3,6,2,4,5,7,8,9,10] rfl ?_
      refine VC.loopD (α := Nat × (List Nat) × (Option Addr) × Nat × (List Nat)) 4 (fun gx => [(11, .int .i64 (gx.1 : Nat))]) [(2,_), (3,_), (6,_), (7,_), (9,_), (10,_), (21,_), (22,_)] (fun gx => [blk b13 (.cells #[.slice gx.2.2.1 gx.2.1.length gx.2.2.2.1] 112), own 3 1 gx.2.2.1 gx.2.2.2.1 (gx.2.1.map nC), own 3 1 x.1 x.2 ((ofA (gW g) (gH g) S p gx.2.1).map iC), Db gx.2.2.2.2]) (fun gx => gx.2.2.2.2) (fun gx => WL (gW g) (gH g) S p gx.2.1 gx.1) (fun gx => gW g * gH g - gx.1) (0, [p], (some ⟨b12,0, none⟩), 1, Ds) rfl (by exact WL.one (by omega) h35b.2) (.cons rfl (.cons rfl (.cons rfl (.cons rfl (.cons rfl (.cons rfl (.cons rfl (.cons rfl (.cons rfl .nil))))))))) (fun _ h => h) ?_
      rintro ⟨i, l, lp, lc, Ds2⟩ hwl
      show VC _ _ _ _ _ ([(11, .int .i64 (i : Nat))] ++ _) ([blk b13 (.cells #[.slice lp l.length lc] 112), own 3 1 lp lc (l.map nC), own 3 1 x.1 x.2 ((ofA (gW g) (gH g) S p l).map iC), Db Ds2] ++ _) _ _
      dsimp only at hwl
      have hwll := hwl.len
      refine VC.seq ?_
      refine VC.seq ?_
      refine VC.reg (VO.l (LO.mv (.r rfl)) rfl<|VO.l (LO.ld O112v (.r rfl) (fun _ hw => cells_at hw 0 rfl ⟨_, rfl⟩)) rfl<|VO.l (LO.len S112v (.r rfl) rfl) rfl<|VO.l (LO.lt (.r rfl) (.r rfl)) rfl<|VO.nil ?_)
      refine VE.seqN ?_
      refine VC.cond rfl (fun h47 => ?_) (fun h47 => ?_)
      ·
        obtain ⟨q, hqi⟩ : ∃ q, l[i]? = some q := ⟨_, List.getElem?_eq_getElem (by omega)⟩
        have hqm := hwl.mem q (List.mem_of_getElem? hqi)
        refine VC.skip (VE.seqN ?_)
        refine VC.seq ?_
        refine VC.block ?_
        refine VC.seq ?_
        refine VC.drawH [[0,1,2,3,4,5,6,7,8,9,10], [0,1,2,3,4,5,6,7,8,9,10]] [some 0, some 0, some 0, some 0, some 0, none] mixedv (by kernel_rfl) rfl (LX.l (fun _ hJ => LO.lda (vs := [_,_,_,_,_]) A88v (.r rfl) (fun _ hw => cells_at (hJ _ hw) 10 rfl ⟨_, rfl⟩) rfl) rfl<|LX.l (fun _ hJ => LO.ld O112v (.r rfl) (fun _ hw => cells_at (hJ _ hw) 0 rfl ⟨_, rfl⟩)) rfl<|LX.l (fun _ hJ => LO.mv (.r rfl)) rfl<|LX.l (fun _ hJ => LO.ixo S112v N3v (fun _ hw => (own_rows (hJ _ hw) 1 rfl).some (by rw [List.length_map])) (.r rfl) (.r rfl) rfl (by omega)) rfl<|LX.l (fun _ hJ => LO.ld O3v (.r rfl) (fun w hw => cells_part (off := 0) (own_cell (hJ _ hw) 1 rfl hqi) ⟨_, rfl⟩)) rfl<|LX.s<|LX.nil) (HX.s<|HX.s<|HX.s<|HX.s<|HX.s<|HX.h rfl<|HO.callx (xs := [_,_]) (vs := [_,_]) C225 ⟨(.r rfl), (.r rfl), trivial⟩ (fun w hw => around_c g q w) fun ya _ => ⟨selJ (L1 := [_,_,_,_,_,_,_,_,_,_,_]) [2,3,4,5,6,7,8,9,10,11,12] rfl rfl rfl, HX.nil ?_⟩)
        refine VE.seqN ?_
        refine VC.block ?_
        refine VC.rangeFuncC (α := (List Nat) × (Option Addr) × Nat) [_,_,_,_,_,_,_,_,_] (fun gx => [blk b13 (.cells #[.slice gx.2.1 gx.1.length gx.2.2] 112), own 3 1 gx.2.1 gx.2.2 (gx.1.map nC), own 3 1 x.1 x.2 ((ofA (gW g) (gH g) S p gx.1).map iC)]) (fun n_ gx => WN (gW g) (gH g) S p l q n_ gx.1) (fun _ _ _ => False) (l, lp, lc) (fun vs => [(3, .pointer (some ⟨b3,0, none⟩)), (7, .pointer (some ⟨b6,0, none⟩)), (9, .pointer (some ⟨b10,0, none⟩)), (10, .pointer (some ⟨b13,0, none⟩)), (12, vs.getD 0 (.int .i64 0))]) rfl C264 (around_seq g q ya.1 ya.2 hg hqm.1) (selK [2,3,4,0,1,6,7,8,9,10,11,12,5] rfl rfl) (WN.zero hwl) (fun vs hv => by obtain ⟨n,_, rfl⟩ := List.mem_map.1 hv; rfl) (by decide) (fun n x w _ h => ⟨cells_invv (h 3 _ rfl), cells_invv (h 4 _ rfl)⟩) ?_ ?_ ?_ (fun _ _ _ _ _ h => h.elim)
        ·
          rintro n_ ⟨l2, lp2, lc2⟩ vs__ l_ T w1 hI hxs hst
          obtain ⟨r, hr, rfl⟩ : ∃ r, (nb (gW g) (gH g) q)[n_]? = some r ∧ nC r = vs__ := by rw [List.getElem?_map] at hxs; cases hz : (nb (gW g) (gH g) q)[n_]? with | none => (rw [hz] at hxs; cases hxs) | some r => (rw [hz] at hxs; exact ⟨r, rfl, Option.some.inj hxs⟩)
          have hwn : WN (gW g) (gH g) S p l q n_ l2 := hI
          have hrl := nb_lt hqm.1 (List.mem_of_getElem? hr)
          show VC _ _ _ _ _ _ ([blk b13 (.cells #[.slice lp2 l2.length lc2] 112), own 3 1 lp2 lc2 (l2.map nC), own 3 1 x.1 x.2 ((ofA (gW g) (gH g) S p l2).map iC),_,_,_,_,_,_,_,_,_] ++ T) _ _
          refine VC.reg (VO.l (LO.as (.r rfl)) rfl<|VO.nil ?_)
          exact fun a w ha hw => ⟨rfl, ha.sub (.cons rfl (.cons rfl (.cons rfl (.cons rfl (.cons rfl .nil))))), hw⟩
        ·
          rintro n_ ⟨l2, lp2, lc2⟩ vs__ l_ T w1 hI hxs hst
          obtain ⟨r, hr, rfl⟩ : ∃ r, (nb (gW g) (gH g) q)[n_]? = some r ∧ nC r = vs__ := by rw [List.getElem?_map] at hxs; cases hz : (nb (gW g) (gH g) q)[n_]? with | none => (rw [hz] at hxs; cases hxs) | some r => (rw [hz] at hxs; exact ⟨r, rfl, Option.some.inj hxs⟩)
          have hwn : WN (gW g) (gH g) S p l q n_ l2 := hI
          have hrl := nb_lt hqm.1 (List.mem_of_getElem? hr)
          show VC _ _ _ _ _ _ ([blk b13 (.cells #[.slice lp2 l2.length lc2] 112), own 3 1 lp2 lc2 (l2.map nC), own 3 1 x.1 x.2 ((ofA (gW g) (gH g) S p l2).map iC),_,_,_,_,_,_,_,_,_] ++ T) _ _
          refine VC.block ?_
          refine VC.seq ?_
          refine VC.reg (VO.l (LO.ld O112v (.r rfl) (fun _ hw => cells_at hw 8 rfl ⟨_, rfl⟩)) rfl<|VO.l (LO.mv (.r rfl)) rfl<|VO.l (LO.ixo S112v N3v (fun _ hw => (own_rows hw 2 rfl).some (by rw [List.length_map, ofA_len])) (.r rfl) (.r rfl) rfl (by omega)) rfl<|VO.l (LO.ld O3v (.r rfl) (fun w hw => cells_part (off := 0) (own_cell hw 2 rfl (ofA_get (by omega))) ⟨_, rfl⟩)) rfl<|VO.l (LO.lt (.r rfl) (.r rfl)) rfl<|VO.l (LO.mv (.r rfl)) rfl<|VO.lg rfl rfl (GD.t _) (fun hg => LO.ld O179 (.r rfl) (fun _ hw => cells_at hw 10 rfl ⟨_, rfl⟩)) rfl<|VO.lg rfl rfl (GD.t _) (fun hg => LO.mv (.r rfl)) rfl<|VO.lg rfl rfl (GD.t _) (fun hg => LO.callv (first := sv) (cap := []) (xs := [_]) (vs := [_]) (.g hg rfl) hfq ⟨.g hg rfl, trivial⟩ (fun w2 hw2 => hq w2 r (hrl) (hst.back hw2))) rfl<|VO.l (LO.pkA (.r rfl) rfl rfl (.r rfl)) rfl<|VO.nil ?_)
          refine VE.seqN ?_
          refine VC.cond rfl (fun h66 => ?_) (fun h66 => ?_)
          ·
            have h66b : ofV (gW g) (gH g) S p l2 r < 0 ∧ S r = true := by simpa using h66
            refine VC.seq ?_
            refine VC.reg (VO.l (LO.ld O112v (.r rfl) (fun _ hw => cells_at hw 8 rfl ⟨_, rfl⟩)) rfl<|VO.l (LO.mv (.r rfl)) rfl<|VO.l (LO.ld O3v (.r rfl) (fun _ hw => cells_at hw 5 rfl ⟨_, rfl⟩)) rfl<|VO.l (LO.ixo S112v N3v (fun _ hw => (own_rows hw 2 rfl).some (by rw [List.length_map, ofA_len])) (.r rfl) (.r rfl) rfl (by omega)) rfl<|VO.h0<|HO.stm 2 (fun R => [_,_, R,_,_,_,_,_,_,_,_,_] ++ T) (((partsTo (gW g) (gH g) S p).length : Int)) (vs := [_]) N3v (.r rfl) (.r rfl) rfl (by rw [ofA_len]; omega) rfl rfl rfl rfl rfl (fun _ => rfl)<|VO.nil ?_)
            rw [ofA_set hrl]
            refine VE.seqN ?_
            refine VC.reg (VO.l (LO.ld O112v (.r rfl) (fun _ hw => cells_at hw 0 rfl ⟨_, rfl⟩)) rfl<|VO.l (LO.mv (.r rfl)) rfl<|VO.h rfl<|HO.bs (ps := [(_,_)]) (vs := [(_,_)]) (Z := [_]) (C := [_]) S112v Z3v N3v ⟨(.r rfl), trivial⟩ rfl rfl rfl rfl ⟨_, [_], [_], rfl, rfl, rfl, rfl, rfl⟩ fun b46 => VO.h rfl<|HO.appT (r) 2 0 (fun R => [_,_, R,_,_,_,_,_,_,_,_,_,_] ++ T) S112v S112v I3v (.r rfl) (.r rfl) rfl rfl rfl rfl rfl rfl rfl (fun _ => rfl) rfl (by have := hwn.len; omega) fun p3 c3 => VO.h0<|HO.st 1 (vs := [_]) (C' := [_]) N112v rfl rfl rfl rfl rfl rfl rfl rfl<|VO.nil ?_)
            refine VE.inN ?_
            exact fun a w ha hw => ⟨(l2 ++ [r], p3, c3), hwn.take hwl hqi hr ((of_neg hwn hwl (by omega) hqi hr hnew h66b.2).1 h66b.1) h66b.2, selKT (L := [_,_,_,_,_,_,_,_,_,_,_,_,_]) (L1 := [_,_,_,_,_,_,_,_,_,_,_,_]) (L2 := []) (X := T) [1,2,3,4,5,6,7,8,9,10,11,12] rfl rfl rfl w hw⟩
          ·
            have h66b : ¬ (ofV (gW g) (gH g) S p l2 r < 0 ∧ S r = true) := by simpa using h66
            refine VC.skip (VE.inN ?_)
            exact fun a w ha hw => ⟨(l2, lp2, lc2), hwn.skip hr (fun hs => Classical.byContradiction fun hx => h66b ⟨(of_neg hwn hwl (by omega) hqi hr hnew hs).2 hx, hs⟩), selKT (L := [_,_,_,_,_,_,_,_,_,_,_,_]) (L1 := [_,_,_,_,_,_,_,_,_,_,_,_]) (L2 := []) (X := T) [0,1,2,3,4,5,6,7,8,9,10,11] rfl rfl rfl w hw⟩
        ·
          rintro D_ ⟨l2, lp2, lc2⟩ hI
          have hwl2 := WN.done (show WN (gW g) (gH g) S p l q _ l2 from hI) hwl hqi (by rw [List.length_map]; exact Nat.le_refl _)
          show VE _ _ _ _ [blk b13 (.cells #[.slice lp2 l2.length lc2] 112), own 3 1 lp2 lc2 (l2.map nC), own 3 1 x.1 x.2 ((ofA (gW g) (gH g) S p l2).map iC),_,_,_,_,_,_,_,_,_,_] _ _
          refine VE.inN (VE.inN (VE.seqN ?_))
          refine VC.reg (VO.l (LO.mv (.r rfl)) rfl<|VO.l (LO.add (.r rfl) (.r rfl) (wi (by omega) (by omega))) rfl<|VO.l (LO.as (.r rfl)) rfl<|VO.nil ?_)
          refine VE.thenN fun a w ha hw => ⟨(i + 1, l2, lp2, lc2, D_ :: Ds2), hwl2, (by dsimp only; omega), ha.sub (.cons rfl (.cons rfl (.cons rfl (.cons rfl (.cons rfl (.cons rfl (.cons rfl (.cons rfl (.cons rfl .nil))))))))), hw.sel [0,1,2,12,5,6,7,8,9,10,11] rfl⟩
      ·
        have hil : i = l.length := by have := hwl.le; omega
        subst hil
        have hfull := hwl.full (by omega) h35b.2
        have hsort : sortN l = compL (gW g) (gH g) S p := sortN_eq (compL_sorted (by omega)) hwl.nod hfull
        have hlen : l.length = (compL (gW g) (gH g) S p).length := by rw [← hsort, sortN_len]
        refine VC.exit (VE.thenX (VE.thenX (VE.inX (VE.seqN ?_))))
        refine VC.seq ?_
        refine VC.reg (VO.l (LO.ld O112v (.r rfl) (fun _ hw => cells_at hw 0 rfl ⟨_, rfl⟩)) rfl<|VO.h rfl<|HO.callh (first := []) (cap := []) (xs := [_]) (vs := [_]) 1 (fun R => [_, R,_,_,_,_,_,_,_,_,_]) rfl (.r rfl) C205v ⟨(.r rfl), trivial⟩ (fun _ => rfl) (fun w hw => SortN_h 1 hw rfl (by omega)) fun _u _ => VO.nil ?_)
        rw [hsort, hlen]
        refine VE.seqN ?_
        refine VC.reg (VO.l (LO.mv (.r rfl)) rfl<|VO.l (LO.ld O112v (.r rfl) (fun _ hw => cells_at hw 0 rfl ⟨_, rfl⟩)) rfl<|VO.h rfl<|HO.bs (ps := [(_,_)]) (vs := [(_,_)]) (Z := [_]) (C := [_]) S158 Z112 N112v ⟨(.r rfl), trivial⟩ rfl rfl rfl rfl ⟨_, [_], [_], rfl, rfl, rfl, rfl, rfl⟩ fun b62 => VO.h rfl<|HO.appT ((⟨lp, lc, compL (gW g) (gH g) S p⟩ : RowA Nat)) 6 0 (fun R => [_,_,_,_,_,_, R,_,_,_,_,_]) S158 S158 I112 (.r rfl) (.r rfl) rfl rfl rfl rfl rfl rfl rfl (fun _ => rfl) rfl (by omega) fun p3 c3 => VO.h rfl<|HO.lo (LO.as (.r rfl))<|VO.nil ?_)
        refine VE.inN (VE.seqN ?_)
        refine VC.reg (VO.l (LO.add (.r rfl) (.r rfl) (wi (by omega) (by omega))) rfl<|VO.l (LO.mv (.r rfl)) rfl<|VO.nil ?_)
        rw [ofA_next (by omega) h35b.2 hnew hfull]
        refine VE.thenN fun a w ha hw => ⟨(p + 1, rs ++ [⟨lp, lc, compL (gW g) (gH g) S p⟩], p3, c3, Ds2), ⟨by dsimp only; omega, by dsimp only; rw [List.map_append, hrs, partsTo_new h35b.2 hnew]; rfl⟩, (by dsimp only; omega), ha.sub (.cons (congrArg (fun n => some (Value.slice p3 n c3)) (by rw [List.length_append]; try rfl)) (.cons rfl (.cons rfl (.cons rfl (.cons rfl (.cons rfl .nil)))))), (by exact selK (L1 := [_,_,_,_,_,_,_,_]) [1,2,0,3,4,5,6,7] rfl rfl _ (St.bagRIn (E := 3) (z := 1) (f := nC) (x := ⟨lp, lc, compL (gW g) (gH g) S p⟩) (selK (L1 := [_,_,_,_,_,_,_,_,_]) [2,7,3,6,4,8,9,10,11] rfl rfl _ hw)))⟩
  ·
    refine VC.exit (VE.thenX (VE.thenX (VE.inX (VE.seqN ?_))))
    refine VC.seq ?_
    refine VC.draw mixedv (LL.l (LO.mv (.r rfl)) rfl<|LL.l (LO.ld O112v (.r rfl) (fun _ hw => cells_at hw 4 rfl ⟨_, rfl⟩)) rfl<|LL.l (LO.as (.r rfl)) rfl<|LL.l (LO.as (.r rfl)) rfl<|LL.nil) (by kernel_rfl) ?_
    refine VE.seqN ?_
    refine VC.ret (VE.resDm (vs := [_,_]) (A := [_,_,_,_,_,_,_]) rfl (selK [3,0,1,2,4,5,6,7] rfl rfl) ⟨rfl, rfl, trivial⟩ (fun w hw => ?_))
    have hpn : p = gW g * gH g := by omega
    subst hpn
    rw [ofA_end] at hw
    exact ⟨⟨rs, pr, cr, x.1, x.2⟩, hrs, rfl, selK [1,2,0] rfl rfl _ hw⟩

end Go.Proofs.YtffbohecdocajaaGreat

namespace Go.Proofs.YtffbohecdocajaaGreat
open Go.SL Go.Proofs Go.Cast Go.Cell
set_option linter.unusedVariables false
/-- The frame and the sum of an area. -/
structure ArS where
  xl : Int
  xh : Int
  yl : Int
  yh : Int
  sl : Int
  sh : Int
  deriving DecidableEq
def iniS (W : Nat) (l : List Nat) : ArS := ⟨(l.headD 0 % W : Nat), (l.headD 0 % W : Nat), (l.headD 0 / W : Nat), (l.headD 0 / W : Nat), 0,0⟩
def stepS (W : Nat) (vs : List Spanv) (lv : Int) (s : ArS) (p : Nat) : ArS :=
  ⟨min s.xl (p % W : Nat), max s.xh (p % W : Nat), min s.yl (p / W : Nat), max s.yh (p / W : Nat), if inBv vs lv p = true then s.sl + (vs.getD p ⟨0,0⟩).lo else s.sl, s.sh + (vs.getD p ⟨0,0⟩).hi⟩
def sumS (W : Nat) (vs : List Spanv) (lv : Int) (l : List Nat) : ArS := l.foldl (stepS W vs lv) (iniS W l)
def sumTo (W : Nat) (vs : List Spanv) (lv : Int) (l : List Nat) (k : Nat) : ArS := (l.take k).foldl (stepS W vs lv) (iniS W l)
theorem sumTo_zero {W : Nat} {vs : List Spanv} {lv : Int} {l : List Nat} : sumTo W vs lv l 0 = iniS W l := rfl
theorem sumTo_all {W : Nat} {vs : List Spanv} {lv : Int} {l : List Nat} : sumTo W vs lv l l.length = sumS W vs lv l := by unfold sumTo sumS; rw [List.take_length]
theorem sumTo_succ {W : Nat} {vs : List Spanv} {lv : Int} {l : List Nat} {k p : Nat} (h : l[k]? = some p) : sumTo W vs lv l (k + 1) = stepS W vs lv (sumTo W vs lv l k) p := by
  unfold sumTo
  rw [List.take_add_one, h]
  show List.foldl _ _ (l.take k ++ [p]) = _
  rw [List.foldl_append]
  rfl
/-- Sums are bounded. -/
theorem sumTo_bd {W : Nat} {vs : List Spanv} {lv : Int} {l : List Nat} (hok : ∀ j, j < vs.length → spanOk 1073741824 (vs.getD j ⟨0,0⟩)) (hl : ∀ p, p ∈ l → p < vs.length) : ∀ k, k ≤ l.length → (0 ≤ (sumTo W vs lv l k).sl ∧ (sumTo W vs lv l k).sl ≤ 1073741824 * k) ∧ (0 ≤ (sumTo W vs lv l k).sh ∧ (sumTo W vs lv l k).sh ≤ 1073741824 * k)
  | 0,_ => by rw [sumTo_zero]; exact ⟨⟨Int.le_refl _, by simp [iniS]⟩, ⟨Int.le_refl _, by simp [iniS]⟩⟩
  | k + 1, hk => by
    have ih := sumTo_bd hok hl (W := W) (lv := lv) k (by omega)
    have hp : l[k]? = some l[k] := List.getElem?_eq_getElem (by omega)
    rw [sumTo_succ hp]
    have hs := hok l[k] (hl _ (List.getElem_mem _))
    unfold spanOk at hs
    unfold stepS
    dsimp only
    constructor
    · split <;> omega
    · omega
/-- An area. -/
structure AreaM where
  px : List Nat
  ks : List (List Nat)
  s : ArS
def areaM (W H : Nat) (vs : List Spanv) (lv : Int) (l : List Nat) : AreaM := ⟨l, (partsL W H (inBv vs lv)).filter (fun k => decide (k.headD 0 ∈ l)), sumS W vs lv l⟩
def areasM (W H : Nat) (vs : List Spanv) (lv : Int) : List AreaM := (partsL W H (mayB vs lv)).map (areaM W H vs lv)
/-- An area as it lies there. -/
structure AreaR where
  px : RowA Nat
  kp : Option Addr
  kc : Nat
  kr : List (RowA Nat)
  s : ArS
def AreaR.cells (a : AreaR) : List Value := [.slice a.px.p a.px.l.length a.px.c, .slice a.kp a.kr.length a.kc, .int .i64 a.s.xl, .int .i64 a.s.xh, .int .i64 a.s.yl, .int .i64 a.s.yh, .int .i64 a.s.sl, .int .i64 a.s.sh]
def AreaR.m (a : AreaR) : AreaM := ⟨a.px.l, a.kr.map RowA.l, a.s⟩
def AreaR.kR (a : AreaR) : Res := own 112 1 a.kp a.kc (a.kr.map rowC)
def arZ : AreaR := ⟨⟨none, 0, []⟩, none, 0, [], ⟨0,0,0,0,0,0⟩⟩
def areaOf (W : Nat) (vs : List Spanv) (lv : Int) (r : RowA Nat) : AreaR := ⟨r, none, 0, [], sumS W vs lv r.l⟩
/-- The list of areas of which the first ones are made. -/
def arsTo (W : Nat) (vs : List Spanv) (lv : Int) (rs : List (RowA Nat)) (i : Nat) : List AreaR := (rs.take i).map (areaOf W vs lv) ++ List.replicate (rs.length - i) arZ
theorem arsTo_zero {W : Nat} {vs : List Spanv} {lv : Int} {rs : List (RowA Nat)} : List.replicate rs.length arZ = arsTo W vs lv rs 0 := by unfold arsTo; simp
theorem arsTo_len {W : Nat} {vs : List Spanv} {lv : Int} {rs : List (RowA Nat)} {i : Nat} (h : i ≤ rs.length) : (arsTo W vs lv rs i).length = rs.length := by unfold arsTo; simp; omega
theorem arsTo_set {W : Nat} {vs : List Spanv} {lv : Int} {rs : List (RowA Nat)} {i : Nat} {r : RowA Nat} (h : rs[i]? = some r) : (arsTo W vs lv rs i).set i (areaOf W vs lv r) = arsTo W vs lv rs (i + 1) := by
  have hi := (List.getElem?_eq_some_iff.1 h).1
  unfold arsTo
  have hl : ((rs.take i).map (areaOf W vs lv)).length = i := by simp; omega
  rw [List.set_append_right _ _ (by omega), hl, Nat.sub_self, show rs.length - i = (rs.length - (i + 1)) + 1 by omega, List.replicate_succ, List.set_cons_zero, List.take_add_one, h, List.map_append, List.append_assoc]
  rfl
theorem arsTo_all {W : Nat} {vs : List Spanv} {lv : Int} {rs : List (RowA Nat)} : arsTo W vs lv rs rs.length = rs.map (areaOf W vs lv) := by unfold arsTo; simp
/-- What holds while kernels are added. -/
structure KInv (W : Nat) (vs : List Spanv) (lv : Int) (rs ks : List (RowA Nat)) (j : Nat) (l : List AreaR) : Prop where
  px : l.map AreaR.px = rs
  s : ∀ a, a ∈ l → a.s = sumS W vs lv a.px.l
  kr : ∀ a, a ∈ l → a.kr = (ks.take j).filter fun k => decide (k.l.headD 0 ∈ a.px.l)
theorem KInv.zero {W : Nat} {vs : List Spanv} {lv : Int} {rs ks : List (RowA Nat)} : KInv W vs lv rs ks 0 (rs.map (areaOf W vs lv)) := by
  refine ⟨by rw [List.map_map]; exact List.map_id _, fun a ha => ?_, fun a ha => ?_⟩
  · obtain ⟨r,_, rfl⟩ := List.mem_map.1 ha; rfl
  · obtain ⟨r,_, rfl⟩ := List.mem_map.1 ha; rfl
theorem KInv.len {W : Nat} {vs : List Spanv} {lv : Int} {rs ks : List (RowA Nat)} {j : Nat} {l : List AreaR} (h : KInv W vs lv rs ks j l) : l.length = rs.length := by rw [← h.px, List.length_map]
theorem KInv.add {W : Nat} {vs : List Spanv} {lv : Int} {rs ks : List (RowA Nat)} {j ix : Nat} {l : List AreaR} {k : RowA Nat} {a : AreaR} {p : Option Addr} {c : Nat} (h : KInv W vs lv rs ks j l) (hk : ks[j]? = some k) (ha : l[ix]? = some a) (hin : k.l.headD 0 ∈ a.px.l)
    (hap : (rs.map RowA.l).Pairwise fun a b => ∀ x, x ∈ a → x ∉ b) : KInv W vs lv rs ks (j + 1) (l.set ix { a with kp := p, kc := c, kr := a.kr ++ [k] }) := by
  have hl := (List.getElem?_eq_some_iff.1 ha).1
  have htk : ks.take (j + 1) = ks.take j ++ [k] := by rw [List.take_add_one, hk]; rfl
  have hset : ∀ b, b ∈ l.set ix { a with kp := p, kc := c, kr := a.kr ++ [k] } → b = { a with kp := p, kc := c, kr := a.kr ++ [k] } ∨ ∃ i, i ≠ ix ∧ l[i]? = some b := fun b hb => by
    obtain ⟨i, hi⟩ := List.mem_iff_getElem?.1 hb
    rw [List.getElem?_set] at hi
    by_cases e : ix = i
    · rw [if_pos e, if_pos (by omega)] at hi; exact .inl (Option.some.inj hi).symm
    · rw [if_neg e] at hi; exact .inr ⟨i, fun z => e z.symm, hi⟩
  have pxs : ∀ {i : Nat} {b : AreaR}, l[i]? = some b → (rs.map RowA.l)[i]? = some b.px.l := fun {i b} hb => by rw [← h.px, List.map_map, List.getElem?_map, hb]; rfl
  refine ⟨?_, fun b hb => ?_, fun b hb => ?_⟩
  · rw [List.map_set]
    have e : AreaR.px { a with kp := p, kc := c, kr := a.kr ++ [k] } = a.px := rfl
    rw [e, ← h.px]
    apply List.ext_getElem?
    intro n
    rw [List.getElem?_set]
    split
    · rename_i q; subst q
      rw [if_pos (by rw [List.length_map]; exact hl), List.getElem?_map, ha]; rfl
    · rfl
  · rcases hset b hb with rfl | ⟨i,_, hi⟩
    · exact h.s a (List.mem_of_getElem? ha)
    · exact h.s b (List.mem_of_getElem? hi)
  · rw [htk, List.filter_append]
    rcases hset b hb with rfl | ⟨i, hne, hi⟩
    · show a.kr ++ [k] = _
      rw [List.filter_cons, if_pos (by simpa using hin), List.filter_nil, h.kr a (List.mem_of_getElem? ha)]
    · have hno : k.l.headD 0 ∉ b.px.l := by
        have h1 := pxs ha
        have h2 := pxs hi
        obtain ⟨g1, e1⟩ := List.getElem?_eq_some_iff.1 h1
        obtain ⟨g2, e2⟩ := List.getElem?_eq_some_iff.1 h2
        have h3 := List.pairwise_iff_getElem.1 hap
        intro hx
        rcases Nat.lt_or_gt_of_ne hne with z | z
        · exact h3 i ix g2 g1 z _ (by rw [e2]; exact hx) (by rw [e1]; exact hin)
        · exact h3 ix i g1 g2 z _ (by rw [e1]; exact hin) (by rw [e2]; exact hx)
      rw [List.filter_cons, if_neg (by simpa using hno), List.filter_nil, List.append_nil]
      exact h.kr b (List.mem_of_getElem? hi)
theorem KInv.done {W H : Nat} {vs : List Spanv} {lv : Int} {rs ks : List (RowA Nat)} {l : List AreaR} (h : KInv W vs lv rs ks ks.length l) (hr : rs.map RowA.l = partsL W H (mayB vs lv)) (hk : ks.map RowA.l = partsL W H (inBv vs lv)) : l.map AreaR.m = areasM W H vs lv := by
  unfold areasM
  rw [← hr, ← h.px, List.map_map, List.map_map]
  refine List.map_congr_left fun a ha => ?_
  show AreaR.m a = areaM W H vs lv a.px.l
  unfold AreaR.m areaM
  have h1 := h.kr a ha
  rw [List.take_length] at h1
  have h2 : a.kr.map RowA.l = (partsL W H (inBv vs lv)).filter (fun k => decide (k.headD 0 ∈ a.px.l)) := by
    rw [h1, ← hk, List.filter_map]; rfl
  rw [h2, h.s a ha]
/-- A kernel's first pixel lies in an area. -/
theorem kern_ix {W H : Nat} {vs : List Spanv} {lv : Int} {rs ks : List (RowA Nat)} {j : Nat} {k : RowA Nat} (hok : ∀ j, j < W * H → spanOk 1073741824 (vs.getD j ⟨0,0⟩)) (hr : rs.map RowA.l = partsL W H (mayB vs lv)) (hk : ks.map RowA.l = partsL W H (inBv vs lv)) (h : ks[j]? = some k) :
    0 < k.l.length ∧ k.l.getD 0 0 < W * H ∧ k.l.getD 0 0 = k.l.headD 0 ∧ ∃ ix : Nat, (ofL W H (mayB vs lv))[k.l.getD 0 0]? = some (ix : Int) ∧ ix < rs.length ∧ ∀ r, rs[ix]? = some r → k.l.headD 0 ∈ r.l := by
  have h1 : k.l ∈ partsL W H (inBv vs lv) := by rw [← hk]; exact List.mem_map_of_mem (List.mem_of_getElem? h)
  obtain ⟨p, hp, hs, e⟩ := mem_partsTo (p := W * H) h1
  have hne : k.l ≠ [] := by rw [e]; exact compL_ne hp
  have hh : k.l.getD 0 0 = k.l.headD 0 := by cases k.l with | nil => rfl | cons a l => rfl
  have hm := headD_mem hne
  obtain ⟨h2, h3,_,_⟩ := parts_cn (Nat.le_refl _) h1 hm
  have hmay : mayB vs lv (k.l.headD 0) = true := by
    have := hok _ h3
    unfold spanOk at this
    unfold inBv at h2
    unfold mayB
    simp only [decide_eq_true_eq] at *
    omega
  obtain ⟨l, h4, h5⟩ := parts_all (Nat.le_refl _) h3 hmay
  obtain ⟨ix, hix⟩ := List.mem_iff_getElem?.1 h4
  have hix2 : (partsL W H (mayB vs lv))[ix]? = some l := hix
  have hlt : ix < rs.length := by
    have := (List.getElem?_eq_some_iff.1 hix2).1
    rw [← hr, List.length_map] at this; exact this
  refine ⟨by cases hq : k.l with | nil => exact absurd hq hne | cons a l => simp, by rw [hh]; exact h3, hh, ix, ?_, hlt, fun r hrr => ?_⟩
  · rw [hh]
    unfold ofL
    rw [List.getElem?_map, List.getElem?_range h3]
    have := idx_at (parts_apart (Nat.le_refl _)) hix h5
    exact congrArg some this
  · have : (rs.map RowA.l)[ix]? = some r.l := by rw [List.getElem?_map, hrr]; rfl
    rw [hr, hix2] at this
    cases this
    exact h5
/-- The bytes of a store. -/
theorem ar_set {l : List AreaR} {ix c : Nat} {p : Option Addr} {a : AreaR} {k : RowA Nat} (ha : l[ix]? = some a) : (l.map AreaR.cells).set ix ((AreaR.cells a).take 1 ++ [.slice p (a.kr ++ [k]).length c] ++ (AreaR.cells a).drop (1 + [Value.slice p (a.kr ++ [k]).length c].length)) = (l.set ix { a with kp := p, kc := c, kr := a.kr ++ [k] }).map AreaR.cells := by
  rw [List.map_set]
  rfl
end Go.Proofs.YtffbohecdocajaaGreat
