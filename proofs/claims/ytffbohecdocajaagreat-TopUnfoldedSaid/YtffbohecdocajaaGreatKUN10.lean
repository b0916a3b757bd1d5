/-
  Bonds of places.
  Walks of package fold: how gates are linked.
  Walks of package fold: rows of sets.
  What weave needs.
  Walks of package fold: weave.
  Walks of package fold: places that wait.
  What settle keeps: the plain law.
  Walks of package fold: settle.
  PulseTruth is walked.
  Turned samples: the plain part of PulseTurned.
  What an echo that is heard can mean holds the truth: the plain law.
  What the law of unfolded speeds makes of its input: the plain law.
  What unfolding keeps of a sweep: the plain law.
  Walks of package fold: Unfold.
-/
import Derived.Test.YtffbohecdocajaaGreatKUN09

set_option linter.unusedSimpArgs false
namespace Go.Proofs.YtffbohecdocajaaGreat
open Go.SL Go.Proofs Go.Pulse
set_option linter.unusedVariables false



/-- A bond. -/
structure Bond where
  ra : Int
  ga : Int
  m : Int
abbrev bndC (b : Bond) : List Value := [.int .i64 b.ra, .int .i64 b.ga, .int .i64 b.m]
/-- The bonds of a place, as they lie. -/
structure BY where
  k : Int × Int
  l : List Bond
  p : Option Addr
  c : Nat
def dB : BY := ⟨(0,0), [], none, 0⟩
abbrev bOwn (e : BY) : Res := own 338 3 e.p e.c (e.l.map bndC)
abbrev bV (e : BY) : Value := .slice e.p e.l.length e.c
abbrev plV (x : Int × Int) : Value := pairV intV intV x
def asM (l : List BY) (n : Int × Int) : Option BY := l.find? fun e => decide (e.k = n)
theorem key330 : KeyE Tryz.prog 330 plV := key_pair (cell1_int Tryz.underlying3 O3) (cell1_int Tryz.underlying3 O3) ⟨_,_, Tryz.underlying330, by decide, by decide, rfl, rfl, rfl, rfl, by kernel_rfl⟩
theorem map334 : IsMapG Tryz.prog 334 plV bV dB := ⟨_,_, Tryz.underlying334, key330, by unfold ZeroOf; kernel_rfl⟩
theorem foc (l : List BY) (n : Int × Int) : ∃ rest : List BY,
    (∀ (β : Bs) (L : List Res) (w : World), St β (bagD (l.map bOwn) :: L) w → St β (bOwn ((asM l n).getD dB) :: bagD (rest.map bOwn) :: L) w) ∧
    ∀ e : BY, e.k = n → ∃ l', asM l' = updG (asM l) n e ∧ (∀ (β : Bs) (L : List Res) (w : World), St β (bOwn e :: bagD (rest.map bOwn) :: L) w → St β (bagD (l'.map bOwn) :: L) w) ∧ ∀ x, x ∈ l' → x ∈ l ∨ x = e := by
  cases hq : asM l n with
  | none =>
    refine ⟨l, fun β L w h => h.ownNil 338 3, fun e he => ⟨e :: l, ?_, fun β L w h => St.unfocus (A := []) h, fun x hx => ?_⟩⟩
    · funext m
      unfold asM updG
      rw [List.find?_cons]
      by_cases q : m = n
      · subst q
        rw [if_pos rfl, decide_eq_true he]
      · rw [if_neg q, decide_eq_false (fun z => q (by rw [← z, he]))]
    · rcases List.mem_cons.1 hx with k | k
      · exact .inr k
      · exact .inl k
  | some e0 =>
    obtain ⟨h1, A, B, rfl, h2⟩ := List.find?_eq_some_iff_append.1 hq
    have hk : e0.k = n := of_decide_eq_true h1
    refine ⟨A ++ B, fun β L w h => ?_, fun e he => ⟨A ++ e :: B, ?_, fun β L w h => ?_, fun x hx => ?_⟩⟩
    · rw [List.map_append, List.map_cons] at h
      rw [List.map_append]
      exact St.focus h
    · funext m
      unfold asM updG
      show _ = if m = n then some e else List.find? (fun e => decide (e.k = m)) (A ++ e0 :: B)
      rw [List.find?_append, List.find?_append, List.find?_cons, List.find?_cons]
      by_cases q : m = n
      · subst q
        have : A.find? (fun e => decide (e.k = m)) = none := List.find?_eq_none.2 fun x hx => by simpa using h2 x hx
        rw [if_pos rfl, decide_eq_true he, this]; rfl
      · rw [if_neg q, decide_eq_false (fun z => q (by rw [← z, he])), decide_eq_false (fun z => q (by rw [← z, hk]))]
    · rw [List.map_append] at h
      rw [List.map_append, List.map_cons]
      exact St.unfocus h
    · rcases List.mem_append.1 hx with k | k
      · exact .inl (List.mem_append_left _ k)
      · rcases List.mem_cons.1 k with k | k
        · exact .inr k
        · exact .inl (List.mem_append_right _ (List.mem_cons_of_mem _ k))
/-- What all bonds have. -/
def BOk (Q : Bond → Prop) (N : Nat) (l : List BY) : Prop := ∀ x, x ∈ l → x.l.length ≤ N ∧ ∀ d, d ∈ x.l → Q d
theorem bok_get {Q : Bond → Prop} {N : Nat} {l : List BY} (h : BOk Q N l) (n : Int × Int) : ((asM l n).getD dB).l.length ≤ N ∧ ∀ d, d ∈ ((asM l n).getD dB).l → Q d := by
  cases hq : asM l n with
  | none => exact ⟨Nat.zero_le _, fun d hd => by cases hd⟩
  | some e => exact h e (List.mem_of_find?_eq_some hq)
theorem bok_put {Q : Bond → Prop} {N : Nat} {l r : List BY} {n : Int × Int} {d : Bond} {p : Option Addr} {c : Nat} (h : BOk Q N l) (hr : ∀ x, x ∈ r → x ∈ l ∨ x = ⟨n, ((asM l n).getD dB).l ++ [d], p, c⟩) (hd : Q d) : BOk Q (N + 1) r := fun x hx => by
  rcases hr x hx with k | k
  · exact ⟨Nat.le_succ_of_le (h x k).1, (h x k).2⟩
  · subst k
    have := bok_get h n
    refine ⟨by show (_ ++ [d]).length ≤ _; rw [List.length_append]; simp only [List.length_singleton]; omega, fun q hq => ?_⟩
    rcases List.mem_append.1 hq with k | k
    · exact this.2 q k
    · rw [List.mem_singleton.1 k]; exact hd

end Go.Proofs.YtffbohecdocajaaGreat

namespace Go.Proofs.YtffbohecdocajaaGreat
open Go.SL Go.Proofs Go.Pulse
set_option linter.unusedVariables false

theorem F336_1 : FieldAt Tryz.prog 336 1 1 := ⟨_,_, Tryz.underlying336, rfl, rfl, 0, by kernel_rfl⟩
theorem O334 : IsOne Tryz.prog 334 := ⟨⟨_, Tryz.underlying334, rfl⟩, by kernel_rfl⟩
theorem A330 : IsAgg Tryz.prog 330 2 := ⟨⟨_, Tryz.underlying330, rfl⟩, by kernel_rfl⟩
theorem B338 : Builds Tryz.prog 338 [(0,2), (2,1)] [.int .i64 0, .int .i64 0, .int .i64 0] := Builds.mk fun _ => by kernel_rfl
theorem S333 : IsSlice Tryz.prog 333 338 := Tryz.underlying333
theorem Z338 : ZeroOf Tryz.prog 338 (.agg #[.int .i64 0, .int .i64 0, .int .i64 0]) := by unfold ZeroOf; kernel_rfl
theorem N338 : (Tryz.prog.info? 338).map (·.size) = some 3 := by kernel_rfl
theorem I338 : EInfo Tryz.prog 338 3 24 (.agg #[.int .i64 0, .int .i64 0, .int .i64 0]) := ⟨by kernel_rfl, by kernel_rfl, by unfold ZeroOf; kernel_rfl, rfl, by decide⟩


set_option maxRecDepth 20000 in
theorem link_c (bw bm : Nat) (top : Value) (bs1 : List BY) (Q : Bond → Prop) (N : Nat) (a b : Int × Int) (most : Int) (w : World) (hh : Has w [mapR plV bV bm (asM bs1), bagD (bs1.map bOwn)]) (hW : ∀ L w2, St ⟨w, fpL [mapR plV bV bm (asM bs1), bagD (bs1.map bOwn)]⟩ L w2 → Cells w2 ⟨bw, 0, none⟩ [top, .map (some bm)]) (hN : N < 1000000) (hok1 : BOk Q N bs1) (hqb : Q ⟨b.1, b.2, most⟩) (hqa : Q ⟨a.1, a.2, most⟩) :
  Calls Tryz.prog 197 #[.pointer (some ⟨bw, 0, none⟩), plV a, plV b, .int .i64 most] w fun e w' => ∃ y : List BY, BOk Q (N + 2) y ∧ e = .returned (.tuple #[]) ∧ St ⟨w, fpL [mapR plV bV bm (asM bs1), bagD (bs1.map bOwn)]⟩ [mapR plV bV bm (asM y), bagD (y.map bOwn)] w' := by
  refine enterO (vs := [_,_,_,_]) (env := [(0,_), (1,_), (2,_), (3,_)]) hh.enter Tryz.func197 rfl rfl rfl rfl ?_
  refine VC.seq ?_
  refine VC.reg (VO.h rfl<|HO.box (C := #[_,_]) rfl rfl fun b3 => VO.h rfl<|HO.box (C := #[_,_]) rfl rfl fun b4 => VO.nil ?_)
  refine VE.seqN ?_
  refine VC.seq ?_
  obtain ⟨rr1, hf1, hp1⟩ := foc bs1 a
  have hlb1 := bok_get hok1 a
  refine VC.perm [3,0,1,2] rfl ?_
  refine VC.res (hf1 _ _) ?_
  refine VC.stamp 4 a (fun R => [_,_,_,_, R]) rfl (fun _ => rfl) fun sta => ?_
  refine VC.drawD [⟨8,17, fun b => .slice (some ⟨b, 0, none⟩) 1 1,338, #[_,_,_]⟩] [9] [[0,1,2,3,4], [0,1,2,3,4], [0,1,2,3], [1,2,3], [1,2,3]] [some 1, some 1, some 1, some 1, some 1, some 0, some 0, some 0, none, none, some 2, none, some 3, none] mixed (by kernel_rfl) rfl (LXD.l (fun _ hJ => LO.mv (.r rfl)) rfl<|LXD.l (fun _ hJ => LO.nc (.r rfl)) rfl<|LXD.l (fun _ hJ => LO.fa (r := 1) F336_1 (.r rfl) rfl) rfl<|LXD.l (fun _ hJ => LO.ld O334 (.r rfl) (fun _ hw => sub_cells (off := 1) (hW _ _ (hJ _ hw)) ⟨_, rfl⟩)) rfl<|LXD.l (fun _ hJ => LO.lda (vs := [_,_]) A330 (.r rfl) (fun _ hw => cells_at (hJ _ hw) 3 rfl ⟨_, rfl⟩) rfl) rfl<|LXD.l (fun _ hJ => LO.lda (vs := [_,_]) A330 (.r rfl) (fun _ hw => cells_at (hJ _ hw) 2 rfl ⟨_, rfl⟩) rfl) rfl<|LXD.l (fun _ hJ => LO.mv (.r rfl)) rfl<|LXD.l (fun _ hJ => LO.bd (ps := [(_,_), (_,_)]) (vs := [(_,_), (_,_)]) (C := [_,_,_]) B338  ⟨(.r rfl), (.r rfl), trivial⟩ rfl ⟨_, [_,_], [_,_,_], rfl, rfl, rfl, rfl, ⟨_, [_], [_,_,_], rfl, rfl, rfl, rfl, rfl⟩⟩) rfl<|LXD.s rfl<|LXD.d ((.tuple #[bV ((asM bs1 a).getD dB), .int .i64 (sta : Nat)])) rfl<|LXD.l (fun _ hJ => LO.ex (.r rfl) rfl) rfl<|LXD.s rfl<|LXD.l (fun _ hJ => LO.ex (.r rfl) rfl) rfl<|LXD.s rfl<|LXD.nil) (⟨⟨rfl,_, rfl, FO.bs (ps := [(_,_)]) (vs := [(_,_)]) (Z := [_,_,_]) (C := [_,_,_]) S333 Z338 N338 ⟨(.r rfl), trivial⟩ rfl rfl rfl rfl ⟨_, [_,_,_], [_,_,_], rfl, rfl, rfl, rfl, rfl⟩⟩, trivial⟩) (HYD.s<|HYD.s<|HYD.s<|HYD.s<|HYD.s<|HYD.s<|HYD.s<|HYD.s<|HYD.f rfl fun b7 => ⟨selJ (L1 := [_,_,_,_,_]) [1,2,3,4,5] rfl rfl rfl, HYD.d rfl rfl fun X => HO.menT 5 (fun R => [_,_,_,_,_, R] ++ X) a map334 (.r rfl) (.r rfl) rfl (fun _ => rfl)<|⟨rfl, [_,_,_,_,_,_], rfl, selJ (L1 := [_,_,_,_]) [1,2,3,4] rfl rfl rfl, HYD.s<|HYD.h rfl rfl rfl fun X => HO.appT ((⟨b.1, b.2, most⟩ : Bond)) 1 0 (fun R => [_, R,_,_,_,_] ++ X) S333 S333 I338 (.r rfl) (.r rfl) rfl rfl rfl rfl rfl rfl rfl (fun _ => rfl) rfl (by omega) fun p11 c11 => ⟨[_,_,_,_,_,_], rfl, selJ (L1 := [_,_,_]) [2,3,4] rfl rfl rfl, HYD.s<|HYD.h0 rfl fun X => HO.est (kE := plV) (vE := bV) 5 (fun R => [_,_,_,_,_, R] ++ X) a (⟨a, ((asM bs1 a).getD dB).l ++ [⟨b.1, b.2, most⟩], p11, c11⟩ : BY) key330.inj (.r rfl) (.r rfl) (.r rfl) rfl (fun _ => rfl)<|⟨[_,_,_,_,_,_], rfl, selJ (L1 := [_,_,_]) [2,3,4] rfl rfl rfl, HYD.nil ?_⟩⟩⟩⟩)
  rw [updG_twice]
  obtain ⟨bs2, hm1, hu1, hx1⟩ := hp1 (⟨a, ((asM bs1 a).getD dB).l ++ [⟨b.1, b.2, most⟩], p11, c11⟩ : BY) rfl
  rw [← hm1]
  have hok2 := bok_put hok1 hx1 hqb
  refine VC.perm [1,2,0,3,4,5] rfl ?_
  refine VC.res (hu1 _ _) ?_
  refine VE.seqN ?_
  obtain ⟨rr2, hf2, hp2⟩ := foc bs2 b
  have hlb2 := bok_get hok2 b
  refine VC.perm [0,1,2,3,4] rfl ?_
  refine VC.res (hf2 _ _) ?_
  refine VC.stamp 5 b (fun R => [_,_,_,_,_, R]) rfl (fun _ => rfl) fun stb => ?_
  refine VC.drawD [⟨8,30, fun b => .slice (some ⟨b, 0, none⟩) 1 1,338, #[_,_,_]⟩] [9] [[0,1,2,3,4,5], [0,1,2,3,4,5], [0,1,2,3,4], [1,2,3,4], [1,2,3,4]] [some 1, some 1, some 1, some 1, some 1, some 0, some 0, some 0, none, none, some 2, none, some 3, none] mixed (by kernel_rfl) rfl (LXD.l (fun _ hJ => LO.mv (.r rfl)) rfl<|LXD.l (fun _ hJ => LO.nc (.r rfl)) rfl<|LXD.l (fun _ hJ => LO.fa (r := 1) F336_1 (.r rfl) rfl) rfl<|LXD.l (fun _ hJ => LO.ld O334 (.r rfl) (fun _ hw => sub_cells (off := 1) (hW _ _ (hJ _ hw)) ⟨_, rfl⟩)) rfl<|LXD.l (fun _ hJ => LO.lda (vs := [_,_]) A330 (.r rfl) (fun _ hw => cells_at (hJ _ hw) 3 rfl ⟨_, rfl⟩) rfl) rfl<|LXD.l (fun _ hJ => LO.lda (vs := [_,_]) A330 (.r rfl) (fun _ hw => cells_at (hJ _ hw) 4 rfl ⟨_, rfl⟩) rfl) rfl<|LXD.l (fun _ hJ => LO.mv (.r rfl)) rfl<|LXD.l (fun _ hJ => LO.bd (ps := [(_,_), (_,_)]) (vs := [(_,_), (_,_)]) (C := [_,_,_]) B338  ⟨(.r rfl), (.r rfl), trivial⟩ rfl ⟨_, [_,_], [_,_,_], rfl, rfl, rfl, rfl, ⟨_, [_], [_,_,_], rfl, rfl, rfl, rfl, rfl⟩⟩) rfl<|LXD.s rfl<|LXD.d ((.tuple #[bV ((asM bs2 b).getD dB), .int .i64 (stb : Nat)])) rfl<|LXD.l (fun _ hJ => LO.ex (.r rfl) rfl) rfl<|LXD.s rfl<|LXD.l (fun _ hJ => LO.ex (.r rfl) rfl) rfl<|LXD.s rfl<|LXD.nil) (⟨⟨rfl,_, rfl, FO.bs (ps := [(_,_)]) (vs := [(_,_)]) (Z := [_,_,_]) (C := [_,_,_]) S333 Z338 N338 ⟨(.r rfl), trivial⟩ rfl rfl rfl rfl ⟨_, [_,_,_], [_,_,_], rfl, rfl, rfl, rfl, rfl⟩⟩, trivial⟩) (HYD.s<|HYD.s<|HYD.s<|HYD.s<|HYD.s<|HYD.s<|HYD.s<|HYD.s<|HYD.f rfl fun b10 => ⟨selJ (L1 := [_,_,_,_,_,_]) [1,2,3,4,5,6] rfl rfl rfl, HYD.d rfl rfl fun X => HO.menT 6 (fun R => [_,_,_,_,_,_, R] ++ X) b map334 (.r rfl) (.r rfl) rfl (fun _ => rfl)<|⟨rfl, [_,_,_,_,_,_,_], rfl, selJ (L1 := [_,_,_,_,_]) [1,2,3,4,5] rfl rfl rfl, HYD.s<|HYD.h rfl rfl rfl fun X => HO.appT ((⟨a.1, a.2, most⟩ : Bond)) 1 0 (fun R => [_, R,_,_,_,_,_] ++ X) S333 S333 I338 (.r rfl) (.r rfl) rfl rfl rfl rfl rfl rfl rfl (fun _ => rfl) rfl (by omega) fun p11 c11 => ⟨[_,_,_,_,_,_,_], rfl, selJ (L1 := [_,_,_,_]) [2,3,4,5] rfl rfl rfl, HYD.s<|HYD.h0 rfl fun X => HO.est (kE := plV) (vE := bV) 6 (fun R => [_,_,_,_,_,_, R] ++ X) b (⟨b, ((asM bs2 b).getD dB).l ++ [⟨a.1, a.2, most⟩], p11, c11⟩ : BY) key330.inj (.r rfl) (.r rfl) (.r rfl) rfl (fun _ => rfl)<|⟨[_,_,_,_,_,_,_], rfl, selJ (L1 := [_,_,_,_]) [2,3,4,5] rfl rfl rfl, HYD.nil ?_⟩⟩⟩⟩)
  rw [updG_twice]
  obtain ⟨bs3, hm2, hu2, hx2⟩ := hp2 (⟨b, ((asM bs2 b).getD dB).l ++ [⟨a.1, a.2, most⟩], p11, c11⟩ : BY) rfl
  rw [← hm2]
  have hok3 := bok_put hok2 hx2 hqa
  refine VE.resN (vs := []) rfl trivial (fun w hw => ?_)
  exact ⟨bs3, hok3, rfl, (hu2 _ _ w (hw.sel [1,2,6] rfl)).sel [1,0] rfl⟩

end Go.Proofs.YtffbohecdocajaaGreat

namespace Go.Proofs.YtffbohecdocajaaGreat
open Go.SL Go.Proofs Go.Pulse
set_option linter.unusedVariables false

theorem I187 : EInfo Tryz.prog 187 1 24 (.slice none 0 0) := ⟨by kernel_rfl, by kernel_rfl, by unfold ZeroOf; kernel_rfl, rfl, by decide⟩


/-- A row of sets, as it lies. -/
structure RowY where
  l : List SpY
  p : Option Addr
  c : Nat
def zRY : RowY := ⟨[], none, 0⟩
abbrev rowC (r : RowY) : List Value := [.slice r.p r.l.length r.c]
abbrev rOwn (r : RowY) : Res := own 187 1 r.p r.c (r.l.map setC)
def setAt (M : List RowY) (a i : Nat) : SpY := (M.getD a zRY).l.getD i zSY
structure MatY (w : World) (p : Option Addr) (M : List RowY) : Prop where
  t : RO 1 rowC w p M
  r : ∀ r, r ∈ M → RO 1 setC w r.p r.l
theorem MatY.at {w : World} {p : Option Addr} {M : List RowY} (h : MatY w p M) {i : Nat} (hi : i < M.length) : RO 1 setC w (M.getD i zRY).p (M.getD i zRY).l := h.r _ (getD_mem hi)

set_option maxRecDepth 20000 in
theorem CloneR_c (l : List SpY) (p : Option Addr) (c : Nat) (w : World) (hn : l.length < 1000000000000) (hl : RO 1 setC w p l) :
  Calls Tryz.prog 198 #[.slice p l.length c] w fun e w' => ∃ x : Option Addr × Nat, True ∧ e = .returned (.slice x.1 l.length x.2) ∧ St (bs w) [own 187 1 x.1 x.2 (l.map setC)] w' := by
  refine enter (vs := [_]) (env := [(0,_)]) Tryz.func198 rfl rfl rfl rfl ?_
  refine VC.seq ?_
  refine VC.reg (VO.l (LO.as (.r rfl)) rfl<|VO.nil ?_)
  refine VE.seqN ?_
  refine VC.seq ?_
  refine VC.seq ?_
  refine VC.reg (VO.l (LO.mv (.r rfl)) rfl<|VO.l (LO.eqSl ⟨_, Tryz.underlying183⟩ (.r rfl) (.r rfl)) rfl<|VO.nil ?_)
  refine VE.seqN ?_
  refine VC.cond rfl (fun h4 => ?_) (fun h4 => ?_)
  ·
    have h0 := RO_none3 hl h4
    refine VC.seq ?_
    refine VC.reg (VO.l (LO.as (.r rfl)) rfl<|VO.nil ?_)
    refine VE.seqN ?_
    refine VC.ret (VE.thenR (VE.res (vs := [_]) rfl ⟨rfl, trivial⟩ (fun w hw => ?_)))
    first | exact ⟨(none, 0), trivial, by rw [h0]; rfl, by rw [h0]; exact hw.nil.ownNil 187 1⟩ | exact ⟨(p2, c2), trivial, rfl, hw.sel [0] rfl⟩
  ·
    refine VC.skip (VE.seqN ?_)
    refine VC.seq ?_
    refine VC.reg (VO.h rfl<|HO.bs0 S183 N187 fun b1 => VO.l (LO.mv (.r rfl)) rfl<|VO.h rfl<|HO.appN0 (f := setC) (m := l) 0 (fun R => [R]) S183 S183 I187 (.r rfl) (.r rfl) rfl (fun w hw => hl.keep w hw) (fun _ => rfl) (fun _ => rfl) rfl rfl (fun _ => rfl) rfl (by omega) fun p2 c2 _ => VO.h rfl<|HO.lo (LO.as (.r rfl))<|VO.nil ?_)
    refine VE.seqN ?_
    refine VC.ret (VE.res (vs := [_]) rfl ⟨rfl, trivial⟩ (fun w hw => ?_))
    first | exact ⟨(none, 0), trivial, by rw [h0]; rfl, by rw [h0]; exact hw.nil.ownNil 187 1⟩ | exact ⟨(p2, c2), trivial, rfl, hw.sel [0] rfl⟩

end Go.Proofs.YtffbohecdocajaaGreat

namespace Go.Proofs.YtffbohecdocajaaGreat
open Go.SL Go.Proofs Go.Pulse
set_option linter.unusedVariables false



theorem knw_lt {l : List SpY} {n x : Nat} (h : x ∈ knw l n) : x < n := List.mem_range.1 (List.mem_filter.1 h).1
theorem knw_asc {l : List SpY} {n : Nat} : (knw l n).Pairwise (· < ·) := (List.pairwise_lt_range).sublist List.filter_sublist
theorem knw_at {l : List SpY} {n k : Nat} (h : k < (knw l n).length) : (knw l n).getD k 0 < n := knw_lt (getD_mem h)
theorem knw_step {l : List SpY} {n k : Nat} (h0 : 0 < k) (h : k < (knw l n).length) : (knw l n).getD (k - 1) 0 < (knw l n).getD k 0 := by
  have e : ∀ j (hj : j < (knw l n).length), (knw l n).getD j 0 = (knw l n)[j] := fun j hj => by rw [List.getD_eq_getElem?_getD, List.getElem?_eq_getElem hj]; rfl
  rw [e k h, e (k - 1) (by omega)]
  exact List.pairwise_iff_getElem.1 knw_asc (k - 1) k (by omega) h (by omega)
theorem St.bagSnocR {β : Bs} {L : List Res} {w : World} {r : RowY} {A : List RowY} (h : St β (rOwn r :: bagD (A.map rOwn) :: L) w) : St β (bagD ((A ++ [r]).map rOwn) :: L) w := by
  rw [List.map_append]
  exact St.unfocus (A := A.map rOwn) (B := []) (by rw [List.append_nil]; exact h)
theorem jmp {j x : Int} (hj : 0 ≤ j ∧ j ≤ 10000) (hx : 1 ≤ x ∧ x ≤ 3) : j ≤ j * x ∧ j * x ≤ 30000 := by
  have : x = 1 ∨ x = 2 ∨ x = 3 := by omega
  rcases this with rfl | rfl | rfl <;> omega
theorem knw_ne {l : List SpY} {n k : Nat} (h : k < (knw l n).length) : 0 < (l.getD ((knw l n).getD k 0) zSY).l.length := of_decide_eq_true (List.mem_filter.1 (getD_mem (d := 0) h)).2
def BQ (M : List RowY) (G : Nat) (j : Int) (Q : Bond → Prop) : Prop := ∀ (r g : Nat) (m : Int), r < M.length → g < G → 0 < (setAt M r g).l.length → j ≤ m → m ≤ 30000 → Q ⟨(r : Nat), (g : Nat), m⟩
theorem mod_nat (a d n : Nat) : ((a : Int) + (d : Int)).tmod (n : Int) = (((a + d) % n : Nat) : Int) := by
  rw [← Int.natCast_add, ← Int.ofNat_tmod]

end Go.Proofs.YtffbohecdocajaaGreat

namespace Go.Proofs.YtffbohecdocajaaGreat
open Go.SL Go.Proofs Go.Pulse
set_option linter.unusedVariables false

theorem B336 : Builds Tryz.prog 336 [(0,1), (1,1)] [.slice none 0 0, .map none] := Builds.mk fun _ => by kernel_rfl
theorem S181 : IsSlice Tryz.prog 181 183 := Tryz.underlying181
theorem N183 : (Tryz.prog.info? 183).map (·.size) = some 1 := by kernel_rfl
theorem O183 : IsOne Tryz.prog 183 := ⟨⟨_, Tryz.underlying183, rfl⟩, by kernel_rfl⟩
theorem C128 : IsFn Tryz.prog 128 := ⟨_, Tryz.func128, by decide, rfl⟩
theorem B330 : Builds Tryz.prog 330 [(0,1), (1,1)] [.int .i64 0, .int .i64 0] := Builds.mk fun _ => by kernel_rfl
theorem C197 : IsFn Tryz.prog 197 := ⟨_, Tryz.func197, by decide, rfl⟩
theorem F336_0 : FieldAt Tryz.prog 336 0 0 := ⟨_,_, Tryz.underlying336, rfl, rfl, 0, by kernel_rfl⟩
theorem O181 : IsOne Tryz.prog 181 := ⟨⟨_, Tryz.underlying181, rfl⟩, by kernel_rfl⟩
theorem C198 : IsFn Tryz.prog 198 := ⟨_, Tryz.func198, by decide, rfl⟩
theorem Z183 : ZeroOf Tryz.prog 183 (.slice none 0 0) := by unfold ZeroOf; kernel_rfl
theorem I183 : EInfo Tryz.prog 183 1 24 (.slice none 0 0) := ⟨by kernel_rfl, by kernel_rfl, by unfold ZeroOf; kernel_rfl, rfl, by decide⟩
theorem N181 : (Tryz.prog.info? 181).map (·.size) = some 1 := by kernel_rfl


theorem mapRow_1 {M : List RowY} {a : Nat} (h : a < M.length) : (M.map (·.l)).take (a + 1) = (M.map (·.l)).take a ++ [(M.getD a zRY).l] := by
  rw [List.take_succ_eq_append_getElem (by rw [List.length_map]; exact h), List.getElem_map, List.getD_eq_getElem?_getD, List.getElem?_eq_getElem h]; rfl
theorem bok_mono {Q : Bond → Prop} {N K : Nat} {l : List BY} (h : BOk Q N l) (hn : N ≤ K) : BOk Q K l := fun x hx => ⟨Nat.le_trans (h x hx).1 hn, (h x hx).2⟩

set_option maxRecDepth 20000 in
set_option maxHeartbeats 4000000 in
theorem weave_c (M : List RowY) (G : Nat) (jump bridge : Int) (Q : Bond → Prop) (p : Option Addr) (c : Nat) (w : World) (hn : 1 ≤ M.length ∧ M.length ≤ 4) (hG : ∀ r, r ∈ M → r.l.length = G) (hG3 : G ≤ 3) (hj : 0 ≤ jump ∧ jump ≤ 10000) (hb : 1 ≤ bridge ∧ bridge ≤ 3) (hQ : BQ M G jump Q) (hM : MatY w p M) :
  Calls Tryz.prog 126 #[.slice p M.length c, .int .i64 jump, .int .i64 bridge] w fun e w' => ∃ y : (Nat × Nat × Option Addr × Nat) × List RowY × List BY, (BOk Q (12 * M.length) y.2.2 ∧ y.2.1.map (·.l) = M.map (·.l)) ∧ e = .returned (.pointer (some ⟨y.1.1,0, none⟩)) ∧ St (bs w) [blk y.1.1 (.cells #[.slice y.1.2.2.1 y.2.1.length y.1.2.2.2, .map (some y.1.2.1)] 336), own 183 1 y.1.2.2.1 y.1.2.2.2 (y.2.1.map rowC), bagD (y.2.1.map rOwn), mapR plV bV y.1.2.1 (asM y.2.2), bagD (y.2.2.map bOwn)] w' := by
  refine enter (vs := [_,_,_]) (env := [(0,_), (1,_), (2,_)]) Tryz.func126 rfl rfl rfl rfl ?_
  refine VC.seq ?_
  refine VC.reg (VO.l (LO.as (.r rfl)) rfl<|VO.nil ?_)
  refine VE.seqN ?_
  refine VC.seq ?_
  refine VC.reg (VO.h rfl<|HO.mkmapG plV bV fun b1 => VO.h rfl<|HO.lo (LO.bd (ps := [(_,_)]) (vs := [(_,_)]) (C := [_,_]) B336  ⟨(.r rfl), trivial⟩ rfl ⟨_, [_], [_,_], rfl, rfl, rfl, rfl, rfl⟩)<|VO.h rfl<|HO.box (C := #[_,_]) rfl rfl fun b2 => VO.h rfl<|HO.lo (LO.as (.r rfl))<|VO.nil ?_)
  refine VE.seqN ?_
  refine VC.seq ?_
  refine VC.reg (VO.l (LO.mv (.r rfl)) rfl<|VO.l (LO.len S181 (.r rfl) rfl) rfl<|VO.l (LO.as (.r rfl)) rfl<|VO.nil ?_)
  refine VE.seqN ?_
  refine VC.seq ?_
  refine VC.seq ?_
  refine VC.reg (VO.l (LO.mv (.r rfl)) rfl<|VO.l (LO.len S181 (.r rfl) rfl) rfl<|VO.l (LO.mv (.r rfl)) rfl<|VO.nil ?_)
  refine VE.seqN ?_
  refine VC.block ?_
  refine VC.loopK (α := Nat × (List RowY) × (Option Addr) × Nat × (List BY)) 2 (fun gx => [(23, .int .i64 (gx.1 : Nat))]) [(0,_), (1,_), (2,_), (7,_), (8,_), (21,_), (22,_)] (fun gx => [blk b2 (.cells #[.slice gx.2.2.1 gx.2.1.length gx.2.2.2.1, .map (some b1)] 336), own 183 1 gx.2.2.1 gx.2.2.2.1 (gx.2.1.map rowC), bagD (gx.2.1.map rOwn), mapR plV bV b1 (asM gx.2.2.2.2), bagD (gx.2.2.2.2.map bOwn)]) (fun gx => (gx.1 ≤ M.length ∧ gx.2.1.length = gx.1) ∧ BOk Q (12 * gx.1) gx.2.2.2.2 ∧ gx.2.1.map (·.l) = (M.map (·.l)).take gx.1) (fun gx => M.length - gx.1) (0, [], none, 0, []) (by exact ⟨⟨Nat.zero_le _, rfl⟩, fun x hx => (by cases hx), rfl⟩) (.cons rfl (.cons rfl (.cons rfl (.cons rfl (.cons rfl (.cons rfl (.cons rfl (.cons rfl .nil)))))))) (fun _ h => (((St.bagD (Rs := []) (St.bagD (Rs := []) h)).ownNil 183 1)).sel [3,0,1,4,2] rfl) ?_
  rintro ⟨ra, M2, pt, ct, bs⟩ ⟨hra, hok, hM2⟩
  show VC _ _ _ _ _ ([(23, .int .i64 (ra : Nat))] ++ _) ([blk b2 (.cells #[.slice pt M2.length ct, .map (some b1)] 336), own 183 1 pt ct (M2.map rowC), bagD (M2.map rOwn), mapR plV bV b1 (asM bs), bagD (bs.map bOwn)] ++ _) _ _
  dsimp only at hra hok hM2
  refine VC.seq ?_
  refine VC.reg (VO.l (LO.lt (.r rfl) (.r rfl)) rfl<|VO.nil ?_)
  refine VE.seqN ?_
  refine VC.seq ?_
  refine VC.cond rfl (fun h1 => ?_) (fun h1 => ?_)
  ·
    refine VC.skip (VE.seqN ?_)
    refine VC.seq ?_
    refine VC.block ?_
    refine VC.seq ?_
    refine VC.reg (VO.l (LO.mv (.r rfl)) rfl<|VO.l (LO.ixs S181 N183 hM.t.sm (.r rfl) (.r rfl) rfl (by omega)) rfl<|VO.l (LO.ld O183 (.r rfl) (fun w hw => cells_part (off := 0) ((hM.t.at zRY (j := ra) (by omega)) w hw) ⟨_, rfl⟩)) rfl<|VO.l (LO.as (.r rfl)) rfl<|VO.l (LO.as (.r rfl)) rfl<|VO.nil ?_)
    refine VE.seqN ?_
    refine VC.seq ?_
    have hgl := hG _ (getD_mem (d := zRY) (show ra < M.length by omega))
    refine VC.reg (VO.l (LO.mv (.r rfl)) rfl<|VO.h rfl<|HO.callx (xs := [_]) (vs := [_]) C128 ⟨(.r rfl), trivial⟩ (fun w hw => known_c (M.getD ra zRY).l (M.getD ra zRY).p (M.getD ra zRY).c w (by omega) ((hM.at (by omega)).keep w hw)) fun kn _ => VO.h rfl<|HO.lo (LO.as (.r rfl))<|VO.nil ?_)
    refine VE.seqN ?_
    refine VC.seq ?_
    refine VC.seq ?_
    have hkl : (knw (M.getD ra zRY).l (M.getD ra zRY).l.length).length ≤ G := by have := knw_len (l := (M.getD ra zRY).l) (n := (M.getD ra zRY).l.length); omega
    refine VC.reg (VO.l (LO.mv (.r rfl)) rfl<|VO.l (LO.len S112 (.r rfl) rfl) rfl<|VO.l (LO.mv (.r rfl)) rfl<|VO.nil ?_)
    refine VE.seqN ?_
    refine VC.block ?_
    refine VC.perm [1,2,3,4,5,0] rfl ?_
    refine VC.loopK (α := Nat × (List BY)) 6 (fun gx => [(32, .int .i64 (gx.1 : Nat))]) [(0,_), (1,_), (2,_), (7,_), (8,_), (9,_), (10,_), (11,_), (21,_), (22,_), (23,_), (30,_), (31,_)] (fun gx => [blk b2 (.cells #[.slice pt M2.length ct, .map (some b1)] 336), own 183 1 pt ct (M2.map rowC), bagD (M2.map rOwn), mapR plV bV b1 (asM gx.2), bagD (gx.2.map bOwn), own 3 1 kn.1 kn.2 ((knw (M.getD ra zRY).l (M.getD ra zRY).l.length).map natC)]) (fun gx => gx.1 ≤ (knw (M.getD ra zRY).l (M.getD ra zRY).l.length).length ∧ BOk Q (12 * ra + 4 * gx.1) gx.2) (fun gx => (knw (M.getD ra zRY).l (M.getD ra zRY).l.length).length - gx.1) (0, bs) (by exact ⟨Nat.zero_le _, hok⟩) (.cons rfl (.cons rfl (.cons rfl (.cons rfl (.cons rfl (.cons rfl (.cons rfl (.cons rfl (.cons rfl (.cons rfl (.cons rfl (.cons rfl (.cons rfl (.cons rfl .nil)))))))))))))) (fun _ h => h) ?_
    rintro ⟨k, bs2⟩ ⟨hk, hok2⟩
    show VC _ _ _ _ _ ([(32, .int .i64 (k : Nat))] ++ _) ([blk b2 (.cells #[.slice pt M2.length ct, .map (some b1)] 336), own 183 1 pt ct (M2.map rowC), bagD (M2.map rOwn), mapR plV bV b1 (asM bs2), bagD (bs2.map bOwn), own 3 1 kn.1 kn.2 ((knw (M.getD ra zRY).l (M.getD ra zRY).l.length).map natC)] ++ _) _ _
    dsimp only at hk hok2
    refine VC.seq ?_
    refine VC.reg (VO.l (LO.lt (.r rfl) (.r rfl)) rfl<|VO.nil ?_)
    refine VE.seqN ?_
    refine VC.seq ?_
    refine VC.cond rfl (fun h2 => ?_) (fun h2 => ?_)
    ·
      refine VC.skip (VE.seqN ?_)
      refine VC.seq ?_
      refine VC.block ?_
      refine VC.seq ?_
      refine VC.reg (VO.l (LO.mv (.r rfl)) rfl<|VO.l (LO.ixo S112 N3 (fun _ hw => (own_rows hw 5 rfl).some (by rw [List.length_map])) (.r rfl) (.r rfl) (j := k) rfl (by omega)) rfl<|VO.l (LO.ld O3 (.r rfl) (fun w hw => cells_part (off := 0) (own_cell hw 5 rfl (getD_some (d := 0) (i := k) (by first | omega | (have := of_decide_eq_true hg; omega)))) ⟨_, rfl⟩)) rfl<|VO.l (LO.as (.r rfl)) rfl<|VO.l (LO.as (.r rfl)) rfl<|VO.nil ?_)
      refine VE.seqN ?_
      refine VC.seq ?_
      refine VC.seq ?_
      have hkm : (knw (M.getD ra zRY).l (M.getD ra zRY).l.length).getD (k - 1) 0 < G := by have := knw_at (l := (M.getD ra zRY).l) (n := (M.getD ra zRY).l.length) (k := k - 1) (by omega); omega
      have hki : (knw (M.getD ra zRY).l (M.getD ra zRY).l.length).getD (k) 0 < G := by have := knw_at (l := (M.getD ra zRY).l) (n := (M.getD ra zRY).l.length) (k := k) (by omega); omega
      refine VC.reg (VO.l (LO.mv (.r rfl)) rfl<|VO.l (LO.gt (.r rfl) (.r rfl)) rfl<|VO.l (LO.mv (.r rfl)) rfl<|VO.lg rfl rfl (GD.t _) (fun hg => LO.mv (.r rfl)) rfl<|VO.lg rfl rfl (GD.t _) (fun hg => LO.mv (.r rfl)) rfl<|VO.lg rfl rfl (GD.t _) (fun hg => LO.mv (.r rfl)) rfl<|VO.lg rfl rfl (GD.t _) (fun hg => LO.sub (.g hg rfl) (.r rfl) (wi (by omega) (by omega))) rfl<|VO.lg rfl rfl (GD.t _) (fun hg => LO.ixo S112 N3 (fun _ hw => (own_rows hw 5 rfl).some (by rw [List.length_map])) (.g hg rfl) (.g hg rfl) (j := k - 1) (by first | omega | (have := of_decide_eq_true hg; omega)) (by first | omega | (have := of_decide_eq_true hg; omega))) rfl<|VO.lg rfl rfl (GD.t _) (fun hg => LO.ld O3 (.g hg rfl) (fun w hw => cells_part (off := 0) (own_cell hw 5 rfl (getD_some (d := 0) (i := k - 1) (by first | omega | (have := of_decide_eq_true hg; omega)))) ⟨_, rfl⟩)) rfl<|VO.lg rfl rfl (GD.t _) (fun hg => LO.sub (.g hg rfl) (.g hg rfl) (wi (by omega) (by omega))) rfl<|VO.lg rfl rfl (GD.t _) (fun hg => LO.mv (.r rfl)) rfl<|VO.lg rfl rfl (GD.t _) (fun hg => LO.le (.g hg rfl) (.g hg rfl)) rfl<|VO.l (LO.pkA (.r rfl) rfl rfl (.r rfl)) rfl<|VO.nil ?_)
      refine VE.seqN ?_
      refine VC.cond rfl (fun h49 => ?_) (fun h49 => ?_)
      ·
        have hks := knw_step (l := (M.getD ra zRY).l) (n := (M.getD ra zRY).l.length) (k := k) (by omega) (by omega)
        have hjm := jmp hj (x := (((knw (M.getD ra zRY).l (M.getD ra zRY).l.length).getD (k) 0 : Nat) : Int) - (((knw (M.getD ra zRY).l (M.getD ra zRY).l.length).getD (k - 1) 0 : Nat) : Int)) (by omega)
        refine VC.drawH [[0,1,2,3,4,5], [0,1,2,5]] [some 0, some 0, some 0, some 0, some 0, some 0, some 0, some 0, some 0, some 0, some 0, some 0, some 0, some 0, some 0, some 0, some 0, some 0, some 0, some 0, none] mixed (by kernel_rfl) rfl (LX.l (fun _ hJ => LO.mv (.r rfl)) rfl<|LX.l (fun _ hJ => LO.mv (.r rfl)) rfl<|LX.l (fun _ hJ => LO.mv (.r rfl)) rfl<|LX.l (fun _ hJ => LO.mv (.r rfl)) rfl<|LX.l (fun _ hJ => LO.sub (.r rfl) (.r rfl) (wi (by omega) (by omega))) rfl<|LX.l (fun _ hJ => LO.ixo S112 N3 (fun _ hw => (own_rows (hJ _ hw) 5 rfl).some (by rw [List.length_map])) (.r rfl) (.r rfl) (j := k - 1) (by omega) (by omega)) rfl<|LX.l (fun _ hJ => LO.ld O3 (.r rfl) (fun w hw => cells_part (off := 0) (own_cell (hJ _ hw) 5 rfl (getD_some (d := 0) (i := k - 1) (by first | omega | (have := of_decide_eq_true hg; omega)))) ⟨_, rfl⟩)) rfl<|LX.l (fun _ hJ => LO.bd (ps := [(_,_), (_,_)]) (vs := [(_,_), (_,_)]) (C := [_,_]) B330  ⟨(.r rfl), (.r rfl), trivial⟩ rfl ⟨_, [_], [_,_], rfl, rfl, rfl, rfl, ⟨_, [_], [_,_], rfl, rfl, rfl, rfl, rfl⟩⟩) rfl<|LX.l (fun _ hJ => LO.mv (.r rfl)) rfl<|LX.l (fun _ hJ => LO.mv (.r rfl)) rfl<|LX.l (fun _ hJ => LO.bd (ps := [(_,_), (_,_)]) (vs := [(_,_), (_,_)]) (C := [_,_]) B330  ⟨(.r rfl), (.r rfl), trivial⟩ rfl ⟨_, [_], [_,_], rfl, rfl, rfl, rfl, ⟨_, [_], [_,_], rfl, rfl, rfl, rfl, rfl⟩⟩) rfl<|LX.l (fun _ hJ => LO.mv (.r rfl)) rfl<|LX.l (fun _ hJ => LO.mv (.r rfl)) rfl<|LX.l (fun _ hJ => LO.mv (.r rfl)) rfl<|LX.l (fun _ hJ => LO.mv (.r rfl)) rfl<|LX.l (fun _ hJ => LO.sub (.r rfl) (.r rfl) (wi (by omega) (by omega))) rfl<|LX.l (fun _ hJ => LO.ixo S112 N3 (fun _ hw => (own_rows (hJ _ hw) 5 rfl).some (by rw [List.length_map])) (.r rfl) (.r rfl) (j := k - 1) (by omega) (by omega)) rfl<|LX.l (fun _ hJ => LO.ld O3 (.r rfl) (fun w hw => cells_part (off := 0) (own_cell (hJ _ hw) 5 rfl (getD_some (d := 0) (i := k - 1) (by first | omega | (have := of_decide_eq_true hg; omega)))) ⟨_, rfl⟩)) rfl<|LX.l (fun _ hJ => LO.sub (.r rfl) (.r rfl) (wi (by omega) (by omega))) rfl<|LX.l (fun _ hJ => LO.mul (.r rfl) (.r rfl) (wi (by omega) (by omega))) rfl<|LX.s<|LX.nil) (HX.s<|HX.s<|HX.s<|HX.s<|HX.s<|HX.s<|HX.s<|HX.s<|HX.s<|HX.s<|HX.s<|HX.s<|HX.s<|HX.s<|HX.s<|HX.s<|HX.s<|HX.s<|HX.s<|HX.s<|HX.h rfl<|HO.callP (first := []) (cap := []) (xs := [_,_,_,_]) (vs := [_,_,_,_]) [_,_] [_,_,_,_] (selK (L1 := [_,_] ++ [_,_,_,_]) [3,4,0,1,2,5] rfl rfl) (.r rfl) C197 ⟨(.r rfl), (.r rfl), (.r rfl), (.r rfl), trivial⟩ (fun w hw hh => link_c b2 b1 _ bs2 Q (12 * ra + 4 * k) (ra, (knw (M.getD ra zRY).l (M.getD ra zRY).l.length).getD (k - 1) 0) (ra, (knw (M.getD ra zRY).l (M.getD ra zRY).l.length).getD (k) 0) (jump * ((((knw (M.getD ra zRY).l (M.getD ra zRY).l.length).getD (k) 0 : Nat) : Int) - (((knw (M.getD ra zRY).l (M.getD ra zRY).l.length).getD (k - 1) 0 : Nat) : Int))) w hh (fun L w2 h2 => cells_at (St.rightOf (St.fz (selK (L1 := [_,_] ++ [_,_,_,_]) [3,4,0,1,2,5] rfl rfl w hw) h2)) 0 rfl ⟨_, rfl⟩) (by omega) hok2 (hQ _ _ _ (by omega) (by omega) (knw_ne (by omega)) hjm.1 hjm.2) (hQ _ _ _ (by omega) (by omega) (knw_ne (by omega)) hjm.1 hjm.2)) fun bsA hokbsA => ⟨fun _ hw => hw.sel [2,3,4,5] rfl, HX.nil ?_⟩)
        refine VE.seqN ?_
        refine VC.seq ?_
        refine VC.reg (VO.l (LO.as (.r rfl)) rfl<|VO.nil ?_)
        refine VE.seqN ?_
        refine VC.block ?_
        refine VC.loopK (α := Nat) 0 (fun gx => [(14, .int .i64 (gx : Nat))]) [(0,_), (1,_), (2,_), (7,_), (8,_), (9,_), (10,_), (11,_), (13,_), (21,_), (22,_), (23,_), (30,_), (31,_), (32,_)] (fun gx => []) (fun gx => 1 ≤ gx ∧ gx ≤ 4) (fun gx => 5 - gx) 1 (by decide) (.cons rfl (.cons rfl (.cons rfl (.cons rfl (.cons rfl (.cons rfl (.cons rfl (.cons rfl (.cons rfl (.cons rfl (.cons rfl (.cons rfl (.cons rfl (.cons rfl (.cons rfl (.cons rfl .nil)))))))))))))))) (fun _ h => h) ?_
        rintro d hd
        refine VC.seq ?_
        refine VC.seq ?_
        refine VC.reg (VO.l (LO.mv (.r rfl)) rfl<|VO.l (LO.mv (.r rfl)) rfl<|VO.l (LO.mv (.r rfl)) rfl<|VO.l (LO.sub (.r rfl) (.r rfl) (wi (by omega) (by omega))) rfl<|VO.l (LO.min (.r rfl) (.r rfl)) rfl<|VO.l (LO.le (.r rfl) (.r rfl)) rfl<|VO.nil ?_)
        refine VE.seqN ?_
        refine VC.cond rfl (fun h76 => ?_) (fun h76 => ?_)
        ·
          refine VC.skip (VE.seqN ?_)
          refine VC.seq ?_
          refine VC.block ?_
          refine VC.seq ?_
          refine VC.reg (VO.l (LO.mv (.r rfl)) rfl<|VO.l (LO.mv (.r rfl)) rfl<|VO.l (LO.add (.r rfl) (.r rfl) (wi (by omega) (by omega))) rfl<|VO.l (LO.mv (.r rfl)) rfl<|VO.l (LO.rem (.r rfl) (.r rfl) (by omega)) rfl<|VO.l (LO.as (.r rfl)) rfl<|VO.nil ?_)
          obtain ⟨bj, hbe, hbj⟩ : ∃ bj, bj = (ra + d) % M.length ∧ bj < M.length := ⟨_, rfl, Nat.mod_lt _ (by omega)⟩
          rw [mod_nat, ← hbe]
          have hbG := hG _ (getD_mem (d := zRY) hbj)
          refine VE.seqN ?_
          refine VC.seq ?_
          refine VC.reg (VO.l (LO.mv (.r rfl)) rfl<|VO.l (LO.mv (.r rfl)) rfl<|VO.l (LO.ixs S181 N183 hM.t.sm (.r rfl) (.r rfl) rfl (by omega)) rfl<|VO.l (LO.ld O183 (.r rfl) (fun w hw => cells_part (off := 0) ((hM.t.at zRY (j := bj) (by omega)) w hw) ⟨_, rfl⟩)) rfl<|VO.l (LO.mv (.r rfl)) rfl<|VO.l (LO.ixs S183 N187 (hM.at hbj).sm (.r rfl) (.r rfl) rfl (by omega)) rfl<|VO.l (LO.ld O187 (.r rfl) (fun w hw => cells_part (off := 0) (((hM.at hbj).at zSY (j := (knw (M.getD ra zRY).l (M.getD ra zRY).l.length).getD (k) 0) (by omega)) w hw) ⟨_, rfl⟩)) rfl<|VO.l (LO.len S187 (.r rfl) rfl) rfl<|VO.l (LO.gt (.r rfl) (.r rfl)) rfl<|VO.nil ?_)
          refine VE.seqN ?_
          refine VC.cond rfl (fun h92 => ?_) (fun h92 => ?_)
          ·
            refine VC.seq ?_
            have hjm := jmp hj (x := ((d : Nat) : Int)) (by omega)
            refine VC.reg (VO.l (LO.mv (.r rfl)) rfl<|VO.l (LO.mv (.r rfl)) rfl<|VO.l (LO.mv (.r rfl)) rfl<|VO.l (LO.bd (ps := [(_,_), (_,_)]) (vs := [(_,_), (_,_)]) (C := [_,_]) B330  ⟨(.r rfl), (.r rfl), trivial⟩ rfl ⟨_, [_], [_,_], rfl, rfl, rfl, rfl, ⟨_, [_], [_,_], rfl, rfl, rfl, rfl, rfl⟩⟩) rfl<|VO.l (LO.mv (.r rfl)) rfl<|VO.l (LO.mv (.r rfl)) rfl<|VO.l (LO.bd (ps := [(_,_), (_,_)]) (vs := [(_,_), (_,_)]) (C := [_,_]) B330  ⟨(.r rfl), (.r rfl), trivial⟩ rfl ⟨_, [_], [_,_], rfl, rfl, rfl, rfl, ⟨_, [_], [_,_], rfl, rfl, rfl, rfl, rfl⟩⟩) rfl<|VO.l (LO.mv (.r rfl)) rfl<|VO.l (LO.mv (.r rfl)) rfl<|VO.l (LO.mul (.r rfl) (.r rfl) (wi (by omega) (by omega))) rfl<|VO.h rfl<|HO.callP (first := []) (cap := []) (xs := [_,_,_,_]) (vs := [_,_,_,_]) [_,_] [_,_,_,_] (selK (L1 := [_,_] ++ [_,_,_,_]) [0,1,2,3,4,5] rfl rfl) (.r rfl) C197 ⟨(.r rfl), (.r rfl), (.r rfl), (.r rfl), trivial⟩ (fun w hw hh => link_c b2 b1 _ bsA Q (12 * ra + 4 * k + 2) (ra, (knw (M.getD ra zRY).l (M.getD ra zRY).l.length).getD (k) 0) (bj, (knw (M.getD ra zRY).l (M.getD ra zRY).l.length).getD (k) 0) (jump * ((d : Nat) : Int)) w hh (fun L w2 h2 => cells_at (St.rightOf (St.fz (selK (L1 := [_,_] ++ [_,_,_,_]) [0,1,2,3,4,5] rfl rfl w hw) h2)) 0 rfl ⟨_, rfl⟩) (by omega) hokbsA (hQ _ _ _ (by omega) (by omega) (by unfold setAt; omega) hjm.1 hjm.2) (hQ _ _ _ (by omega) (by omega) (knw_ne (by omega)) hjm.1 hjm.2)) fun bsB hokbsB => VO.nil ?_)
            refine VE.seqN ?_
            refine VC.exit (VE.outX rfl (VE.thenX (VE.thenX (VE.inX (VE.inN (VE.seqN ?_))))))
            refine VC.reg (VO.l (LO.add (.r rfl) (.r rfl) (wi (by omega) (by omega))) rfl<|VO.l (LO.mv (.r rfl)) rfl<|VO.nil ?_)
            refine VE.thenN fun a w ha hw => ⟨(k + 1, bsB), ⟨by dsimp only; omega, bok_mono hokbsB (by dsimp only; omega)⟩, (by dsimp only; omega), ha.sub (.cons rfl (.cons rfl (.cons rfl (.cons rfl (.cons rfl (.cons rfl (.cons rfl (.cons rfl (.cons rfl (.cons rfl (.cons rfl (.cons rfl (.cons rfl (.cons rfl .nil)))))))))))))), hw.sel [2,3,4,0,1,5] rfl⟩
          ·
            refine VC.skip (VE.inN (VE.seqN ?_))
            refine VC.reg (VO.l (LO.mv (.r rfl)) rfl<|VO.l (LO.add (.r rfl) (.r rfl) (wi (by omega) (by omega))) rfl<|VO.l (LO.as (.r rfl)) rfl<|VO.nil ?_)
            refine VE.thenN fun a w ha hw => ⟨d + 1, (by omega), (by omega), ha.sub (.cons rfl (.cons rfl (.cons rfl (.cons rfl (.cons rfl (.cons rfl (.cons rfl (.cons rfl (.cons rfl (.cons rfl (.cons rfl (.cons rfl (.cons rfl (.cons rfl (.cons rfl (.cons rfl .nil)))))))))))))))), hw⟩
        ·
          refine VC.exit (VE.thenX (VE.thenX (VE.inX (VE.inN (VE.seqN ?_)))))
          refine VC.reg (VO.l (LO.add (.r rfl) (.r rfl) (wi (by omega) (by omega))) rfl<|VO.l (LO.mv (.r rfl)) rfl<|VO.nil ?_)
          refine VE.thenN fun a w ha hw => ⟨(k + 1, bsA), ⟨by dsimp only; omega, bok_mono hokbsA (by dsimp only; omega)⟩, (by dsimp only; omega), ha.sub (.cons rfl (.cons rfl (.cons rfl (.cons rfl (.cons rfl (.cons rfl (.cons rfl (.cons rfl (.cons rfl (.cons rfl (.cons rfl (.cons rfl (.cons rfl (.cons rfl .nil)))))))))))))), hw.sel [2,3,4,0,1,5] rfl⟩
      ·
        refine VC.skip (VE.seqN ?_)
        refine VC.seq ?_
        refine VC.reg (VO.l (LO.as (.r rfl)) rfl<|VO.nil ?_)
        refine VE.seqN ?_
        refine VC.block ?_
        refine VC.loopK (α := Nat) 0 (fun gx => [(14, .int .i64 (gx : Nat))]) [(0,_), (1,_), (2,_), (7,_), (8,_), (9,_), (10,_), (11,_), (13,_), (21,_), (22,_), (23,_), (30,_), (31,_), (32,_)] (fun gx => []) (fun gx => 1 ≤ gx ∧ gx ≤ 4) (fun gx => 5 - gx) 1 (by decide) (.cons rfl (.cons rfl (.cons rfl (.cons rfl (.cons rfl (.cons rfl (.cons rfl (.cons rfl (.cons rfl (.cons rfl (.cons rfl (.cons rfl (.cons rfl (.cons rfl (.cons rfl (.cons rfl .nil)))))))))))))))) (fun _ h => h) ?_
        rintro d hd
        refine VC.seq ?_
        refine VC.seq ?_
        refine VC.reg (VO.l (LO.mv (.r rfl)) rfl<|VO.l (LO.mv (.r rfl)) rfl<|VO.l (LO.mv (.r rfl)) rfl<|VO.l (LO.sub (.r rfl) (.r rfl) (wi (by omega) (by omega))) rfl<|VO.l (LO.min (.r rfl) (.r rfl)) rfl<|VO.l (LO.le (.r rfl) (.r rfl)) rfl<|VO.nil ?_)
        refine VE.seqN ?_
        refine VC.cond rfl (fun h76 => ?_) (fun h76 => ?_)
        ·
          refine VC.skip (VE.seqN ?_)
          refine VC.seq ?_
          refine VC.block ?_
          refine VC.seq ?_
          refine VC.reg (VO.l (LO.mv (.r rfl)) rfl<|VO.l (LO.mv (.r rfl)) rfl<|VO.l (LO.add (.r rfl) (.r rfl) (wi (by omega) (by omega))) rfl<|VO.l (LO.mv (.r rfl)) rfl<|VO.l (LO.rem (.r rfl) (.r rfl) (by omega)) rfl<|VO.l (LO.as (.r rfl)) rfl<|VO.nil ?_)
          obtain ⟨bj, hbe, hbj⟩ : ∃ bj, bj = (ra + d) % M.length ∧ bj < M.length := ⟨_, rfl, Nat.mod_lt _ (by omega)⟩
          rw [mod_nat, ← hbe]
          have hbG := hG _ (getD_mem (d := zRY) hbj)
          refine VE.seqN ?_
          refine VC.seq ?_
          refine VC.reg (VO.l (LO.mv (.r rfl)) rfl<|VO.l (LO.mv (.r rfl)) rfl<|VO.l (LO.ixs S181 N183 hM.t.sm (.r rfl) (.r rfl) rfl (by omega)) rfl<|VO.l (LO.ld O183 (.r rfl) (fun w hw => cells_part (off := 0) ((hM.t.at zRY (j := bj) (by omega)) w hw) ⟨_, rfl⟩)) rfl<|VO.l (LO.mv (.r rfl)) rfl<|VO.l (LO.ixs S183 N187 (hM.at hbj).sm (.r rfl) (.r rfl) rfl (by omega)) rfl<|VO.l (LO.ld O187 (.r rfl) (fun w hw => cells_part (off := 0) (((hM.at hbj).at zSY (j := (knw (M.getD ra zRY).l (M.getD ra zRY).l.length).getD (k) 0) (by omega)) w hw) ⟨_, rfl⟩)) rfl<|VO.l (LO.len S187 (.r rfl) rfl) rfl<|VO.l (LO.gt (.r rfl) (.r rfl)) rfl<|VO.nil ?_)
          refine VE.seqN ?_
          refine VC.cond rfl (fun h92 => ?_) (fun h92 => ?_)
          ·
            refine VC.seq ?_
            have hjm := jmp hj (x := ((d : Nat) : Int)) (by omega)
            refine VC.reg (VO.l (LO.mv (.r rfl)) rfl<|VO.l (LO.mv (.r rfl)) rfl<|VO.l (LO.mv (.r rfl)) rfl<|VO.l (LO.bd (ps := [(_,_), (_,_)]) (vs := [(_,_), (_,_)]) (C := [_,_]) B330  ⟨(.r rfl), (.r rfl), trivial⟩ rfl ⟨_, [_], [_,_], rfl, rfl, rfl, rfl, ⟨_, [_], [_,_], rfl, rfl, rfl, rfl, rfl⟩⟩) rfl<|VO.l (LO.mv (.r rfl)) rfl<|VO.l (LO.mv (.r rfl)) rfl<|VO.l (LO.bd (ps := [(_,_), (_,_)]) (vs := [(_,_), (_,_)]) (C := [_,_]) B330  ⟨(.r rfl), (.r rfl), trivial⟩ rfl ⟨_, [_], [_,_], rfl, rfl, rfl, rfl, ⟨_, [_], [_,_], rfl, rfl, rfl, rfl, rfl⟩⟩) rfl<|VO.l (LO.mv (.r rfl)) rfl<|VO.l (LO.mv (.r rfl)) rfl<|VO.l (LO.mul (.r rfl) (.r rfl) (wi (by omega) (by omega))) rfl<|VO.h rfl<|HO.callP (first := []) (cap := []) (xs := [_,_,_,_]) (vs := [_,_,_,_]) [_,_] [_,_,_,_] (selK (L1 := [_,_] ++ [_,_,_,_]) [3,4,0,1,2,5] rfl rfl) (.r rfl) C197 ⟨(.r rfl), (.r rfl), (.r rfl), (.r rfl), trivial⟩ (fun w hw hh => link_c b2 b1 _ bs2 Q (12 * ra + 4 * k) (ra, (knw (M.getD ra zRY).l (M.getD ra zRY).l.length).getD (k) 0) (bj, (knw (M.getD ra zRY).l (M.getD ra zRY).l.length).getD (k) 0) (jump * ((d : Nat) : Int)) w hh (fun L w2 h2 => cells_at (St.rightOf (St.fz (selK (L1 := [_,_] ++ [_,_,_,_]) [3,4,0,1,2,5] rfl rfl w hw) h2)) 0 rfl ⟨_, rfl⟩) (by omega) hok2 (hQ _ _ _ (by omega) (by omega) (by unfold setAt; omega) hjm.1 hjm.2) (hQ _ _ _ (by omega) (by omega) (knw_ne (by omega)) hjm.1 hjm.2)) fun bsB hokbsB => VO.nil ?_)
            refine VE.seqN ?_
            refine VC.exit (VE.outX rfl (VE.thenX (VE.thenX (VE.inX (VE.inN (VE.seqN ?_))))))
            refine VC.reg (VO.l (LO.add (.r rfl) (.r rfl) (wi (by omega) (by omega))) rfl<|VO.l (LO.mv (.r rfl)) rfl<|VO.nil ?_)
            refine VE.thenN fun a w ha hw => ⟨(k + 1, bsB), ⟨by dsimp only; omega, bok_mono hokbsB (by dsimp only; omega)⟩, (by dsimp only; omega), ha.sub (.cons rfl (.cons rfl (.cons rfl (.cons rfl (.cons rfl (.cons rfl (.cons rfl (.cons rfl (.cons rfl (.cons rfl (.cons rfl (.cons rfl (.cons rfl (.cons rfl .nil)))))))))))))), hw.sel [2,3,4,0,1,5] rfl⟩
          ·
            refine VC.skip (VE.inN (VE.seqN ?_))
            refine VC.reg (VO.l (LO.mv (.r rfl)) rfl<|VO.l (LO.add (.r rfl) (.r rfl) (wi (by omega) (by omega))) rfl<|VO.l (LO.as (.r rfl)) rfl<|VO.nil ?_)
            refine VE.thenN fun a w ha hw => ⟨d + 1, (by omega), (by omega), ha.sub (.cons rfl (.cons rfl (.cons rfl (.cons rfl (.cons rfl (.cons rfl (.cons rfl (.cons rfl (.cons rfl (.cons rfl (.cons rfl (.cons rfl (.cons rfl (.cons rfl (.cons rfl (.cons rfl .nil)))))))))))))))), hw⟩
        ·
          refine VC.exit (VE.thenX (VE.thenX (VE.inX (VE.inN (VE.seqN ?_)))))
          refine VC.reg (VO.l (LO.add (.r rfl) (.r rfl) (wi (by omega) (by omega))) rfl<|VO.l (LO.mv (.r rfl)) rfl<|VO.nil ?_)
          refine VE.thenN fun a w ha hw => ⟨(k + 1, bs2), ⟨by dsimp only; omega, bok_mono hok2 (by dsimp only; omega)⟩, (by dsimp only; omega), ha.sub (.cons rfl (.cons rfl (.cons rfl (.cons rfl (.cons rfl (.cons rfl (.cons rfl (.cons rfl (.cons rfl (.cons rfl (.cons rfl (.cons rfl (.cons rfl (.cons rfl .nil)))))))))))))), hw⟩
    ·
      refine VC.exit (VE.thenX (VE.thenX (VE.inX (VE.seqN ?_))))
      refine VC.drawH [[0,1,2,3,4,5], [0,1,2,3,4,5], [0,1,2,3,4,5], [0,2,3,4,5], [2,3,4,5]] [some 3, some 2, some 2, some 2, some 2, some 0, none, none, none, some 3, some 3, none] mixed (by kernel_rfl) rfl (LX.l (fun _ hJ => LO.mv (.r rfl)) rfl<|LX.l (fun _ hJ => LO.mv (.r rfl)) rfl<|LX.l (fun _ hJ => LO.nc (.r rfl)) rfl<|LX.l (fun _ hJ => LO.fa (r := 0) F336_0 (.r rfl) rfl) rfl<|LX.l (fun _ hJ => LO.ld O181 (.r rfl) (fun _ hw => cells_at (hJ _ hw) 0 rfl ⟨_, rfl⟩)) rfl<|LX.l (fun _ hJ => LO.mv (.r rfl)) rfl<|LX.s<|LX.s<|LX.s<|LX.l (fun _ hJ => LO.nc (.r rfl)) rfl<|LX.l (fun _ hJ => LO.fa (r := 0) F336_0 (.r rfl) rfl) rfl<|LX.s<|LX.nil) (HX.s<|HX.s<|HX.s<|HX.s<|HX.s<|HX.s<|HX.h rfl<|HO.callx (xs := [_]) (vs := [_]) C198 ⟨(.r rfl), trivial⟩ (fun w hw => CloneR_c (M.getD ra zRY).l (M.getD ra zRY).p (M.getD ra zRY).c w (by omega) ((hM.at (i := ra) (by omega)).keep w hw)) fun cr _ => ⟨fun _ hw => hw.sel [1,2,3,4,5,6] rfl, HX.h rfl<|HO.bs (ps := [(_,_)]) (vs := [(_,_)]) (Z := [_]) (C := [_]) S181 Z183 N183 ⟨(.r rfl), trivial⟩ rfl rfl rfl rfl ⟨_, [_], [_], rfl, rfl, rfl, rfl, rfl⟩ fun b20 => ⟨fun _ hw => hw.sel [2,3,4,5,6,7] rfl, HX.h rfl<|HO.appT ((⟨(M.getD ra zRY).l, cr.1, cr.2⟩ : RowY)) 3 0 (fun R => [_,_,_, R,_,_,_,_]) S181 S181 I183 (.r rfl) (.r rfl) rfl rfl rfl rfl rfl rfl rfl (fun _ => rfl) rfl (by omega) fun p8 c8 => ⟨fun _ hw => hw.sel [2,4,5,6,7] rfl, HX.s<|HX.s<|HX.h0<|HO.st 2 (vs := [_]) (C' := [_,_]) (L' := [_,_,_,_,_,_,_,_]) N181 rfl rfl rfl rfl rfl rfl rfl rfl<|⟨fun _ hw => hw.sel [4,5,6,7] rfl, HX.nil ?_⟩⟩⟩⟩)
      refine VE.inN (VE.seqN ?_)
      refine VC.reg (VO.l (LO.add (.r rfl) (.r rfl) (wi (by omega) (by omega))) rfl<|VO.l (LO.mv (.r rfl)) rfl<|VO.nil ?_)
      refine VE.thenN fun a w ha hw => ⟨(ra + 1, M2 ++ [(⟨(M.getD ra zRY).l, cr.1, cr.2⟩ : RowY)], p8, c8, bs2), ⟨⟨by dsimp only; omega, by dsimp only; rw [List.length_append, hra.2]; rfl⟩, bok_mono hok2 (by dsimp only; omega), by dsimp only; rw [List.map_append, hM2, mapRow_1 (by omega)]; rfl⟩, (by dsimp only; omega), ha.sub (.cons rfl (.cons rfl (.cons rfl (.cons rfl (.cons rfl (.cons rfl (.cons rfl (.cons rfl .nil)))))))), ((St.bagSnocR (r := (⟨(M.getD ra zRY).l, cr.1, cr.2⟩ : RowY)) (A := M2) (hw.sel [1,4,2,3,5,6] rfl)).sel [1,2,0,3,4] rfl)⟩
  ·
    refine VC.exit (VE.thenX (VE.thenX (VE.inX (VE.seqN ?_))))
    refine VC.seq ?_
    refine VC.reg (VO.l (LO.mv (.r rfl)) rfl<|VO.l (LO.as (.r rfl)) rfl<|VO.nil ?_)
    refine VE.seqN ?_
    refine VC.ret (VE.res (vs := [_]) rfl ⟨rfl, trivial⟩ (fun w hw => ?_))
    have e : ra = M.length := by omega
    subst e
    exact ⟨((b2, b1, pt, ct), M2, bs), ⟨hok, by rw [hM2, List.take_of_length_le (by rw [List.length_map]; exact Nat.le_refl _)]⟩, rfl, hw.sel [0,1,2,3,4] rfl⟩

end Go.Proofs.YtffbohecdocajaaGreat

namespace Go.Proofs.YtffbohecdocajaaGreat
open Go.SL Go.Proofs Go.Pulse
set_option linter.unusedVariables false

theorem O327 : IsOne Tryz.prog 327 := ⟨⟨_, Tryz.underlying327, rfl⟩, by kernel_rfl⟩
theorem O328 : IsOne Tryz.prog 328 := ⟨⟨_, Tryz.underlying328, rfl⟩, by kernel_rfl⟩
theorem S328 : IsSlice Tryz.prog 328 330 := Tryz.underlying328
theorem Z330 : ZeroOf Tryz.prog 330 (.agg #[.int .i64 0, .int .i64 0]) := by unfold ZeroOf; kernel_rfl
theorem N330 : (Tryz.prog.info? 330).map (·.size) = some 2 := by kernel_rfl
theorem I330 : EInfo Tryz.prog 330 2 16 (.agg #[.int .i64 0, .int .i64 0]) := ⟨by kernel_rfl, by kernel_rfl, by unfold ZeroOf; kernel_rfl, rfl, by decide⟩
theorem N328 : (Tryz.prog.info? 328).map (·.size) = some 1 := by kernel_rfl


abbrev plC (x : Int × Int) : List Value := [.int .i64 x.1, .int .i64 x.2]
theorem map327 : IsMapG Tryz.prog 327 plV Value.bool false := ⟨_,_, Tryz.underlying327, key330, by unfold ZeroOf; kernel_rfl⟩

set_option maxRecDepth 20000 in
theorem wait_c (bw bm bt : Nat) (M : Int × Int → Option Bool) (td : List (Int × Int)) (tp : Option Addr) (tc : Nat) (x : Int × Int) (w : World) (hh : Has w [mapR plV Value.bool bm M, blk bt (.cells #[.slice tp td.length tc] 328), ownO 330 2 tp tc (td.map plC)]) (hW : ∀ L w2, St ⟨w, fpL [mapR plV Value.bool bm M, blk bt (.cells #[.slice tp td.length tc] 328), ownO 330 2 tp tc (td.map plC)]⟩ L w2 → Cells w2 ⟨bw, 0, none⟩ [.map (some bm)]) (hn : td.length < 1000000000) :
  Calls Tryz.prog 127 #[plV x, .pointer (some ⟨bw, 0, none⟩), .pointer (some ⟨bt, 0, none⟩)] w fun e w' => ∃ y : (Int × Int → Option Bool) × List (Int × Int) × Option Addr × Nat, (y.2.1 = td ∨ y.2.1 = td ++ [x]) ∧ e = .returned (.tuple #[]) ∧ St ⟨w, fpL [mapR plV Value.bool bm M, blk bt (.cells #[.slice tp td.length tc] 328), ownO 330 2 tp tc (td.map plC)]⟩ [mapR plV Value.bool bm y.1, blk bt (.cells #[.slice y.2.2.1 y.2.1.length y.2.2.2] 328), ownO 330 2 y.2.2.1 y.2.2.2 (y.2.1.map plC)] w' := by
  refine enterO (vs := [_,_,_]) (env := [(0,_), (1,_), (2,_)]) hh.enter Tryz.func127 rfl rfl rfl rfl ?_
  refine VC.seq ?_
  refine VC.reg (VO.h rfl<|HO.box (C := #[_,_]) rfl rfl fun b4 => VO.nil ?_)
  refine VE.seqN ?_
  refine VC.seq ?_
  refine VC.reg (VO.l (LO.ld O327 (.r rfl) (fun _ hw => sub_cells (off := 0) (hW _ _ hw) ⟨_, rfl⟩)) rfl<|VO.l (LO.lda (vs := [_,_]) A330 (.r rfl) (fun _ hw => cells_at hw 0 rfl ⟨_, rfl⟩) rfl) rfl<|VO.l (LO.lkG1 map327 (.r rfl) (.r rfl) (fun _ hw => St.inv hw 1 _ rfl)) rfl<|VO.l (LO.not (.r rfl)) rfl<|VO.nil ?_)
  refine VE.seqN ?_
  refine VC.cond rfl (fun h7 => ?_) (fun h7 => ?_)
  ·
    refine VC.seq ?_
    refine VC.reg (VO.l (LO.ld O327 (.r rfl) (fun _ hw => sub_cells (off := 0) (hW _ _ hw) ⟨_, rfl⟩)) rfl<|VO.l (LO.lda (vs := [_,_]) A330 (.r rfl) (fun _ hw => cells_at hw 0 rfl ⟨_, rfl⟩) rfl) rfl<|VO.h0<|HO.mupG 1 (fun R => [_, R,_,_]) x true map327 (.r rfl) (.r rfl) (.r rfl) rfl (fun _ => rfl)<|VO.nil ?_)
    refine VE.seqN ?_
    refine VC.reg (VO.l (LO.ld O328 (.r rfl) (fun _ hw => cells_at hw 2 rfl ⟨_, rfl⟩)) rfl<|VO.l (LO.lda (vs := [_,_]) A330 (.r rfl) (fun _ hw => cells_at hw 0 rfl ⟨_, rfl⟩) rfl) rfl<|VO.h rfl<|HO.bs (ps := [(_,_)]) (vs := [(_,_)]) (Z := [_,_]) (C := [_,_]) S328 Z330 N330 ⟨(.r rfl), trivial⟩ rfl rfl rfl rfl ⟨_, [_,_], [_,_], rfl, rfl, rfl, rfl, rfl⟩ fun b5 => VO.h rfl<|HO.appO (f := plC) (l := td) (m := [x]) 4 (fun R => [_,_,_,_, R]) S328 S328 I330 (.r rfl) (.r rfl) rfl (fun w hw => RO.ofC (fun _ => rfl) (cells_at hw 0 rfl ⟨_, rfl⟩)) (fun _ => rfl) (fun _ => rfl) rfl rfl (fun _ => rfl) rfl rfl (by first | omega | (simp; omega)) fun p3 c3 _ => VO.h0<|HO.st 3 (vs := [_]) (C' := [_]) (L' := [_,_,_,_,_]) N328 rfl rfl rfl rfl rfl rfl rfl rfl<|VO.nil ?_)
    refine VE.resN (vs := []) rfl trivial (fun w hw => ?_)
    first | exact ⟨(_,_,_,_), .inl rfl, rfl, hw.sel [2,3,4] rfl⟩ | (rw [show td.length + 1 = (td ++ [x]).length by rw [List.length_append]; rfl] at hw; exact ⟨(_, td ++ [x], p3, c3), .inr rfl, rfl, hw.sel [2,3,4] rfl⟩)
  ·
    refine VC.skip (VE.resN (vs := []) rfl trivial (fun w hw => ?_))
    first | exact ⟨(_,_,_,_), .inl rfl, rfl, hw.sel [1,2,3] rfl⟩ | (rw [show td.length + 1 = (td ++ [x]).length by rw [List.length_append]; rfl] at hw; exact ⟨(_, td ++ [x], p3, c3), .inr rfl, rfl, hw.sel [1,2,3] rfl⟩)

end Go.Proofs.YtffbohecdocajaaGreat

namespace Go.Proofs.YtffbohecdocajaaGreat
open Go.SL Go.Proofs Go.Pulse
set_option linter.unusedVariables false
/-- A set that is left of another one, which has a number if the other one has. -/
structure GoodS (s0 s : List Span) (v : Int) : Prop where
  c : CanS s
  sub : ∀ z, memH s z → memH s0 z
  tr : memH s0 (2 * v) → memH s (2 * v)
theorem GoodS.refl {s : List Span} {v : Int} (h : CanS s) : GoodS s s v := ⟨h, fun _ h => h, fun h => h⟩
/-- One step of settling keeps it. -/
theorem GoodS.near {s0 s t0 t u : List Span} {v x d j : Int} (h : GoodS s0 s v) (k : GoodS t0 t x) (hn : NeP s t u d) (hd : j ≤ d) (h1 : -j ≤ v - x) (h2 : v - x ≤ j) (ht : memH t0 (2 * x)) : GoodS s0 u v :=
  ⟨hn.c, fun z hz => h.sub z (hn.sub z hz), fun hz => hn.sup v x (h.tr hz) (k.tr ht) (by omega) (by omega)⟩
structure GoodM (v : Nat → Nat → Int) (G : Nat) (M0 M : List RowY) : Prop where
  len : M.length = M0.length
  row : ∀ a, a < M.length → (M.getD a zRY).l.length = G
  g : ∀ a i, a < M.length → i < G → GoodS (setAt M0 a i).l (setAt M a i).l (v a i)
def putS (M : List RowY) (a i : Nat) (s : SpY) : List RowY := M.set a ⟨(M.getD a zRY).l.set i s, (M.getD a zRY).p, (M.getD a zRY).c⟩
theorem getD_setR {α : Type} {l : List α} {i j : Nat} {x d : α} : (l.set i x).getD j d = if i = j ∧ j < l.length then x else l.getD j d := by
  rw [List.getD_eq_getElem?_getD, List.getElem?_set, List.getD_eq_getElem?_getD]
  by_cases h : i = j
  · subst h
    by_cases k : i < l.length
    · rw [if_pos rfl, if_pos k, if_pos ⟨rfl, k⟩]; rfl
    · rw [if_pos rfl, if_neg k, if_neg (fun q => k q.2), List.getElem?_eq_none (by omega)]
  · rw [if_neg h, if_neg (fun q => h q.1)]
theorem putS_row {M : List RowY} {a i b : Nat} {s : SpY} (ha : a < M.length) : ((putS M a i s).getD b zRY).l = if a = b then (M.getD a zRY).l.set i s else (M.getD b zRY).l := by
  unfold putS
  rw [getD_setR]
  by_cases h : a = b
  · subst h; rw [if_pos ⟨rfl, ha⟩, if_pos rfl]
  · rw [if_neg (fun q => h q.1), if_neg h]
theorem putS_at {M : List RowY} {a i b k : Nat} {s : SpY} (ha : a < M.length) (hi : i < (M.getD a zRY).l.length) : setAt (putS M a i s) b k = if a = b ∧ i = k then s else setAt M b k := by
  unfold setAt
  rw [putS_row ha]
  by_cases h : a = b
  · subst h
    rw [if_pos rfl, getD_setR]
    by_cases q : i = k
    · subst q; rw [if_pos ⟨rfl, hi⟩, if_pos ⟨rfl, rfl⟩]
    · rw [if_neg (fun z => q z.1), if_neg (fun z => q z.2)]
  · rw [if_neg h, if_neg (fun z => h z.1)]
theorem GoodM.put {v : Nat → Nat → Int} {G : Nat} {M0 M : List RowY} (h : GoodM v G M0 M) {a i : Nat} {s : SpY} (ha : a < M.length) (hi : i < G) (hs : GoodS (setAt M0 a i).l s.l (v a i)) : GoodM v G M0 (putS M a i s) := by
  have hr := h.row a ha
  refine ⟨by unfold putS; rw [List.length_set]; exact h.len, fun b hb => ?_, fun b k hb hk => ?_⟩
  · have hb' : b < M.length := by unfold putS at hb; rwa [List.length_set] at hb
    rw [putS_row ha]
    split
    · rw [List.length_set]; exact hr
    · exact h.row b hb'
  · have hb' : b < M.length := by unfold putS at hb; rwa [List.length_set] at hb
    rw [putS_at ha (by omega)]
    split
    · rename_i q
      obtain ⟨rfl, rfl⟩ := q
      exact hs
    · exact h.g b k hb' hk
/-! ### How much is left -/
def muF (f : SpY → Nat) (r : RowY) : Nat := (r.l.map f).sum
def muG (f : SpY → Nat) (M : List RowY) : Nat := (M.map (muF f)).sum
def cntY (s : SpY) : Nat := cnt s.l
def muM (M : List RowY) : Nat := muG cntY M
theorem sum_set {α : Type} (f : α → Nat) : ∀ (l : List α) (i : Nat) (x : α) (hi : i < l.length), ((l.set i x).map f).sum + f l[i] = (l.map f).sum + f x
  | y :: l, 0, x,_ => by simp only [List.set_cons_zero, List.map_cons, List.sum_cons, List.getElem_cons_zero]; omega
  | y :: l, i + 1, x, h => by
    have := sum_set f l i x (by simpa using h)
    simp only [List.set_cons_succ, List.map_cons, List.sum_cons, List.getElem_cons_succ]; omega
theorem muG_put (f : SpY → Nat) {M : List RowY} {a i : Nat} {s : SpY} (ha : a < M.length) (hi : i < (M.getD a zRY).l.length) (h : f s < f (setAt M a i)) : muG f (putS M a i s) < muG f M := by
  have ea : M.getD a zRY = M[a] := by rw [List.getD_eq_getElem?_getD, List.getElem?_eq_getElem ha]; rfl
  unfold muG putS
  have h1 := sum_set (muF f) M a ⟨(M.getD a zRY).l.set i s, (M.getD a zRY).p, (M.getD a zRY).c⟩ ha
  have h2 := sum_set f (M.getD a zRY).l i s hi
  have e2 : muF f ⟨(M.getD a zRY).l.set i s, (M.getD a zRY).p, (M.getD a zRY).c⟩ = (((M.getD a zRY).l.set i s).map f).sum := rfl
  have e3 : muF f M[a] = ((M.getD a zRY).l.map f).sum := by rw [ea]; rfl
  have e4 : setAt M a i = (M.getD a zRY).l[i] := by unfold setAt; rw [List.getD_eq_getElem?_getD, List.getElem?_eq_getElem hi]; rfl
  rw [e4] at h
  omega
theorem mu_put {M : List RowY} {a i : Nat} {s : SpY} (ha : a < M.length) (hi : i < (M.getD a zRY).l.length) (h : cntY s < cntY (setAt M a i)) : muM (putS M a i s) < muM M := muG_put cntY ha hi h
end Go.Proofs.YtffbohecdocajaaGreat

namespace Go.Proofs.YtffbohecdocajaaGreat
open Go.SL Go.Proofs Go.Pulse
set_option linter.unusedVariables false

theorem C126 : IsFn Tryz.prog 126 := ⟨_, Tryz.func126, by decide, rfl⟩
theorem Z327 : ZeroOf Tryz.prog 327 (.map none) := by unfold ZeroOf; kernel_rfl
theorem N327 : (Tryz.prog.info? 327).map (·.size) = some 1 := by kernel_rfl
theorem Z328 : ZeroOf Tryz.prog 328 (.slice none 0 0) := by unfold ZeroOf; kernel_rfl
theorem C127 : IsFn Tryz.prog 127 := ⟨_, Tryz.func127, by decide, rfl⟩
theorem A338 : IsAgg Tryz.prog 338 3 := ⟨⟨_, Tryz.underlying338, rfl⟩, by kernel_rfl⟩
theorem F338_0 : FieldAt Tryz.prog 338 0 0 := ⟨_,_, Tryz.underlying338, rfl, rfl, 1, by kernel_rfl⟩
theorem F330_0 : FieldAt Tryz.prog 330 0 0 := ⟨_,_, Tryz.underlying330, rfl, rfl, 0, by kernel_rfl⟩
theorem F330_1 : FieldAt Tryz.prog 330 1 1 := ⟨_,_, Tryz.underlying330, rfl, rfl, 0, by kernel_rfl⟩
theorem F338_1 : FieldAt Tryz.prog 338 1 2 := ⟨_,_, Tryz.underlying338, rfl, rfl, 0, by kernel_rfl⟩
theorem C129 : IsFn Tryz.prog 129 := ⟨_, Tryz.func129, by decide, rfl⟩
theorem C130 : IsFn Tryz.prog 130 := ⟨_, Tryz.func130, by decide, rfl⟩


theorem _root_.Go.SL.LO.eqv {P : Program} {β : Bs} {env : Env} {L : List Res} {o : Oper} {v v' : Value} (h : LO P β env L o v) (e : v = v') : LO P β env L o v' := e ▸ h
theorem _root_.Go.SL.RO.of_ownO {α : Type} {f : α → List Value} {β : Bs} {L : List Res} {w : World} {E z cap : Nat} {p : Option Addr} {l : List α} (hw : St β L w) (i : Nat) (hi : L[i]? = some (ownO E z p cap (l.map f))) : RO z f w p l := ownO_rows hw i hi
theorem ownO_cap {α : Type} {f : α → List Value} {β : Bs} {L : List Res} {w : World} {E z cap : Nat} {p : Option Addr} {l : List α} (hw : St β L w) (i : Nat) (hi : L[i]? = some (ownO E z p cap (l.map f))) : l.length ≤ cap := by
  have := (hw.inv i _ hi).1
  rwa [List.length_map] at this
/-- A place of the rows. -/
def PlOk (M : List RowY) (G : Nat) (x : Int × Int) : Prop := ∃ r g : Nat, x = ((r : Int), (g : Int)) ∧ r < M.length ∧ g < G ∧ 0 < (setAt M r g).l.length
/-- What a bond of settle has. -/
def QB (M : List RowY) (G : Nat) (j : Int) (d : Bond) : Prop := ∃ r g : Nat, (d.ra = (r : Int) ∧ d.ga = (g : Int)) ∧ r < M.length ∧ g < G ∧ 0 < (setAt M r g).l.length ∧ j ≤ d.m ∧ d.m ≤ 30000
theorem bq_qb {M : List RowY} {G : Nat} {j : Int} : BQ M G j (QB M G j) := fun r g m h1 h2 h3 h4 h5 => ⟨r, g, ⟨rfl, rfl⟩, h1, h2, h3, h4, h5⟩
/-- What the sets are that settle is given. -/
structure SetOk (w : World) (v : Nat → Nat → Int) (G : Nat) (j : Int) (M : List RowY) : Prop where
  c : ∀ a i, a < M.length → i < G → CanS (setAt M a i).l ∧ bdS 60000 (setAt M a i).l
  m : ∀ a i, a < M.length → i < G → Spans w (setAt M a i).p (setAt M a i).l
  t : ∀ a i, a < M.length → i < G → 0 < (setAt M a i).l.length → memH (setAt M a i).l (2 * v a i)
  d : ∀ a i b k, -j ≤ v a i - v b k ∧ v a i - v b k ≤ j
theorem row_same {M M2 : List RowY} (h : M2.map (·.l) = M.map (·.l)) (a : Nat) : (M2.getD a zRY).l = (M.getD a zRY).l := by
  have e : ∀ K : List RowY, (K.getD a zRY).l = (K.map (·.l)).getD a [] := fun K => by
    rw [List.getD_eq_getElem?_getD, List.getD_eq_getElem?_getD, List.getElem?_map]
    cases K[a]? <;> rfl
  rw [e, e, h]
theorem good_0 {M M2 : List RowY} {v : Nat → Nat → Int} {G : Nat} (h : M2.map (·.l) = M.map (·.l)) (hG : ∀ r, r ∈ M → r.l.length = G) (hc : ∀ a i, a < M.length → i < G → CanS (setAt M a i).l) : GoodM v G M M2 := by
  have hl : M2.length = M.length := by have := congrArg List.length h; simpa using this
  refine ⟨hl, fun a ha => by rw [row_same h]; exact hG _ (getD_mem (by omega)), fun a i ha hi => ?_⟩
  have e : setAt M2 a i = setAt M a i := by unfold setAt; rw [row_same h]
  rw [e]
  exact GoodS.refl (hc a i (by omega) hi)
theorem hdQ {w : World} {p : Option Addr} {x : Int × Int} {l : List (Int × Int)} (h : RO 2 plC w p (x :: l)) : Cells w ⟨pb p, po p + 0 * 2, none⟩ (plC x) := h.here (0,0) (j := 0) (by simp)
abbrev spOwn (s : SpY) : Res := own 25 2 s.p s.c (s.l.map spanC)
theorem todo_1 {M : List RowY} {G N : Nat} {td td' : List (Int × Int)} {x : Int × Int} (h : td' = td ∨ td' = td ++ [x]) (hl : td.length ≤ N) (hp : ∀ y, y ∈ td → PlOk M G y) (hx : PlOk M G x) : td'.length ≤ N + 1 ∧ ∀ y, y ∈ td' → PlOk M G y := by
  rcases h with rfl | rfl
  · exact ⟨by omega, hp⟩
  · refine ⟨by rw [List.length_append]; simp only [List.length_singleton]; omega, fun y hy => ?_⟩
    rcases List.mem_append.1 hy with k | k
    · exact hp y k
    · rw [List.mem_singleton.1 k]; exact hx
theorem bag_bond {w : World} {l : List BY} (h : (bagD (l.map bOwn)).inv w) (n : Int × Int) : RO 3 bndC w ((asM l n).getD dB).p ((asM l n).getD dB).l := by
  cases hq : asM l n with
  | none => exact ⟨fun j r hr => by simp [dB] at hr, fun _ => rfl, fun _ a ha => by cases ha⟩
  | some e => exact own_inv_rows (h.1 _ (List.mem_map_of_mem (List.mem_of_find?_eq_some hq)))
theorem bag_row {w : World} {l : List RowY} (h : (bagD (l.map rOwn)).inv w) {a : Nat} (ha : a < l.length) : RO 1 setC w (l.getD a zRY).p (l.getD a zRY).l := own_inv_rows (h.1 _ (List.mem_map_of_mem (getD_mem ha)))
theorem bag_set {w : World} {l : List SpY} (h : (bagD (l.map spOwn)).inv w) {s : SpY} (hs : s ∈ l) : Spans w s.p s.l := own_inv_rows (h.1 _ (List.mem_map_of_mem hs))
theorem bd_inB {l : List Span} (h : bdS 60000 l) : inB l := fun z ⟨s, hs, h1, h2⟩ => by have := h s hs; omega
theorem good_at {w : World} {M M3 : List RowY} {v : Nat → Nat → Int} {G : Nat} {j : Int} (h : GoodM v G M M3) (hS : SetOk w v G j M) {a i : Nat} (ha : a < M.length) (hi : i < G) : CanS (setAt M3 a i).l ∧ bdS 60000 (setAt M3 a i).l := by
  have g := h.g a i (by rw [h.len]; exact ha) hi
  exact ⟨g.c, bdS_sub (hS.c a i ha hi).2 g.c g.sub⟩
theorem putS_rowC {M : List RowY} {a i : Nat} {s : SpY} (ha : a < M.length) : (putS M a i s).map rowC = M.map rowC := by
  unfold putS
  rw [List.map_set]
  refine List.ext_getElem (by rw [List.length_set]) fun k h1 h2 => ?_
  rw [List.getElem_set]
  split
  · rename_i e
    subst e
    rw [List.getElem_map, List.getD_eq_getElem?_getD, List.getElem?_eq_getElem ha]
    show [Value.slice _ (List.set _ _ _).length _] = _
    rw [List.length_set]; rfl
  · rfl
theorem put_mem {M M3 : List RowY} {ss : List SpY} {n G r g : Nat} {s : SpY} (h : ∀ a i, a < n → i < G → setAt M3 a i = setAt M a i ∨ setAt M3 a i ∈ ss) (hr : r < M3.length) (hg : g < (M3.getD r zRY).l.length) : ∀ a i, a < n → i < G → setAt (putS M3 r g s) a i = setAt M a i ∨ setAt (putS M3 r g s) a i ∈ s :: ss := fun a i ha hi => by
  rw [putS_at hr hg]
  split
  · exact .inr List.mem_cons_self
  · exact (h a i ha hi).imp id (List.mem_cons_of_mem _)
theorem step_set {w : World} {M M3 : List RowY} {v : Nat → Nat → Int} {G : Nat} {j : Int} (h : GoodM v G M M3) (hS : SetOk w v G j M) {r g pr pg : Nat} (hr : r < M.length) (hg : g < G) (hpr : pr < M.length) (hpg : pg < G) (hpn : 0 < (setAt M pr pg).l.length) {m : Int} (hm : j ≤ m) {u : List Span} (hn : NeP (setAt M3 r g).l (setAt M3 pr pg).l u m) (hne : ¬ (setAt M3 r g).l = u) (p : Option Addr) (c : Nat) :
    GoodM v G M (putS M3 r g ⟨u, p, c⟩) ∧ muM (putS M3 r g ⟨u, p, c⟩) < muM M3 ∧ (putS M3 r g ⟨u, p, c⟩).map rowC = M3.map rowC := by
  have hr3 : r < M3.length := by rw [h.len]; exact hr
  have a1 := h.g r g hr3 hg
  have a2 := h.g pr pg (by rw [h.len]; exact hpr) hpg
  have hd := hS.d r g pr pg
  refine ⟨h.put hr3 hg (a1.near a2 hn hm hd.1 hd.2 (hS.t pr pg hpr hpg hpn)), mu_put hr3 (by rw [h.row r hr3]; exact hg) ?_, putS_rowC hr3⟩
  show cnt u < cnt _
  exact cnt_lt a1.c hn.c (bd_inB (good_at h hS hr hg).2) hn.sub hne
theorem mu_bd : ∀ {M : List RowY} {G : Nat}, (∀ r, r ∈ M → r.l.length = G) → muM M ≤ M.length * (G * 400001)
  | [],_,_ => Nat.zero_le _
  | x :: M, G, h => by
    have h1 := mu_bd (M := M) (G := G) fun r hr => h r (List.mem_cons_of_mem _ hr)
    have h2 : ∀ l : List SpY, (l.map cntY).sum ≤ l.length * 400001 := fun l => by
      induction l with
      | nil => exact Nat.le_refl _
      | cons y l ih =>
        have := cnt_bd (l := y.l)
        rw [List.map_cons, List.sum_cons, List.length_cons]
        show cnt y.l + _ ≤ _
        omega
    have h3 := h2 x.l
    rw [h x List.mem_cons_self] at h3
    show (x.l.map cntY).sum + muM M ≤ (M.length + 1) * _
    rw [Nat.add_mul]
    omega
theorem bag_cons {α : Type} {f : α → Res} {β : Bs} {L : List Res} {w : World} {a : α} {l : List α} (h : St β (f a :: bagD (l.map f) :: L) w) : St β (bagD ((a :: l).map f) :: L) w := St.unfocus (A := []) (B := l.map f) h
/-- What settle leaves. -/
structure SetlP (v : Nat → Nat → Int) (G : Nat) (M M3 : List RowY) (ss : List SpY) : Prop where
  g : GoodM v G M M3
  m : ∀ a i, a < M.length → i < G → setAt M3 a i = setAt M a i ∨ setAt M3 a i ∈ ss
def zBd : Bond := ⟨0,0,0⟩
theorem mu_0 {M M2 : List RowY} {G n : Nat} (hn : 1 ≤ M.length ∧ M.length ≤ 4) (hG : ∀ r, r ∈ M → r.l.length = G) (hG3 : G ≤ 3) (h : M2.map (·.l) = M.map (·.l)) (hl : n ≤ 1000) : 2 * muM M2 + n ≤ 10000000 := by
  have h1 := mu_bd (M := M2) (G := G) fun r hr => by
    have : r.l ∈ M.map (·.l) := by rw [← h]; exact List.mem_map_of_mem hr
    obtain ⟨q, hq, e⟩ := List.mem_map.1 this
    rw [← e]; exact hG q hq
  have h2 : M2.length = M.length := by have := congrArg List.length h; simpa using this
  have h3 : M2.length * (G * 400001) ≤ 4 * (3 * 400001) := Nat.mul_le_mul (by omega) (Nat.mul_le_mul hG3 (Nat.le_refl _))
  omega
theorem set_lies {L : List Res} {w w2 : World} {M M3 : List RowY} {v : Nat → Nat → Int} {jump : Int} {ss : List SpY} {G a i : Nat} (hS : SetOk w v G jump M) (h : ∀ a i, a < M.length → i < G → setAt M3 a i = setAt M a i ∨ setAt M3 a i ∈ ss) (ha : a < M.length) (hi : i < G) (h1 : St (bs w) L w2) (h2 : (bagD (ss.map spOwn)).inv w2) : Spans w2 (setAt M3 a i).p (setAt M3 a i).l := by
  rcases h a i ha hi with q | q
  · rw [q]; exact RO.keep (hS.m a i ha hi) w2 h1
  · exact bag_set h2 q

set_option maxRecDepth 20000 in
set_option maxHeartbeats 4000000 in
theorem settle_c (M : List RowY) (G : Nat) (jump bridge : Int) (v : Nat → Nat → Int) (p : Option Addr) (c : Nat) (w : World) (hn : 1 ≤ M.length ∧ M.length ≤ 4) (hG : ∀ r, r ∈ M → r.l.length = G) (hG3 : G ≤ 3) (hj : 0 ≤ jump ∧ jump ≤ 10000) (hb : 1 ≤ bridge ∧ bridge ≤ 3) (hM : MatY w p M) (hS : SetOk w v G jump M) :
  Calls Tryz.prog 60 #[.slice p M.length c, .int .i64 jump, .int .i64 bridge] w fun e w' => ∃ y : (Option Addr × Nat) × List RowY × List SpY, SetlP v G M y.2.1 y.2.2 ∧ e = .returned (.slice y.1.1 y.2.1.length y.1.2) ∧ St (bs w) [own 183 1 y.1.1 y.1.2 (y.2.1.map rowC), bagD (y.2.1.map rOwn), bagD (y.2.2.map spOwn)] w' := by
  refine enter (vs := [_,_,_]) (env := [(0,_), (1,_), (2,_)]) Tryz.func60 rfl rfl rfl rfl ?_
  refine VC.seq ?_
  refine VC.reg (VO.l (LO.as (.r rfl)) rfl<|VO.nil ?_)
  refine VE.seqN ?_
  refine VC.seq ?_
  refine VC.reg (VO.l (LO.mv (.r rfl)) rfl<|VO.l (LO.mv (.r rfl)) rfl<|VO.l (LO.mv (.r rfl)) rfl<|VO.h rfl<|HO.callx (xs := [_,_,_]) (vs := [_,_,_]) C126 ⟨(.r rfl), (.r rfl), (.r rfl), trivial⟩ (fun w hw => weave_c M G jump bridge (QB M G jump) p c w hn hG hG3 hj hb bq_qb ⟨hM.t.keep w hw, fun r hr => (hM.r r hr).keep w hw⟩) fun y ⟨hyb, hym⟩ => VO.h rfl<|HO.lo (LO.as (.r rfl))<|VO.nil ?_)
  refine VE.seqN ?_
  refine VC.seq ?_
  refine VC.reg (VO.h rfl<|HO.mkmapG plV Value.bool fun b6 => VO.h rfl<|HO.alloc (C := #[_]) Z327 rfl fun b7 => VO.h0<|HO.st 0 (vs := [_]) (C' := [_]) (L' := [_,_,_,_,_,_,_]) N327 rfl rfl rfl rfl rfl rfl rfl rfl<|VO.nil ?_)
  refine VE.seqN ?_
  refine VC.seq ?_
  refine VC.reg (VO.h rfl<|HO.alloc (C := #[_]) Z328 rfl fun b9 => VO.nil ?_)
  refine VE.seqN ?_
  refine VC.seq ?_
  refine VC.reg (VO.h rfl<|HO.lo (LO.mf (cap := [_,_]) ⟨(.r rfl), (.r rfl), trivial⟩)<|VO.h rfl<|HO.lo (LO.as (.r rfl))<|VO.nil ?_)
  refine VE.seqN ?_
  refine VC.seq ?_
  refine VC.seq ?_
  refine VC.res (fun _ h => St.toO (h.ownNil 330 2) 0 rfl) ?_
  show VC _ _ _ _ _ _ [_,_,_,_,_,_,_,_,_] _ _
  refine VC.reg (VO.l (LO.mv (.r rfl)) rfl<|VO.l (LO.len S181 (.r rfl) rfl) rfl<|VO.l (LO.mv (.r rfl)) rfl<|VO.nil ?_)
  refine VE.seqN ?_
  refine VC.block ?_
  refine VC.perm [3,1,0,2,4,5,6,7,8] rfl ?_
  refine VC.loopK (α := Nat × (Int × Int → Option Bool) × (List (Int × Int)) × (Option Addr) × Nat) 3 (fun gx => [(28, .int .i64 (gx.1 : Nat))]) [(7,_), (8,_), (9,_), (10,_), (26,_), (27,_)] (fun gx => [mapR plV Value.bool b6 gx.2.1, blk b9 (.cells #[.slice gx.2.2.2.1 gx.2.2.1.length gx.2.2.2.2] 328), ownO 330 2 gx.2.2.2.1 gx.2.2.2.2 (gx.2.2.1.map plC)]) (fun gx => (gx.1 ≤ M.length ∧ gx.2.2.1.length ≤ 3 * gx.1) ∧ ∀ x, x ∈ gx.2.2.1 → PlOk M G x) (fun gx => M.length - gx.1) (0, fun _ => none, [], none, 0) (by exact ⟨⟨Nat.zero_le _, Nat.le_refl _⟩, fun x hx => (by cases hx)⟩) (.cons rfl (.cons rfl (.cons rfl (.cons rfl (.cons rfl (.cons rfl (.cons rfl .nil))))))) (fun _ h => h) ?_
  rintro ⟨ra, mw, td, tp, tc⟩ ⟨hra, hpl⟩
  show VC _ _ _ _ _ ([(28, .int .i64 (ra : Nat))] ++ _) ([mapR plV Value.bool b6 mw, blk b9 (.cells #[.slice tp td.length tc] 328), ownO 330 2 tp tc (td.map plC)] ++ _) _ _
  dsimp only at hra hpl
  refine VC.seq ?_
  refine VC.reg (VO.l (LO.lt (.r rfl) (.r rfl)) rfl<|VO.nil ?_)
  refine VE.seqN ?_
  refine VC.seq ?_
  refine VC.cond rfl (fun h1 => ?_) (fun h1 => ?_)
  ·
    refine VC.skip (VE.seqN ?_)
    refine VC.seq ?_
    refine VC.block ?_
    refine VC.seq ?_
    refine VC.reg (VO.l (LO.mv (.r rfl)) rfl<|VO.l (LO.ixs S181 N183 hM.t.sm (.r rfl) (.r rfl) rfl (by omega)) rfl<|VO.l (LO.ld O183 (.r rfl) (fun w hw => cells_part (off := 0) ((hM.t.at zRY (j := ra) (by omega)) w hw) ⟨_, rfl⟩)) rfl<|VO.l (LO.as (.r rfl)) rfl<|VO.l (LO.as (.r rfl)) rfl<|VO.nil ?_)
    refine VE.seqN ?_
    refine VC.seq ?_
    have hgl := hG _ (getD_mem (d := zRY) (show ra < M.length by omega))
    refine VC.reg (VO.l (LO.mv (.r rfl)) rfl<|VO.h rfl<|HO.callx (xs := [_]) (vs := [_]) C128 ⟨(.r rfl), trivial⟩ (fun w hw => known_c (M.getD ra zRY).l (M.getD ra zRY).p (M.getD ra zRY).c w (by omega) ((hM.at (by omega)).keep w hw)) fun kn _ => VO.h rfl<|HO.lo (LO.len S112 (.r rfl) rfl)<|VO.l (LO.mv (.r rfl)) rfl<|VO.nil ?_)
    refine VE.seqN ?_
    refine VC.block ?_
    refine VC.perm [1,2,3,0,4,5,6,7,8,9] rfl ?_
    refine VC.loopK (α := Nat × (Int × Int → Option Bool) × (List (Int × Int)) × (Option Addr) × Nat) 4 (fun gx => [(36, .int .i64 (gx.1 : Nat))]) [(7,_), (8,_), (9,_), (10,_), (11,_), (26,_), (27,_), (28,_), (34,_), (35,_)] (fun gx => [mapR plV Value.bool b6 gx.2.1, blk b9 (.cells #[.slice gx.2.2.2.1 gx.2.2.1.length gx.2.2.2.2] 328), ownO 330 2 gx.2.2.2.1 gx.2.2.2.2 (gx.2.2.1.map plC), own 3 1 kn.1 kn.2 ((knw (M.getD ra zRY).l (M.getD ra zRY).l.length).map natC)]) (fun gx => (gx.1 ≤ (knw (M.getD ra zRY).l (M.getD ra zRY).l.length).length ∧ gx.2.2.1.length ≤ 3 * ra + gx.1) ∧ ∀ x, x ∈ gx.2.2.1 → PlOk M G x) (fun gx => (knw (M.getD ra zRY).l (M.getD ra zRY).l.length).length - gx.1) (0, mw, td, tp, tc) (by exact ⟨⟨Nat.zero_le _, by dsimp only; omega⟩, hpl⟩) (.cons rfl (.cons rfl (.cons rfl (.cons rfl (.cons rfl (.cons rfl (.cons rfl (.cons rfl (.cons rfl (.cons rfl (.cons rfl .nil))))))))))) (fun _ h => h) ?_
    rintro ⟨k, mw2, td2, tp2, tc2⟩ ⟨hk, hpl2⟩
    show VC _ _ _ _ _ ([(36, .int .i64 (k : Nat))] ++ _) ([mapR plV Value.bool b6 mw2, blk b9 (.cells #[.slice tp2 td2.length tc2] 328), ownO 330 2 tp2 tc2 (td2.map plC), own 3 1 kn.1 kn.2 ((knw (M.getD ra zRY).l (M.getD ra zRY).l.length).map natC)] ++ _) _ _
    dsimp only at hk hpl2
    refine VC.seq ?_
    have hkl : (knw (M.getD ra zRY).l (M.getD ra zRY).l.length).length ≤ G := by have := knw_len (l := (M.getD ra zRY).l) (n := (M.getD ra zRY).l.length); omega
    refine VC.reg (VO.l (LO.lt (.r rfl) (.r rfl)) rfl<|VO.nil ?_)
    refine VE.seqN ?_
    refine VC.seq ?_
    refine VC.cond rfl (fun h2 => ?_) (fun h2 => ?_)
    ·
      refine VC.skip (VE.seqN ?_)
      refine VC.seq ?_
      refine VC.block ?_
      refine VC.seq ?_
      refine VC.reg (VO.l (LO.ixo S112 N3 (fun _ hw => (own_rows hw 3 rfl).some (by rw [List.length_map])) (.r rfl) (.r rfl) rfl (by omega)) rfl<|VO.l (LO.ld O3 (.r rfl) (fun w hw => cells_part (off := 0) (own_cell hw 3 rfl (getD_some (d := 0) (i := k) (by omega))) ⟨_, rfl⟩)) rfl<|VO.l (LO.as (.r rfl)) rfl<|VO.nil ?_)
      refine VE.seqN ?_
      refine VC.reg (VO.l (LO.mv (.r rfl)) rfl<|VO.l (LO.mv (.r rfl)) rfl<|VO.l (LO.mv (.r rfl)) rfl<|VO.l (LO.bd (ps := [(_,_), (_,_)]) (vs := [(_,_), (_,_)]) (C := [_,_]) B330  ⟨(.r rfl), (.r rfl), trivial⟩ rfl ⟨_, [_], [_,_], rfl, rfl, rfl, rfl, ⟨_, [_], [_,_], rfl, rfl, rfl, rfl, rfl⟩⟩) rfl<|VO.h rfl<|HO.callP (first := []) (cap := [_,_]) (xs := [_]) (vs := [_]) [_,_,_] [_,_,_,_,_,_,_] (selK (L1 := [_,_,_] ++ [_,_,_,_,_,_,_]) [0,1,2,3,4,5,6,7,8,9] rfl rfl) (.r rfl) C127 ⟨(.r rfl), trivial⟩ (fun w hw hh => wait_c b7 b6 b9 mw2 td2 tp2 tc2 (((ra : Nat) : Int), (((knw (M.getD ra zRY).l (M.getD ra zRY).l.length).getD k 0 : Nat) : Int)) w hh (fun L w2 h2 => cells_at (St.rightOf (St.fz (selK (L1 := [_,_,_] ++ [_,_,_,_,_,_,_]) [0,1,2,3,4,5,6,7,8,9] rfl rfl w hw) h2)) 1 rfl ⟨_, rfl⟩) (by omega)) fun yw hyw => VO.nil ?_)
      refine VE.inN (VE.seqN ?_)
      refine VC.reg (VO.l (LO.add (.r rfl) (.r rfl) (wi (by omega) (by omega))) rfl<|VO.l (LO.mv (.r rfl)) rfl<|VO.nil ?_)
      refine VE.thenN fun a w ha hw => ⟨(k + 1, yw.1, yw.2.1, yw.2.2.1, yw.2.2.2), (by have q := todo_1 hyw hk.2 hpl2 ⟨ra,_, rfl, by omega, by have := knw_at (l := (M.getD ra zRY).l) (n := (M.getD ra zRY).l.length) (k := k) (by omega); omega, knw_ne (by omega)⟩; exact ⟨⟨by dsimp only; omega, by have := q.1; dsimp only; omega⟩, q.2⟩), (by dsimp only; omega), ha.sub (.cons rfl (.cons rfl (.cons rfl (.cons rfl (.cons rfl (.cons rfl (.cons rfl (.cons rfl (.cons rfl (.cons rfl (.cons rfl .nil))))))))))), hw⟩
    ·
      refine VC.exit (VE.thenX (VE.thenX (VE.inX (VE.inN (VE.seqN ?_)))))
      refine VC.reg (VO.l (LO.add (.r rfl) (.r rfl) (wi (by omega) (by omega))) rfl<|VO.l (LO.mv (.r rfl)) rfl<|VO.nil ?_)
      refine VE.thenN fun a w ha hw => ⟨(ra + 1, mw2, td2, tp2, tc2), ⟨⟨by dsimp only; omega, by dsimp only; omega⟩, hpl2⟩, (by dsimp only; omega), ha.sub (.cons rfl (.cons rfl (.cons rfl (.cons rfl (.cons rfl (.cons rfl (.cons rfl .nil))))))), hw.sel [0,1,2,4,5,6,7,8,9] rfl⟩
  ·
    refine VC.exit (VE.thenX (VE.thenX (VE.inX (VE.seqN ?_))))
    refine VC.seq ?_
    refine VC.block ?_
    refine VC.res (L' := [mapR plV Value.bool b6 mw, blk b9 (.cells #[.slice tp td.length tc] 328), ownO 330 2 tp tc (td.map plC), bagD (y.2.1.map rOwn)] ++ [_,_,_,_,_]) (selK [0,1,2,6,3,4,5,7,8] rfl rfl) ?_
    refine VC.rebaseO fun w1 hst1 => ?_
    have hkW : ∀ {L : List Res} {w3 : World}, St ⟨w1, fpL [mapR plV Value.bool b6 mw, blk b9 (.cells #[.slice tp td.length tc] 328), ownO 330 2 tp tc (td.map plC), bagD (y.2.1.map rOwn)]⟩ L w3 → (Cells w3 ⟨y.1.1,0, none⟩ [.slice y.1.2.2.1 y.2.1.length y.1.2.2.2, .map (some y.1.2.1)] ∧ Cells w3 ⟨b7,0, none⟩ [.map (some b6)]) ∧ RO 1 rowC w3 y.1.2.2.1 y.2.1 ∧ (mapR plV bV y.1.2.1 (asM y.2.2)).inv w3 ∧ (bagD (y.2.2.map bOwn)).inv w3 := fun h => have z := St.rightOf (St.fz hst1 h); ⟨⟨cells_at z 1 rfl ⟨_, rfl⟩, cells_at z 0 rfl ⟨_, rfl⟩⟩, RO.of_own z 2 rfl, z.inv 3 _ rfl, z.inv 4 _ rfl⟩
    refine VC.loopK (α := (List RowY) × (List SpY) × (Int × Int → Option Bool) × (List (Int × Int)) × (Option Addr) × Nat) 4 (fun gx => []) [(7,_), (8,_), (9,_), (10,_)] (fun gx => [mapR plV Value.bool b6 gx.2.2.1, blk b9 (.cells #[.slice gx.2.2.2.2.1 gx.2.2.2.1.length gx.2.2.2.2.2] 328), ownO 330 2 gx.2.2.2.2.1 gx.2.2.2.2.2 (gx.2.2.2.1.map plC), bagD (gx.1.map rOwn), bagD (gx.2.1.map spOwn)]) (fun gx => ((∀ x, x ∈ gx.2.2.2.1 → PlOk M G x) ∧ 2 * muM gx.1 + gx.2.2.2.1.length ≤ 10000000) ∧ GoodM v G M gx.1 ∧ gx.1.map rowC = y.2.1.map rowC ∧ ∀ a i, a < M.length → i < G → setAt gx.1 a i = setAt M a i ∨ setAt gx.1 a i ∈ gx.2.1) (fun gx => 2 * muM gx.1 + gx.2.2.2.1.length) (y.2.1, [], mw, td, tp, tc) (by exact ⟨⟨hpl, mu_0 hn hG hG3 hym (by dsimp only; omega)⟩, good_0 hym hG (fun a i h1 h2 => (hS.c a i h1 h2).1), rfl, fun a i h1 h2 => .inl (by show setAt y.2.1 a i = setAt M a i; unfold setAt; rw [row_same hym])⟩) (.cons rfl (.cons rfl (.cons rfl (.cons rfl .nil)))) (fun _ h => ((St.bagD (Rs := []) h)).sel [1,2,3,4,0] rfl) ?_
    rintro ⟨M3, ss, mw3, td3, tp3, tc3⟩ ⟨⟨hp3, hm3⟩, hg3, hr3, hs3⟩
    show VC _ _ _ _ _ ([] ++ _) ([mapR plV Value.bool b6 mw3, blk b9 (.cells #[.slice tp3 td3.length tc3] 328), ownO 330 2 tp3 tc3 (td3.map plC), bagD (M3.map rOwn), bagD (ss.map spOwn)] ++ _) _ _
    dsimp only at hp3 hm3 hg3 hr3 hs3
    refine VC.seq ?_
    refine VC.seq ?_
    refine VC.reg (VO.l (LO.ld O328 (.r rfl) (fun _ hw => cells_at hw 1 rfl ⟨_, rfl⟩)) rfl<|VO.l (LO.len S328 (.r rfl) rfl) rfl<|VO.l (LO.gt (.r rfl) (.r rfl)) rfl<|VO.nil ?_)
    refine VE.seqN ?_
    refine VC.cond rfl (fun h49 => ?_) (fun h49 => ?_)
    ·
      refine VC.skip (VE.seqN ?_)
      refine VC.block ?_
      refine VC.seq ?_
      refine VC.pur (φ := SlSome tp3 td3.length ∧ td3.length ≤ tc3) (fun w hw => ⟨(RO.of_ownO hw 2 rfl).sm, ownO_cap hw 2 rfl⟩) fun htd => ?_
      obtain ⟨px, rest, rfl⟩ : ∃ k rest, td3 = k :: rest := by cases td3 with | nil => (simp at h49) | cons k rest => exact ⟨k, rest, rfl⟩
      obtain ⟨pr, pg, rfl, hpr, hpg, hpn⟩ := hp3 px List.mem_cons_self
      refine VC.reg (VO.l (LO.ld O328 (.r rfl) (fun _ hw => cells_at hw 1 rfl ⟨_, rfl⟩)) rfl<|VO.l (LO.ixs S328 N330 htd.1 (.r rfl) (.r rfl) (j := 0) rfl (by simp)) rfl<|VO.l (LO.lda (vs := [_,_]) A330 (.r rfl) (fun w hw => cells_part (off := 0) ((fun w3 (h3 : St _ _ w3) => hdQ (RO.of_ownO h3 2 rfl)) w hw) ⟨_, rfl⟩) rfl) rfl<|VO.h rfl<|HO.alloc (C := #[_,_]) Z330 rfl fun b21 => VO.h0<|HO.st 0 (vs := [_,_]) (C' := [_,_]) (L' := [_,_,_,_,_,_]) N330 rfl rfl rfl rfl rfl rfl rfl rfl<|VO.nil ?_)
      refine VE.seqN ?_
      refine VC.seq ?_
      refine VC.reg (VO.l (LO.ld O328 (.r rfl) (fun _ hw => cells_at hw 2 rfl ⟨_, rfl⟩)) rfl<|VO.l (LO.eqv (LO.sl (l := 1) (E := 330) (z := 2) S328 (by kernel_rfl) (.r rfl) (.r rfl) rfl (by simp)) (show Value.slice (slFrom tp3 tc3 1 2) ((((pr : Int), (pg : Int)) :: rest).length - 1) (tc3 - 1) = Value.slice (slFrom tp3 tc3 1 2) rest.length (tc3 - 1) from rfl)) rfl<|VO.h0<|HO.st 2 (vs := [_]) (C' := [_]) (L' := [_,_,_,_,_,_]) N328 rfl rfl rfl rfl rfl rfl rfl rfl<|VO.nil ?_)
      refine VE.seqN ?_
      refine VC.seq ?_
      refine VC.res (fun w hw => St.dropO hw 3 rfl) ?_
      show VC _ _ _ _ _ _ [_,_,_, ownO 330 2 (slFrom tp3 tc3 1 2) (tc3 - 1) (rest.map plC),_,_] _ _
      refine VC.reg (VO.l (LO.ld O327 (.r rfl) (fun _ hw => sub_cells (off := 0) (hkW hw).1.2 ⟨_, rfl⟩)) rfl<|VO.l (LO.lda (vs := [_,_]) A330 (.r rfl) (fun _ hw => cells_at hw 0 rfl ⟨_, rfl⟩) rfl) rfl<|VO.h0<|HO.del 1 (fun R => [_, R,_,_,_,_]) ((pr : Int), (pg : Int)) map327 (.r rfl) (.r rfl) rfl (fun _ => rfl)<|VO.nil ?_)
      refine VE.seqN ?_
      refine VC.seq ?_
      refine VC.draw mixed (LL.l (LO.mv (.r rfl)) rfl<|LL.l (LO.nc (.r rfl)) rfl<|LL.l (LO.fa (r := 1) F336_1 (.r rfl) rfl) rfl<|LL.l (LO.ld O334 (.r rfl) (fun _ hw => sub_cells (off := 1) (hkW hw).1.1 ⟨_, rfl⟩)) rfl<|LL.l (LO.lda (vs := [_,_]) A330 (.r rfl) (fun _ hw => cells_at hw 0 rfl ⟨_, rfl⟩) rfl) rfl<|LL.l (LO.lkG1 map334 (.r rfl) (.r rfl) (fun _ hw => (hkW hw).2.2.1)) rfl<|LL.l (LO.len S333 (.r rfl) rfl) rfl<|LL.l (LO.mv (.r rfl)) rfl<|LL.nil) (by kernel_rfl) ?_
      have hbq := bok_get hyb (((pr : Nat) : Int), ((pg : Nat) : Int))
      have hkB : ∀ {L : List Res} {w3 : World}, St ⟨w1, fpL [mapR plV Value.bool b6 mw, blk b9 (.cells #[.slice tp td.length tc] 328), ownO 330 2 tp tc (td.map plC), bagD (y.2.1.map rOwn)]⟩ L w3 → RO 3 bndC w3 ((asM y.2.2 (((pr : Nat) : Int), ((pg : Nat) : Int))).getD dB).p ((asM y.2.2 (((pr : Nat) : Int), ((pg : Nat) : Int))).getD dB).l := fun h => bag_bond (hkW h).2.2.2 _
      obtain ⟨bl, hbl⟩ : ∃ bl, bl = ((asM y.2.2 (((pr : Nat) : Int), ((pg : Nat) : Int))).getD dB) := ⟨_, rfl⟩
      rw [← hbl] at hbq hkB ⊢
      have hbn : bl.l.length ≤ 48 := by have := hbq.1; omega
      have hyl : y.2.1.length = M.length := by have := congrArg List.length hym; simpa using this
      refine VE.seqN ?_
      refine VC.block ?_
      simp only [List.length_cons] at hm3
      refine VC.perm [1,2,3,4,5,0] rfl ?_
      refine VC.loopK (α := Nat × (List RowY) × (List SpY) × (Int × Int → Option Bool) × (List (Int × Int)) × (Option Addr) × Nat) 5 (fun gx => [(64, .int .i64 (gx.1 : Nat))]) [(7,_), (8,_), (9,_), (10,_), (15,_), (62,_), (63,_)] (fun gx => [mapR plV Value.bool b6 gx.2.2.2.1, blk b9 (.cells #[.slice gx.2.2.2.2.2.1 gx.2.2.2.2.1.length gx.2.2.2.2.2.2] 328), ownO 330 2 gx.2.2.2.2.2.1 gx.2.2.2.2.2.2 (gx.2.2.2.2.1.map plC), bagD (gx.2.1.map rOwn), bagD (gx.2.2.1.map spOwn)]) (fun gx => (gx.1 ≤ bl.l.length ∧ 2 * muM gx.2.1 + gx.2.2.2.2.1.length ≤ 2 * muM M3 + rest.length) ∧ (∀ x, x ∈ gx.2.2.2.2.1 → PlOk M G x) ∧ GoodM v G M gx.2.1 ∧ gx.2.1.map rowC = y.2.1.map rowC ∧ ∀ a i, a < M.length → i < G → setAt gx.2.1 a i = setAt M a i ∨ setAt gx.2.1 a i ∈ gx.2.2.1) (fun gx => bl.l.length - gx.1) (0, M3, ss, delG mw3 (((pr : Nat) : Int), ((pg : Nat) : Int)), rest, slFrom tp3 tc3 1 2, tc3 - 1) (by exact ⟨⟨Nat.zero_le _, Nat.le_refl _⟩, fun x hx => hp3 x (List.mem_cons_of_mem _ hx), hg3, hr3, hs3⟩) (.cons rfl (.cons rfl (.cons rfl (.cons rfl (.cons rfl (.cons rfl (.cons rfl (.cons rfl .nil)))))))) (fun _ h => h) ?_
      rintro ⟨bj, M4, ss4, mw4, td4, tp4, tc4⟩ ⟨⟨hbj, hmm⟩, hp4, hg4, hr4, hs4⟩
      show VC _ _ _ _ _ ([(64, .int .i64 (bj : Nat))] ++ _) ([mapR plV Value.bool b6 mw4, blk b9 (.cells #[.slice tp4 td4.length tc4] 328), ownO 330 2 tp4 tc4 (td4.map plC), bagD (M4.map rOwn), bagD (ss4.map spOwn)] ++ _) _ _
      dsimp only at hbj hmm hp4 hg4 hr4 hs4
      have hkR : ∀ {L : List Res} {w3 : World}, St ⟨w1, fpL [mapR plV Value.bool b6 mw, blk b9 (.cells #[.slice tp td.length tc] 328), ownO 330 2 tp tc (td.map plC), bagD (y.2.1.map rOwn)]⟩ L w3 → RO 1 rowC w3 y.1.2.2.1 M4 := fun h => by show Go.SL.Rows _ _ _ (M4.map rowC); rw [hr4]; exact (hkW h).2.1
      have hkS : ∀ {L : List Res} {w3 : World}, St ⟨w1, fpL [mapR plV Value.bool b6 mw, blk b9 (.cells #[.slice tp td.length tc] 328), ownO 330 2 tp tc (td.map plC), bagD (y.2.1.map rOwn)]⟩ L w3 → (bagD (ss4.map spOwn)).inv w3 → ∀ a i, a < M.length → i < G → Spans w3 (setAt M4 a i).p (setAt M4 a i).l := fun h hb a i ha hi => set_lies hS hs4 ha hi (St.rightOf (St.fz hst1 h)) hb
      refine VC.seq ?_
      refine VC.reg (VO.l (LO.lt (.r rfl) (.r rfl)) rfl<|VO.nil ?_)
      refine VE.seqN ?_
      refine VC.seq ?_
      refine VC.cond rfl (fun h4 => ?_) (fun h4 => ?_)
      ·
        refine VC.skip (VE.seqN ?_)
        refine VC.seq ?_
        refine VC.block ?_
        refine VC.seq ?_
        refine VC.pur (φ := (SlSome bl.p bl.l.length ∧ SlSome y.1.2.2.1 y.2.1.length) ∧ ∀ a, a < M4.length → SlSome (M4.getD a zRY).p (M4.getD a zRY).l.length) (fun w hw => ⟨⟨(hkB hw).sm, (hkW hw).2.1.sm⟩, fun a ha => (bag_row (hw.inv 3 _ rfl) ha).sm⟩) fun hsm => ?_
        obtain ⟨qr, qg, ⟨hqr, hqg⟩, hqr1, hqg1, hqn, hqm⟩ := hbq.2 _ (getD_mem (d := zBd) (show bj < bl.l.length by omega))
        have hml := hg4.len
        have hgq := hg4.row qr (by omega)
        have hgp := hg4.row pr (by omega)
        refine VC.reg (VO.l (LO.ixs S333 N338 hsm.1.1 (.r rfl) (.r rfl) rfl (by omega)) rfl<|VO.l (LO.lda (vs := [_,_,_]) A338 (.r rfl) (fun w hw => cells_part (off := 0) ((fun w3 (h3 : St _ _ w3) => (hkB h3).here zBd (j := bj) (by omega)) w hw) ⟨_, rfl⟩) rfl) rfl<|VO.h rfl<|HO.alloc (C := #[_,_,_]) Z338 rfl fun b25 => VO.h0<|HO.st 0 (vs := [_,_,_]) (C' := [_,_,_]) (L' := [_,_,_,_,_,_,_]) N338 rfl rfl rfl rfl rfl rfl rfl rfl<|VO.nil ?_)
        refine VE.seqN ?_
        refine VC.seq ?_
        refine VC.draw mixed (LL.l (LO.mv (.r rfl)) rfl<|LL.l (LO.nc (.r rfl)) rfl<|LL.l (LO.fa (r := 0) F336_0 (.r rfl) rfl) rfl<|LL.l (LO.ld O181 (.r rfl) (fun _ hw => sub_cells (off := 0) (hkW hw).1.1 ⟨_, rfl⟩)) rfl<|LL.l (LO.fa (r := 0) F338_0 (.r rfl) rfl) rfl<|LL.l (LO.fa (r := 0) F330_0 (.r rfl) rfl) rfl<|LL.l (LO.ld O3 (.r rfl) (fun _ hw => cells_at hw 0 rfl ⟨_, rfl⟩)) rfl<|LL.l (LO.ixs S181 N183 hsm.1.2 (.r rfl) (.r rfl) (j := qr) hqr (by omega)) rfl<|LL.l (LO.ld O183 (.r rfl) (fun w hw => cells_part (off := 0) ((fun w3 (h3 : St _ _ w3) => (hkR h3).here zRY (j := qr) (by omega)) w hw) ⟨_, rfl⟩)) rfl<|LL.l (LO.fa (r := 0) F338_0 (.r rfl) rfl) rfl<|LL.l (LO.fa (r := 1) F330_1 (.r rfl) rfl) rfl<|LL.l (LO.ld O3 (.r rfl) (fun _ hw => cells_at hw 0 rfl ⟨_, rfl⟩)) rfl<|LL.l (LO.ixs S183 N187 (hsm.2 qr (by omega)) (.r rfl) (.r rfl) (j := qg) hqg (by omega)) rfl<|LL.l (LO.ld O187 (.r rfl) (fun w hw => cells_part (off := 0) ((fun w3 (h3 : St _ _ w3) => (bag_row (h3.inv 4 _ rfl) (a := qr) (by omega)).here zSY (j := qg) (by omega)) w hw) ⟨_, rfl⟩)) rfl<|LL.l (LO.as (.r rfl)) rfl<|LL.nil) (by kernel_rfl) ?_
        obtain ⟨so, hso⟩ : ∃ so, so = (M4.getD qr zRY).l.getD qg zSY := ⟨_, rfl⟩
        rw [← hso]
        have hsg := good_at hg4 hS hqr1 hqg1
        have hsp := good_at hg4 hS hpr hpg
        rw [show setAt M4 qr qg = so from hso.symm] at hsg
        refine VE.seqN ?_
        refine VC.seq ?_
        refine VC.drawH [[0,1,2,3,4,5,6], [0,1,2,3,4,5,6], [0,1,2,3,4,5,6]] [some 0, some 0, some 0, some 0, some 0, some 0, some 0, some 0, some 0, some 0, some 0, some 0, some 0, some 0, some 0, none, none] mixed (by kernel_rfl) rfl (LX.l (fun _ hJ => LO.mv (.r rfl)) rfl<|LX.l (fun _ hJ => LO.mv (.r rfl)) rfl<|LX.l (fun _ hJ => LO.nc (.r rfl)) rfl<|LX.l (fun _ hJ => LO.fa (r := 0) F336_0 (.r rfl) rfl) rfl<|LX.l (fun _ hJ => LO.ld O181 (.r rfl) (fun _ hw => sub_cells (off := 0) (hkW (hJ _ hw)).1.1 ⟨_, rfl⟩)) rfl<|LX.l (fun _ hJ => LO.fa (r := 0) F330_0 (.r rfl) rfl) rfl<|LX.l (fun _ hJ => LO.ld O3 (.r rfl) (fun _ hw => cells_at (hJ _ hw) 6 rfl ⟨_, rfl⟩)) rfl<|LX.l (fun _ hJ => LO.ixs S181 N183 hsm.1.2 (.r rfl) (.r rfl) (j := pr) rfl (by omega)) rfl<|LX.l (fun _ hJ => LO.ld O183 (.r rfl) (fun w hw => cells_part (off := 0) ((fun w3 (h3 : St _ _ w3) => (hkR h3).here zRY (j := pr) (by omega)) w (hJ _ hw)) ⟨_, rfl⟩)) rfl<|LX.l (fun _ hJ => LO.fa (r := 1) F330_1 (.r rfl) rfl) rfl<|LX.l (fun _ hJ => LO.ld O3 (.r rfl) (fun _ hw => cells_at (hJ _ hw) 6 rfl ⟨_, rfl⟩)) rfl<|LX.l (fun _ hJ => LO.ixs S183 N187 (hsm.2 pr (by omega)) (.r rfl) (.r rfl) (j := pg) rfl (by omega)) rfl<|LX.l (fun _ hJ => LO.ld O187 (.r rfl) (fun w hw => cells_part (off := 0) ((fun w3 (h3 : St _ _ w3) => (bag_row (h3.inv 4 _ rfl) (a := pr) (by omega)).here zSY (j := pg) (by omega)) w (hJ _ hw)) ⟨_, rfl⟩)) rfl<|LX.l (fun _ hJ => LO.fa (r := 2) F338_1 (.r rfl) rfl) rfl<|LX.l (fun _ hJ => LO.ld O3 (.r rfl) (fun _ hw => cells_at (hJ _ hw) 0 rfl ⟨_, rfl⟩)) rfl<|LX.s<|LX.s<|LX.nil) (HX.s<|HX.s<|HX.s<|HX.s<|HX.s<|HX.s<|HX.s<|HX.s<|HX.s<|HX.s<|HX.s<|HX.s<|HX.s<|HX.s<|HX.s<|HX.h rfl<|HO.callx (xs := [_,_,_]) (vs := [_,_,_]) C129 ⟨(.r rfl), (.r rfl), (.r rfl), trivial⟩ (fun w hw => near_c so.l ((M4.getD pr zRY).l.getD pg zSY).l (bl.l.getD bj zBd).m so.p ((M4.getD pr zRY).l.getD pg zSY).p so.c ((M4.getD pr zRY).l.getD pg zSY).c w (by have := can_len hsg.1 (bd_inB hsg.2); omega) (by have := can_len hsp.1 (bd_inB hsp.2); show (setAt M4 pr pg).l.length < _; omega) (by omega) hsg.1 hsp.1 (bdS_mono hsg.2 (by decide)) (bdS_mono hsp.2 (by decide)) (by rw [hso]; exact hkS hw (hw.inv 5 _ rfl) qr qg hqr1 hqg1) (hkS hw (hw.inv 5 _ rfl) pr pg hpr hpg)) fun nx hnx => ⟨fun _ hw => hw.sel [1,2,3,4,5,6,7] rfl, HX.h rfl<|HO.lo (LO.as (.r rfl))<|⟨fun _ hw => hw.sel [1,2,3,4,5,6,7] rfl, HX.nil ?_⟩⟩)
        refine VE.seqN ?_
        refine VC.seq ?_
        refine VC.reg (VO.l (LO.mv (.r rfl)) rfl<|VO.l (LO.mv (.r rfl)) rfl<|VO.l (LO.call (xs := [_,_]) (vs := [_,_]) C130 ⟨(.r rfl), (.r rfl), trivial⟩ (fun w hw => EqualS_c so.l nx.1 so.p nx.2.1 so.c nx.2.2 w (by have := can_len hsg.1 (bd_inB hsg.2); omega) (by have := can_len hnx.c (fun z hz => bd_inB hsg.2 z (hnx.sub z hz)); omega) (by rw [hso]; exact hkS hw ((hw).inv 6 _ rfl) qr qg hqr1 hqg1) (RO.of_own hw 0 rfl))) rfl<|VO.l (LO.not (.r rfl)) rfl<|VO.nil ?_)
        refine VE.seqN ?_
        refine VC.cond rfl (fun h101 => ?_) (fun h101 => ?_)
        ·
          refine VC.seq ?_
          have hst4 := step_set hg4 hS hqr1 hqg1 hpr hpg hpn (m := (bl.l.getD bj zBd).m) (by omega) (u := nx.1) (by rw [show setAt M4 qr qg = so from hso.symm]; exact hnx) (by rw [show setAt M4 qr qg = so from hso.symm]; exact h101) nx.2.1 nx.2.2
          refine VC.res (L' := rOwn (M4.getD qr zRY) :: bagD ((M4.eraseIdx qr).map rOwn) :: [_,_,_,_,_,_,_]) (fun w hw => St.focusAt (f := rOwn) (selK [5,0,1,2,3,4,6,7] rfl rfl w hw) (getD_some (by omega))) ?_
          show VC _ _ _ _ _ _ (own 187 1 (M4.getD qr zRY).p (M4.getD qr zRY).c ((M4.getD qr zRY).l.map setC) :: _) _ _
          refine VC.drawH [[0,1,2,3,4,5,6,7,8], [1,2,3,4,5,6,7,8]] [some 0, some 0, some 0, some 0, some 0, some 0, some 0, some 0, some 0, some 0, some 0, some 0, some 0, some 0, none] mixed (by kernel_rfl) rfl (LX.l (fun _ hJ => LO.mv (.r rfl)) rfl<|LX.l (fun _ hJ => LO.nc (.r rfl)) rfl<|LX.l (fun _ hJ => LO.fa (r := 0) F336_0 (.r rfl) rfl) rfl<|LX.l (fun _ hJ => LO.ld O181 (.r rfl) (fun _ hw => sub_cells (off := 0) (hkW (hJ _ hw)).1.1 ⟨_, rfl⟩)) rfl<|LX.l (fun _ hJ => LO.fa (r := 0) F338_0 (.r rfl) rfl) rfl<|LX.l (fun _ hJ => LO.fa (r := 0) F330_0 (.r rfl) rfl) rfl<|LX.l (fun _ hJ => LO.ld O3 (.r rfl) (fun _ hw => cells_at (hJ _ hw) 3 rfl ⟨_, rfl⟩)) rfl<|LX.l (fun _ hJ => LO.ixs S181 N183 hsm.1.2 (.r rfl) (.r rfl) (j := qr) hqr (by omega)) rfl<|LX.l (fun _ hJ => LO.ld O183 (.r rfl) (fun w hw => cells_part (off := 0) ((fun w3 (h3 : St _ _ w3) => (hkR h3).here zRY (j := qr) (by omega)) w (hJ _ hw)) ⟨_, rfl⟩)) rfl<|LX.l (fun _ hJ => LO.fa (r := 0) F338_0 (.r rfl) rfl) rfl<|LX.l (fun _ hJ => LO.fa (r := 1) F330_1 (.r rfl) rfl) rfl<|LX.l (fun _ hJ => LO.ld O3 (.r rfl) (fun _ hw => cells_at (hJ _ hw) 3 rfl ⟨_, rfl⟩)) rfl<|LX.l (fun _ hJ => LO.mv (.r rfl)) rfl<|LX.l (fun _ hJ => LO.ixo S183 N187 (fun _ hw => (own_rows (hJ _ hw) 0 rfl).some (by rw [List.length_map])) (.r rfl) (.r rfl) (j := qg) hqg (by omega)) rfl<|LX.s<|LX.nil) (HX.s<|HX.s<|HX.s<|HX.s<|HX.s<|HX.s<|HX.s<|HX.s<|HX.s<|HX.s<|HX.s<|HX.s<|HX.s<|HX.s<|HX.h0<|HO.stm 0 (fun R => [R,_,_,_,_,_,_,_,_]) ((⟨nx.1, nx.2.1, nx.2.2⟩ : SpY)) (vs := [_]) N187 (.r rfl) (.r rfl) rfl (by omega) rfl rfl rfl rfl rfl (fun _ => rfl)<|⟨selJ (L1 := [_,_,_,_,_,_,_,_]) [1,2,3,4,5,6,7,8] rfl rfl rfl, HX.nil ?_⟩)
          refine VC.res (L' := bagD ((putS M4 qr qg (⟨nx.1, nx.2.1, nx.2.2⟩ : SpY)).map rOwn) :: bagD (((⟨nx.1, nx.2.1, nx.2.2⟩ : SpY) :: ss4).map spOwn) :: [_,_,_,_,_]) (fun w hw => (bag_cons (f := spOwn) (a := (⟨nx.1, nx.2.1, nx.2.2⟩ : SpY)) (l := ss4) ((St.unfocusAt (f := rOwn) (as_ := M4) (a := ⟨(M4.getD qr zRY).l.set qg (⟨nx.1, nx.2.1, nx.2.2⟩ : SpY), (M4.getD qr zRY).p, (M4.getD qr zRY).c⟩) (i := qr) (selK [0,1,2,7,3,4,5,6,8] rfl rfl w hw) (by omega)).sel [1,2,0,3,4,5,6,7] rfl)).sel [1,0,2,3,4,5,6] rfl) ?_
          show VC _ _ _ _ _ _ [_,_,_,_,_,_,_] _ _
          refine VE.seqN ?_
          refine VC.reg (VO.l (LO.mv (.r rfl)) rfl<|VO.l (LO.fa (r := 0) F338_0 (.r rfl) rfl) rfl<|VO.l (LO.lda (vs := [_,_]) A330 (.r rfl) (fun _ hw => cells_at hw 2 rfl ⟨_, rfl⟩) rfl) rfl<|VO.h rfl<|HO.callP (first := []) (cap := [_,_]) (xs := [_]) (vs := [_]) [_,_,_] [_,_,_,_] (selK (L1 := [_,_,_] ++ [_,_,_,_]) [3,4,5,0,1,2,6] rfl rfl) (.r rfl) C127 ⟨(.r rfl), trivial⟩ (fun w hw hh => wait_c b7 b6 b9 mw4 td4 tp4 tc4 ((bl.l.getD bj zBd).ra, (bl.l.getD bj zBd).ga) w hh (fun L w2 h2 => (hkW (St.fz (selK (L1 := [_,_,_] ++ [_,_,_,_]) [3,4,5,0,1,2,6] rfl rfl w hw) h2)).1.2) (by omega)) fun yw hyw => VO.nil ?_)
          refine VE.inN (VE.seqN ?_)
          refine VC.reg (VO.l (LO.add (.r rfl) (.r rfl) (wi (by omega) (by omega))) rfl<|VO.l (LO.mv (.r rfl)) rfl<|VO.nil ?_)
          refine VE.thenN fun a w ha hw => ⟨(bj + 1, putS M4 qr qg (⟨nx.1, nx.2.1, nx.2.2⟩ : SpY), (⟨nx.1, nx.2.1, nx.2.2⟩ : SpY) :: ss4, yw.1, yw.2.1, yw.2.2.1, yw.2.2.2), (by have q := todo_1 hyw (N := td4.length) (Nat.le_refl _) hp4 ⟨qr, qg, by rw [hqr, hqg], hqr1, hqg1, hqn⟩; have q1 := q.1; have q2 := hst4.2.1; have q3 := put_mem (s := (⟨nx.1, nx.2.1, nx.2.2⟩ : SpY)) hs4 (show qr < M4.length by omega) (show qg < (M4.getD qr zRY).l.length by omega); exact ⟨⟨by dsimp only; omega, by dsimp only; omega⟩, q.2, hst4.1, hst4.2.2.trans hr4, q3⟩), (by dsimp only; omega), ha.sub (.cons rfl (.cons rfl (.cons rfl (.cons rfl (.cons rfl (.cons rfl (.cons rfl (.cons rfl .nil)))))))), hw.sel [0,1,2,3,4,6] rfl⟩
        ·
          refine VC.skip (VE.inN (VE.seqN ?_))
          refine VC.reg (VO.l (LO.add (.r rfl) (.r rfl) (wi (by omega) (by omega))) rfl<|VO.l (LO.mv (.r rfl)) rfl<|VO.nil ?_)
          refine VE.thenN fun a w ha hw => ⟨(bj + 1, M4, ss4, mw4, td4, tp4, tc4), ⟨⟨by dsimp only; omega, by dsimp only; omega⟩, hp4, hg4, hr4, hs4⟩, (by dsimp only; omega), ha.sub (.cons rfl (.cons rfl (.cons rfl (.cons rfl (.cons rfl (.cons rfl (.cons rfl (.cons rfl .nil)))))))), hw.sel [2,3,4,5,6,7] rfl⟩
      ·
        refine VC.exit (VE.thenX (VE.thenX (VE.inX (VE.inN ?_))))
        refine VE.thenN fun a w ha hw => ⟨(M4, ss4, mw4, td4, tp4, tc4), ⟨⟨hp4, by dsimp only; omega⟩, hg4, hr4, hs4⟩, (by dsimp only; simp only [List.length_cons]; omega), ha.sub (.cons rfl (.cons rfl (.cons rfl (.cons rfl .nil)))), hw.sel [0,1,2,3,4] rfl⟩
    ·
      refine VC.exit (VE.thenX (VE.thenX (VE.inX (VE.seqN ?_))))
      refine VC.seq ?_
      refine VC.reg (VO.l (LO.mv (.r rfl)) rfl<|VO.l (LO.nc (.r rfl)) rfl<|VO.l (LO.fa (r := 0) F336_0 (.r rfl) rfl) rfl<|VO.l (LO.ld O181 (.r rfl) (fun _ hw => sub_cells (off := 0) (hkW hw).1.1 ⟨_, rfl⟩)) rfl<|VO.l (LO.as (.r rfl)) rfl<|VO.nil ?_)
      refine VE.seqN ?_
      refine VC.ret (VE.res (vs := [_]) rfl ⟨rfl, trivial⟩ (fun w hw => ?_))
      have hz := St.fz hst1 (selK (L1 := [_,_,_,_,_]) [0,1,2,3,4] rfl rfl _ hw)
      have hyl : y.2.1.length = M3.length := by have e1 := congrArg List.length hr3; rw [List.length_map, List.length_map] at e1; exact e1.symm
      exact ⟨((y.1.2.2.1, y.1.2.2.2), M3, ss), ⟨hg3, hs3⟩, (by rw [hyl]; rfl), (by rw [hr3]; exact selK [7,3,4] rfl rfl _ hz)⟩

end Go.Proofs.YtffbohecdocajaaGreat

namespace Go.Proofs.YtffbohecdocajaaGreat
open Go.SL Go.Proofs Go.Pulse
set_option linter.unusedVariables false

theorem I50 : EInfo Tryz.prog 50 4 32 (.agg #[.int .i64 0, .int .i64 0, .int .i64 0, .int .i64 0]) := ⟨by kernel_rfl, by kernel_rfl, by unfold ZeroOf; kernel_rfl, rfl, by decide⟩


theorem own_capS {β : Bs} {L : List Res} {w : World} (hw : St β L w) (i : Nat) {α : Type} {f : α → List Value} {E z cap : Nat} {p : Option Addr} {l : List α} (hi : L[i]? = some (own E z p cap (l.map f))) : l.length ≤ cap := by
  have := (hw.inv i _ hi).1
  rwa [List.length_map] at this
end Go.Proofs.YtffbohecdocajaaGreat

namespace Go.Proofs.YtffbohecdocajaaGreat
open Go.SL Go.Proofs Go.Pulse
set_option linter.unusedVariables false



section
variable {l : List Int} {k : Int}
end

section
variable {f : Nat → Sample → Sample} {l : List Sample} {r : Recv} {t : Train}
theorem stL_ne (hb : kndOk t.kind ∧ trainOk t) (hc : (l.length : Int) = t.count) : stL t.kind l 0 ≠ [] ∧ (t.kind ≠ 1 → stL t.kind l 1 ≠ []) ∧ (t.kind = 1 → stL t.kind l 1 = []) := by
  obtain ⟨hk, ht⟩ := hb
  unfold kndOk at hk
  unfold trainOk at ht
  have mem : ∀ (i : Nat) (w : Int), i + 1 < l.length → stW t.kind l.length i = w → stL t.kind l w ≠ [] := fun i w hi hw q => by
    rw [stL_I, List.map_eq_nil_iff] at q
    have : i ∈ stI t.kind l.length w := List.mem_filter.2 ⟨List.mem_range.2 (by omega), by simp [hw]⟩
    rw [q] at this; cases this
  refine ⟨mem 0 0 (by omega) ?_, fun h => ?_, fun h => ?_⟩
  · unfold stW
    rcases hk with h | h | h
    · rw [if_pos h]
    · rw [if_neg (by omega), if_pos h, if_neg (by omega), if_neg (by omega)]
    · rw [if_neg (by omega), if_neg (by omega)]; rfl
  · rcases hk with h | h | h
    · contradiction
    · refine mem (l.length / 2) 1 (by omega) ?_
      unfold stW
      rw [if_neg (by omega), if_pos h, if_neg (by omega), if_pos (by omega)]
    · refine mem 1 1 (by omega) ?_
      unfold stW
      rw [if_neg (by omega), if_neg (by omega)]; rfl
  · rw [stL_I, List.map_eq_nil_iff]
    unfold stI
    refine List.filter_eq_nil_iff.2 fun i _ => ?_
    unfold stW
    rw [if_pos h]; simp
end

def clr (x : Echo) : Echo := { x with s0 := zs, s1 := zs, turn := zs }
end Go.Proofs.YtffbohecdocajaaGreat

namespace Go.Proofs.YtffbohecdocajaaGreat
open Go.SL Go.Proofs Go.Pulse
set_option linter.unusedVariables false
/-- The trains of the law. -/
structure TrU (t : Train) : Prop where
  lam : 60000 ≤ t.lam ∧ t.lam ≤ 111000
  kind : kndOk t.kind
  first : 400 ≤ t.first ∧ t.first ≤ 1420
  count : 4 ≤ t.count ∧ t.count ≤ 12
  ev : t.count % 2 = 0
  one : t.kind = 1 → t.second = 0
  two : t.kind ≠ 1 → t.first < t.second ∧ t.second ≤ 2441
section
variable {t : Train} {x : Echo} {wh : Nat} {most k v : Int}
theorem TrU.ok (h : TrU t) : trainOk t := by
  obtain ⟨h1, h2, h3, h4, h5, h6, h7⟩ := h
  unfold trainOk
  rcases h2 with e | e | e
  · have := h6 e; omega
  · have := h7 (by omega); omega
  · have := h7 (by omega); omega
theorem TrU.e (h : TrU t) : trainE t = 0 := by unfold trainE; rw [if_pos h.kind, if_pos h.ok]
structure WhOk (t : Train) (wh : Nat) : Prop where
  h : wh = 0 ∨ (wh = 1 ∧ t.kind ≠ 1)
theorem TrU.tm (h : TrU t) (hw : WhOk t wh) : timeE t (wh : Nat) = 0 ∧ timeV t (wh : Nat) = usW t (wh : Nat) ∧ 400 ≤ usW t (wh : Nat) ∧ usW t (wh : Nat) ≤ 2441 := by
  have e0 := h.e
  have f := h.first
  rcases hw.h with rfl | ⟨rfl, hk⟩
  · have e : timeE t ((0 : Nat) : Int) = 0 := by unfold timeE; rw [if_neg (fun q => q e0), if_pos (show ((0 : Nat) : Int) = 0 from rfl)]
    refine ⟨e, ?_, ?_⟩
    · unfold timeV usW; rw [if_pos e, if_pos (show ((0 : Nat) : Int) = 0 from rfl), if_neg (by decide)]
    · unfold usW; rw [if_neg (by decide)]; omega
  · have e : timeE t ((1 : Nat) : Int) = 0 := by unfold timeE; rw [if_neg (fun q => q e0), if_neg (by decide), if_pos (show ((1 : Nat) : Int) = 1 ∧ t.kind ≠ 1 from ⟨rfl, hk⟩)]
    have f2 := h.two hk
    refine ⟨e, ?_, ?_⟩
    · unfold timeV usW; rw [if_pos e, if_neg (by decide), if_pos (show ((1 : Nat) : Int) = 1 from rfl)]
    · unfold usW; rw [if_pos (show ((1 : Nat) : Int) = 1 from rfl)]; omega
theorem opS_eq (h : TrU t) (hw : WhOk t wh) (hs : turnS (stpS x wh)) (hk : -64 ≤ k ∧ k ≤ 64) : opS t x wh most k = comS (spdS t (usW t (wh : Nat)) (stpS x wh) k) ⟨-most, most⟩ := by
  obtain ⟨a, b, c⟩ := h.tm hw
  have hE : spdE t (wh : Nat) (stpS x wh) k = 0 := by
    unfold spdE
    rw [if_neg (fun q => q a), if_neg]
    intro q
    refine q ⟨?_, hk⟩
    unfold turnS at hs
    unfold inS; omega
  unfold opS spdV spdS
  rw [if_pos hE, b]
theorem opS_top (h : TrU t) (hw : WhOk t wh) (hs : turnS (stpS x wh)) : ¬ (opS t x wh 60000 64).lo ≤ (opS t x wh 60000 64).hi := by
  rw [opS_eq h hw hs (by decide)]
  obtain ⟨a, b, c, d⟩ := h.tm hw
  have l := h.lam
  unfold turnS at hs
  unfold comS spdS
  dsimp only
  generalize hu : usW t (wh : Nat) = us at *
  generalize stpS x wh = s at *
  have h1 : 60001 ≤ 500 * t.lam * (s.lo + 64 * 65536) / (65536 * us) := by
    refine (Int.le_ediv_iff_mul_le (by omega)).2 ?_
    have k1 : 30000000 * 4161536 ≤ 500 * t.lam * (s.lo + 64 * 65536) := Int.mul_le_mul (by omega) (by omega) (by omega) (by omega)
    omega
  omega
theorem opS_bot (h : TrU t) (hw : WhOk t wh) (hs : turnS (stpS x wh)) : ¬ (opS t x wh 60000 (-64)).lo ≤ (opS t x wh 60000 (-64)).hi := by
  rw [opS_eq h hw hs (by decide)]
  obtain ⟨a, b, c, d⟩ := h.tm hw
  have l := h.lam
  unfold turnS at hs
  unfold comS spdS
  dsimp only
  generalize hu : usW t (wh : Nat) = us at *
  generalize stpS x wh = s at *
  have h1 : up (500 * t.lam * (s.hi + -64 * 65536)) (65536 * us) ≤ -60001 := by
    unfold up
    have h2 : 60001 ≤ -(500 * t.lam * (s.hi + -64 * 65536)) / (65536 * us) := by
      refine (Int.le_ediv_iff_mul_le (by omega)).2 ?_
      have k1 : 30000000 * 4096002 ≤ 500 * t.lam * (-(s.hi + -64 * 65536)) := Int.mul_le_mul (by omega) (by omega) (by omega) (by omega)
      rw [Int.mul_neg] at k1
      omega
    omega
  omega
theorem opt_mem {o : Opt} (h : o ∈ optN t x wh most 65) : ∃ k, (-64 ≤ k ∧ k ≤ 64) ∧ (opS t x wh most k).lo ≤ (opS t x wh most k).hi ∧ o = ⟨k, opS t x wh most k⟩ := by
  obtain ⟨i, hi, he⟩ := List.mem_filterMap.1 h
  have hi := List.mem_range.1 hi
  unfold opOf at he
  by_cases q : (opS t x wh most ((i : Int) - 64)).lo ≤ (opS t x wh most ((i : Int) - 64)).hi
  · rw [if_pos q] at he
    exact ⟨(i : Int) - 64, by omega, q, (Option.some.inj he).symm⟩
  · rw [if_neg q] at he; cases he
theorem opt_has (hk : -64 ≤ k ∧ k ≤ 64) (h : (opS t x wh most k).lo ≤ (opS t x wh most k).hi) : (⟨k, opS t x wh most k⟩ : Opt) ∈ optN t x wh most 65 := by
  refine List.mem_filterMap.2 ⟨(k + 64).toNat, List.mem_range.2 (by omega), ?_⟩
  rw [show ((k + 64).toNat : Int) - 64 = k by omega]
  unfold opOf
  rw [if_pos h]
theorem lst_true (h : TrU t) (hw : WhOk t wh) (hs : turnS (stpS x wh)) : lstB t x wh 60000 = true ∧ lstV t x wh 60000 = optN t x wh 60000 65 := by
  refine lst_y fun ⟨h0, q⟩ => ?_
  rcases q with q | q
  · obtain ⟨k, hk, h1, h2⟩ := opt_mem (getD_mem (d := zO) h0)
    rw [h2] at q
    dsimp only at q
    subst q
    exact opS_bot h hw hs h1
  · obtain ⟨k, hk, h1, h2⟩ := opt_mem (getD_mem (d := zO) (show (optN t x wh 60000 65).length - 1 < (optN t x wh 60000 65).length by omega))
    rw [h2] at q
    dsimp only at q
    subst q
    exact opS_top h hw hs h1
theorem opS_bd : -most ≤ (opS t x wh most k).lo ∧ (opS t x wh most k).hi ≤ most := by
  unfold opS comS; dsimp only; omega
/-- An echo that is clear. -/
structure ClrE (t : Train) (x : Echo) : Prop where
  s0 : turnS x.s0
  s1 : turnS x.s1
theorem ClrE.st (h : ClrE t x) : turnS (stpS x wh) := by
  unfold stpS
  split
  · exact h.s0
  · exact h.s1
theorem gsB_true (h : TrU t) (hc : ClrE t x) : gsB t x 60000 = true := by
  unfold gsB
  rw [(lst_true (wh := 0) h ⟨.inl rfl⟩ hc.st).1]
  by_cases k : t.kind = 1
  · rw [decide_eq_true k]; rfl
  · rw [(lst_true (wh := 1) h ⟨.inr ⟨rfl, k⟩⟩ hc.st).1, Bool.or_true]; rfl
theorem gsL_ok (h : TrU t) (hc : ClrE t x) : gsOk (gsL t x 60000) := by
  intro g hg
  unfold gsL at hg
  by_cases k : t.kind = 1
  · rw [if_pos k, (lst_true (wh := 0) h ⟨.inl rfl⟩ hc.st).2] at hg
    obtain ⟨o, ho, rfl⟩ := List.mem_map.1 hg
    obtain ⟨k, hk, h1, rfl⟩ := opt_mem ho
    have := opS_bd (t := t) (x := x) (wh := 0) (most := 60000) (k := k)
    exact ⟨⟨this.1, h1⟩, this.2⟩
  · rw [if_neg k, (lst_true (wh := 0) h ⟨.inl rfl⟩ hc.st).2, (lst_true (wh := 1) h ⟨.inr ⟨rfl, k⟩⟩ hc.st).2] at hg
    obtain ⟨o, ho, hg⟩ := List.mem_flatMap.1 hg
    obtain ⟨p, hp, hg⟩ := List.mem_filterMap.1 hg
    obtain ⟨k1, hk1, h1, rfl⟩ := opt_mem ho
    obtain ⟨k2, hk2, h2, rfl⟩ := opt_mem hp
    have b1 := opS_bd (t := t) (x := x) (wh := 0) (most := 60000) (k := k1)
    have b2 := opS_bd (t := t) (x := x) (wh := 1) (most := 60000) (k := k2)
    unfold gsP at hg
    split at hg
    · rename_i q
      have e := Option.some.inj hg
      subst e
      dsimp only at q ⊢
      refine ⟨⟨?_, q⟩, ?_⟩
      · unfold comS; dsimp only; omega
      · unfold comS; dsimp only; omega
    · cases hg
theorem op_truth (h : TrU t) (hw : WhOk t wh) (hs : turnS (stpS x wh)) (hv : -40000 ≤ v ∧ v ≤ 40000)
    (ht : ∃ k : Int, 500 * t.lam * ((stpS x wh).lo + k * 65536) ≤ v * 65536 * usW t (wh : Nat) ∧ v * 65536 * usW t (wh : Nat) ≤ 500 * t.lam * ((stpS x wh).hi + k * 65536)) :
    ∃ o, o ∈ lstV t x wh 60000 ∧ o.s.lo ≤ v ∧ v ≤ o.s.hi := by
  obtain ⟨k, h1, h2⟩ := ht
  obtain ⟨a, b, c, d⟩ := h.tm hw
  have hb := whole_bd h.lam.1 hv ⟨by omega, by omega⟩ h1 h2 hs.1.1 (by unfold turnS at hs; omega)
  have hi := spv_in (s := stpS x wh) (by omega) h1 h2
  have e := opS_eq (most := 60000) (k := k) h hw hs (by omega)
  have m1 : (opS t x wh 60000 k).lo ≤ v := by rw [e]; unfold comS; dsimp only; omega
  have m2 : v ≤ (opS t x wh 60000 k).hi := by rw [e]; unfold comS; dsimp only; omega
  exact ⟨⟨k, opS t x wh 60000 k⟩, by rw [(lst_true h hw hs).2]; exact opt_has (by omega) (Int.le_trans m1 m2), m1, m2⟩
/-- The truth is among the guesses. -/
theorem gs_truth (h : TrU t) (hc : ClrE t x) (hv : -40000 ≤ v ∧ v ≤ 40000)
    (t0 : ∃ k : Int, 500 * t.lam * (x.s0.lo + k * 65536) ≤ v * 65536 * usW t 0 ∧ v * 65536 * usW t 0 ≤ 500 * t.lam * (x.s0.hi + k * 65536))
    (t1 : t.kind ≠ 1 → ∃ k : Int, 500 * t.lam * (x.s1.lo + k * 65536) ≤ v * 65536 * usW t 1 ∧ v * 65536 * usW t 1 ≤ 500 * t.lam * (x.s1.hi + k * 65536)) :
    ∃ g, g ∈ gsL t x 60000 ∧ g.s.lo ≤ v ∧ v ≤ g.s.hi := by
  obtain ⟨o, ho, o1, o2⟩ := op_truth (x := x) (wh := 0) h ⟨.inl rfl⟩ hc.st hv t0
  unfold gsL
  by_cases k : t.kind = 1
  · rw [if_pos k]
    exact ⟨gs1 o, List.mem_map_of_mem ho, o1, o2⟩
  · rw [if_neg k]
    obtain ⟨p, hp, p1, p2⟩ := op_truth (x := x) (wh := 1) h ⟨.inr ⟨rfl, k⟩⟩ hc.st hv (t1 k)
    have c1 : (comS o.s p.s).lo ≤ v := by unfold comS; dsimp only; omega
    have c2 : v ≤ (comS o.s p.s).hi := by unfold comS; dsimp only; omega
    refine ⟨⟨o.wh, p.wh, comS o.s p.s⟩, List.mem_flatMap.2 ⟨o, ho, List.mem_filterMap.2 ⟨p, hp, ?_⟩⟩, c1, c2⟩
    unfold gsP
    rw [if_pos (Int.le_trans c1 c2)]
/-- What is heard of phases that slip. -/
theorem hear_clr {r : Recv} {l : List Sample} {sl : Nat → Int} (h : TrU t) (hr : recvOk r) (h1 : 1 ≤ r.phase) (hl : (l.length : Int) = t.count) (hsm : ∀ x ∈ l, smpOk x)
    (hp : ∀ i, i < l.length → (l.getD i zSm).p = wr (phA t v sl i)) (hs : ∀ i, -(r.phase - 1) ≤ sl i ∧ sl i ≤ r.phase - 1) (hk : (hearX t r l).kind = 3) :
    ClrE t (hearX t r l) ∧ (∃ k : Int, 500 * t.lam * ((hearX t r l).s0.lo + k * 65536) ≤ v * 65536 * usW t 0 ∧ v * 65536 * usW t 0 ≤ 500 * t.lam * ((hearX t r l).s0.hi + k * 65536)) ∧
      (t.kind ≠ 1 → ∃ k : Int, 500 * t.lam * ((hearX t r l).s1.lo + k * 65536) ≤ v * 65536 * usW t 1 ∧ v * 65536 * usW t 1 ≤ 500 * t.lam * ((hearX t r l).s1.hi + k * 65536)) := by
  have hn : 0 < (l.length : Int) := by have := h.count; omega
  have hD : 0 < t.lam := by have := h.lam; omega
  obtain ⟨n0, n1, n2⟩ := stL_ne ⟨h.kind, h.ok⟩ hl
  by_cases hz : (pow0 r l).lo = 0
  · rw [hearX_1 hz] at hk; exact absurd (show (1 : Int) = 3 from hk) (by decide)
  · by_cases g : goodT t r l
    · rw [hearX_3 hz g]
      obtain ⟨g0, g1, g2⟩ := g
      refine ⟨⟨mean_ok (slk_bd hr).1 (slk_bd hr).2, mean_ok (slk_bd hr).1 (slk_bd hr).2⟩, speed_in h.kind (.inl rfl) hD h1 hl hp hs n0 g1, fun q => speed_in h.kind (.inr rfl) hD h1 hl hp hs (n1 q) g2⟩
    · rw [hearX_2 hz g] at hk; exact absurd (show (2 : Int) = 3 from hk) (by decide)
end
end Go.Proofs.YtffbohecdocajaaGreat

namespace Go.Proofs.YtffbohecdocajaaGreat
open Go.SL Go.Proofs Go.Pulse
set_option linter.unusedVariables false
/-- The input of the law. -/
structure UX where
  kind : Int
  lam : Int
  first : Int
  second : Int
  count : Int
  gates : Int
  base : Int
  speeds : List Int
  jump : Int
  slip : Int
  slips : List Int
  loud : List Int
structure UXok (x : UX) : Prop where
  kind : 0 ≤ x.kind ∧ x.kind ≤ 255
  lam : 0 ≤ x.lam ∧ x.lam ≤ 255
  first : 0 ≤ x.first ∧ x.first ≤ 255
  second : 0 ≤ x.second ∧ x.second ≤ 255
  count : 0 ≤ x.count ∧ x.count ≤ 255
  gates : 0 ≤ x.gates ∧ x.gates ≤ 255
  base : -32768 ≤ x.base ∧ x.base ≤ 32767
  speeds : ∀ s, s ∈ x.speeds → -32768 ≤ s ∧ s ≤ 32767
  jump : 0 ≤ x.jump ∧ x.jump ≤ 65535
  slip : 0 ≤ x.slip ∧ x.slip ≤ 255
  slips : ∀ s, s ∈ x.slips → 0 ≤ s ∧ s ≤ 65535
  loud : ∀ s, s ∈ x.loud → 0 ≤ s ∧ s ≤ 255
def trU (x : UX) : Train := ⟨60000 + 200 * x.lam, 1 + x.kind % 3,400 + 4 * x.first, if 1 + x.kind % 3 = 1 then 0 else 400 + 4 * x.first + 1 + 4 * x.second, 4 + 2 * (x.count % 5)⟩
def slipU (x : UX) : Int := 1 + 25 * (x.slip % 17)
def jmpU (x : UX) : Int := x.jump % 9000
def spdU (x : UX) (i : Nat) : Int := if x.speeds.length = 0 then x.base else x.base + ((x.speeds.getD (i % x.speeds.length) 0).tmod (jmpU x / 2 + 1) - jmpU x / 4)
def loudU (x : UX) (i : Nat) : Int := if x.loud.length = 0 then 9 else x.loud.getD (i % x.loud.length) 0 % 20
def slF (e : Int) (slips : List Int) (j i : Nat) : Int := if slips.length = 0 then 0 else slips.getD ((j + i) % slips.length) 0 % (2 * e - 1) - (e - 1)
def phS (t : Train) (v loud e : Int) (slips : List Int) (j i : Nat) : Sample := ⟨loud, wr (phA t v (slF e slips j) i), loud, wr (phA t v (slF e slips j) i)⟩
def phN (t : Train) (v loud e : Int) (slips : List Int) (j n : Nat) : List Sample := (List.range n).map (phS t v loud e slips j)
def phL (t : Train) (v loud e : Int) (slips : List Int) (j : Nat) : List Sample := phN t v loud e slips j t.count.toNat
theorem trU_ok {x : UX} (h : UXok x) : TrU (trU x) := by
  have h1 := h.kind
  have h2 := h.lam
  have h3 := h.first
  have h4 := h.second
  have h5 := h.count
  unfold trU
  refine ⟨?_, ?_, ?_, ?_, ?_, ?_, ?_⟩ <;> dsimp only
  · omega
  · unfold kndOk; omega
  · omega
  · omega
  · omega
  · intro q; rw [if_pos q]
  · intro q; rw [if_neg q]; omega
theorem slipU_bd {x : UX} (h : UXok x) : 1 ≤ slipU x ∧ slipU x ≤ 401 := by
  have := h.slip
  unfold slipU; omega
theorem jmpU_bd {x : UX} (h : UXok x) : 0 ≤ jmpU x ∧ jmpU x ≤ 8999 := by
  have := h.jump
  unfold jmpU; omega
theorem tmod_bd {a m : Int} (h : 0 < m) : -(m - 1) ≤ a.tmod m ∧ a.tmod m ≤ m - 1 := by
  have h1 := Int.tmod_lt_of_pos a h
  have h2 := Int.tmod_lt_of_pos (-a) h
  rw [Int.neg_tmod] at h2
  omega
theorem spdU_at {x : UX} (h : UXok x) (i : Nat) : x.base - jmpU x / 2 - jmpU x / 4 ≤ spdU x i ∧ spdU x i ≤ x.base + jmpU x / 2 := by
  have hj := jmpU_bd h
  unfold spdU
  split
  · omega
  · have := tmod_bd (a := x.speeds.getD (i % x.speeds.length) 0) (show 0 < jmpU x / 2 + 1 by omega)
    omega
theorem spdU_bd {x : UX} (h : UXok x) (i : Nat) : -40000 ≤ spdU x i ∧ spdU x i ≤ 40000 := by
  have hj := jmpU_bd h
  have hb := h.base
  have := spdU_at h i
  omega
theorem spdU_diff {x : UX} (h : UXok x) (i k : Nat) : -jmpU x ≤ spdU x i - spdU x k ∧ spdU x i - spdU x k ≤ jmpU x := by
  have hj := jmpU_bd h
  unfold spdU
  split
  · omega
  · have a := tmod_bd (a := x.speeds.getD (i % x.speeds.length) 0) (show 0 < jmpU x / 2 + 1 by omega)
    have b := tmod_bd (a := x.speeds.getD (k % x.speeds.length) 0) (show 0 < jmpU x / 2 + 1 by omega)
    omega
theorem loudU_bd {x : UX} (h : UXok x) (i : Nat) : 0 ≤ loudU x i ∧ loudU x i ≤ 19 := by
  unfold loudU
  split
  · omega
  · omega
theorem slF_bd {e : Int} {slips : List Int} (he : 1 ≤ e) (j i : Nat) : -(e - 1) ≤ slF e slips j i ∧ slF e slips j i ≤ e - 1 := by
  unfold slF
  split
  · omega
  · have h1 := Int.emod_nonneg (slips.getD ((j + i) % slips.length) 0) (show 2 * e - 1 ≠ 0 by omega)
    have h2 := Int.emod_lt_of_pos (slips.getD ((j + i) % slips.length) 0) (show 0 < 2 * e - 1 by omega)
    omega
section
variable {t : Train} {v loud e : Int} {slips : List Int} {j n : Nat}
theorem phN_len : (phN t v loud e slips j n).length = n := by unfold phN; rw [List.length_map, List.length_range]
theorem phL_len (h : TrU t) : ((phL t v loud e slips j).length : Int) = t.count := by
  have := h.count
  unfold phL
  rw [phN_len]; omega
theorem phN_at {i : Nat} (h : i < n) : (phN t v loud e slips j n).getD i zSm = phS t v loud e slips j i := by
  unfold phN
  rw [List.getD_eq_getElem?_getD, List.getElem?_map, List.getElem?_range h]; rfl
theorem phN_1 : phN t v loud e slips j (n + 1) = phN t v loud e slips j n ++ [phS t v loud e slips j n] := by
  unfold phN
  rw [List.range_succ, List.map_append]; rfl
theorem phL_ok (hl : 0 ≤ loud ∧ loud ≤ 1023) : ∀ x ∈ phL t v loud e slips j, smpOk x := fun x hx => by
  obtain ⟨i,_, rfl⟩ := List.mem_map.1 hx
  have : 0 ≤ wr (phA t v (slF e slips j) i) ∧ wr (phA t v (slF e slips j) i) ≤ 65535 := by unfold wr; omega
  exact ⟨hl, hl, this, this⟩
theorem phL_p {i : Nat} (h : i < (phL t v loud e slips j).length) : ((phL t v loud e slips j).getD i zSm).p = wr (phA t v (slF e slips j) i) := by
  unfold phL at h ⊢
  rw [phN_len] at h
  rw [phN_at h]; rfl
theorem timT_bd (h : TrU t) : ∀ i : Nat, 0 ≤ timT t i ∧ timT t i ≤ 2441 * (i : Int)
  | 0 => ⟨Int.le_refl _, Int.le_refl _⟩
  | i + 1 => by
    have ih := timT_bd h i
    have h1 := h.first
    have h2 : 0 ≤ timU t i ∧ timU t i ≤ 2441 := by
      unfold timU
      split
      · rename_i q
        have := h.two (by omega)
        omega
      · omega
    show 0 ≤ timT t i + timU t i ∧ timT t i + timU t i ≤ 2441 * ((i + 1 : Nat) : Int)
    omega
end
/-- The receiver of the law. -/
def rcU (x : UX) : Recv := ⟨0, slipU x, 0,0⟩
theorem rcU_ok {x : UX} (h : UXok x) : recvOk (rcU x) := by
  have := slipU_bd h
  unfold rcU recvOk
  dsimp only
  omega
def smU (x : UX) (k : Nat) : List Sample := phL (trU x) (spdU x k) (loudU x k) (slipU x) x.slips (7 * k)
def ecU (x : UX) (k : Nat) : Echo := hearX (trU x) (rcU x) (smU x k)
theorem hearE_U {x : UX} (h : UXok x) (k : Nat) : hearE (trU x) (rcU x) (smU x k) = 0 := by
  have hT := trU_ok h
  have hl := loudU_bd h k
  unfold hearE
  rw [hT.e, if_neg (fun q => q rfl)]
  have hr : recvE (rcU x) = 0 := if_pos (rcU_ok h)
  rw [hr, if_neg (fun q => q rfl), if_neg (fun q => q (phL_len hT)), if_pos (show ∀ y ∈ smU x k, smpOk y from phL_ok ⟨hl.1, by omega⟩)]
theorem ecU_ok {x : UX} (h : UXok x) (k : Nat) : echoE (ecU x k) = 0 := by
  have hl := loudU_bd h k
  have hT := trU_ok h
  exact hear_ok (rcU_ok h) (by have := phL_len (v := spdU x k) (loud := loudU x k) (e := slipU x) (slips := x.slips) (j := 7 * k) hT; have := hT.count; show 0 < ((phL _ _ _ _ _ _).length : Int); omega) (phL_ok ⟨hl.1, by omega⟩)
/-- What is clear holds the truth. -/
theorem ecU_clr {x : UX} (h : UXok x) {k : Nat} (hk : (ecU x k).kind = 3) : ClrE (trU x) (ecU x k) ∧ ∃ g, g ∈ gsL (trU x) (ecU x k) 60000 ∧ g.s.lo ≤ spdU x k ∧ spdU x k ≤ g.s.hi := by
  have hT := trU_ok h
  have hl := loudU_bd h k
  have hs := slipU_bd h
  obtain ⟨a, b, c⟩ := hear_clr (v := spdU x k) (sl := slF (slipU x) x.slips (7 * k)) hT (rcU_ok h) hs.1 (phL_len hT) (phL_ok ⟨hl.1, by omega⟩) (fun i hi => phL_p hi) (fun i => slF_bd hs.1 _ i) hk
  exact ⟨a, gs_truth hT a (spdU_bd h k) b c⟩
end Go.Proofs.YtffbohecdocajaaGreat

namespace Go.Proofs.YtffbohecdocajaaGreat
open Go.SL Go.Proofs Go.Pulse
set_option linter.unusedVariables false
/-- A slice of slices: one of its elements, as it lies. -/
structure TopY where
  p : Option Addr
  n : Nat
  c : Nat
def zTY : TopY := ⟨none, 0,0⟩
abbrev tpC (q : TopY) : List Value := [.slice q.p q.n q.c]
/-- Guesses, as they lie. -/
structure GsY where
  l : List Gss
  p : Option Addr
  c : Nat
def zGs : GsY := ⟨[], none, 0⟩
abbrev gsC (g : GsY) : List Value := [.slice g.p g.l.length g.c]
abbrev gOwn (g : GsY) : Res := own 80 4 g.p g.c (g.l.map gssC)
structure GRowY where
  l : List GsY
  p : Option Addr
  c : Nat
def zGR : GRowY := ⟨[], none, 0⟩
abbrev grC (r : GRowY) : List Value := [.slice r.p r.l.length r.c]
abbrev grOwn (r : GRowY) : Res := own 71 1 r.p r.c (r.l.map gsC)
def gAt (A : List GRowY) (a i : Nat) : GsY := (A.getD a zGR).l.getD i zGs
/-- What is found at a gate, as it lies. -/
structure FndY where
  st : Int
  l : List Gss
  p : Option Addr
  c : Nat
def zFn : FndY := ⟨0, [], none, 0⟩
abbrev fnC (f : FndY) : List Value := [.int .i64 f.st, .slice f.p f.l.length f.c]
abbrev fOwn (f : FndY) : Res := own 80 4 f.p f.c (f.l.map gssC)
structure FRowY where
  l : List FndY
  p : Option Addr
  c : Nat
def zFR : FRowY := ⟨[], none, 0⟩
abbrev frC (r : FRowY) : List Value := [.slice r.p r.l.length r.c]
abbrev frOwn (r : FRowY) : Res := own 73 2 r.p r.c (r.l.map fnC)
def fAt (A : List FRowY) (a i : Nat) : FndY := (A.getD a zFR).l.getD i zFn
def xAt (rs : List ERow) (a i : Nat) : Echo := (rs.getD a zRE).l.getD i zE
theorem bag_snoc {α : Type} {f : α → Res} {β : Bs} {L : List Res} {w : World} {a : α} {l : List α} (h : St β (f a :: bagD (l.map f) :: L) w) : St β (bagD ((l ++ [a]).map f) :: L) w := by
  rw [List.map_append]
  exact St.unfocus (A := l.map f) (B := []) (by rw [List.append_nil]; exact h)
/-- What a gate has behind the first loop. -/
structure CellU (t : Train) (x : Echo) (s : SpY) (g : GsY) (ss : List SpY) (gg : List GsY) : Prop where
  y : x.kind = 3 → g.l = gsL t x 60000 ∧ UnP ((gsL t x 60000).map (·.s)) s.l ∧ s ∈ ss ∧ g ∈ gg
  n : ¬ x.kind = 3 → s = zSY ∧ g = zGs
theorem CellU.mono {t : Train} {x : Echo} {s : SpY} {g : GsY} {ss ss2 : List SpY} {gg gg2 : List GsY} (h : CellU t x s g ss gg) (h1 : ∀ y, y ∈ ss → y ∈ ss2) (h2 : ∀ y, y ∈ gg → y ∈ gg2) : CellU t x s g ss2 gg2 :=
  ⟨fun k => by obtain ⟨a, b, c, d⟩ := h.y k; exact ⟨a, b, h1 _ c, h2 _ d⟩, h.n⟩
/-- A row, up to a gate. -/
structure RowU (t : Train) (xs : List Echo) (G i : Nat) (cs : List SpY) (gs : List GsY) (ss : List SpY) (gg : List GsY) : Prop where
  cl : cs.length = G
  gl : gs.length = G
  d : ∀ k, k < i → CellU t (xs.getD k zE) (cs.getD k zSY) (gs.getD k zGs) ss gg
  r : ∀ k, i ≤ k → cs.getD k zSY = zSY ∧ gs.getD k zGs = zGs
theorem RowU.zero (t : Train) (xs : List Echo) (G : Nat) (ss : List SpY) (gg : List GsY) : RowU t xs G 0 (List.replicate G zSY) (List.replicate G zGs) ss gg :=
  ⟨List.length_replicate, List.length_replicate, fun k hk => absurd hk (Nat.not_lt_zero _), fun k _ => by
    have e : ∀ {α : Type} (z : α), (List.replicate G z).getD k z = z := fun z => by
      rw [List.getD_eq_getElem?_getD, List.getElem?_replicate]
      split <;> rfl
    exact ⟨e _, e _⟩⟩
variable {t : Train} {xs : List Echo} {G i : Nat} {cs ss : List SpY} {gs gg : List GsY} {s : SpY} {g : GsY}
theorem RowU.skip (h : RowU t xs G i cs gs ss gg) (hk : ¬ (xs.getD i zE).kind = 3) : RowU t xs G (i + 1) cs gs ss gg :=
  ⟨h.cl, h.gl, fun k hk2 => by
    by_cases q : k = i
    · subst q; exact ⟨fun z => absurd z hk, fun _ => h.r k (Nat.le_refl _)⟩
    · exact h.d k (by omega), fun k hk2 => h.r k (by omega)⟩
theorem RowU.put (h : RowU t xs G i cs gs ss gg) (hi : i < G) (hk : (xs.getD i zE).kind = 3) (hg : g.l = gsL t (xs.getD i zE) 60000) (hs : UnP ((gsL t (xs.getD i zE) 60000).map (·.s)) s.l) : RowU t xs G (i + 1) (cs.set i s) (gs.set i g) (s :: ss) (g :: gg) := by
  refine ⟨by rw [List.length_set]; exact h.cl, by rw [List.length_set]; exact h.gl, fun k hk2 => ?_, fun k hk2 => ?_⟩
  · rw [getD_setR, getD_setR]
    by_cases q : k = i
    · subst q
      rw [if_pos ⟨rfl, by rw [h.cl]; exact hi⟩, if_pos ⟨rfl, by rw [h.gl]; exact hi⟩]
      exact ⟨fun _ => ⟨hg, hs, List.mem_cons_self, List.mem_cons_self⟩, fun z => absurd hk z⟩
    · rw [if_neg (fun z => q z.1.symm), if_neg (fun z => q z.1.symm)]
      exact (h.d k (by omega)).mono (fun _ => List.mem_cons_of_mem _) (fun _ => List.mem_cons_of_mem _)
  · rw [getD_setR, getD_setR, if_neg (fun z => by omega), if_neg (fun z => by omega)]
    exact h.r k (by omega)
/-- The rows, up to one. -/
structure PhU (t : Train) (rs : List ERow) (G n : Nat) (Ms : List RowY) (Gs : List GRowY) (ts ta : List TopY) (ss : List SpY) (gg : List GsY) : Prop where
  ml : Ms.length = n
  gl : Gs.length = n
  tl : ts.length = 4
  al : ta.length = 4
  tp : ∀ a, a < n → ts.getD a zTY = ⟨(Ms.getD a zRY).p, (Ms.getD a zRY).l.length, (Ms.getD a zRY).c⟩
  ap : ∀ a, a < n → ta.getD a zTY = ⟨(Gs.getD a zGR).p, (Gs.getD a zGR).l.length, (Gs.getD a zGR).c⟩
  r : ∀ a, a < n → RowU t (rs.getD a zRE).l G G (Ms.getD a zRY).l (Gs.getD a zGR).l ss gg
theorem PhU.zero (t : Train) (rs : List ERow) (G : Nat) : PhU t rs G 0 [] [] (List.replicate 4 zTY) (List.replicate 4 zTY) [] [] :=
  ⟨rfl, rfl, rfl, rfl, fun a h => absurd h (Nat.not_lt_zero _), fun a h => absurd h (Nat.not_lt_zero _), fun a h => absurd h (Nat.not_lt_zero _)⟩
theorem RowU.mono {ss2 : List SpY} {gg2 : List GsY} (h : RowU t xs G i cs gs ss gg) (h1 : ∀ y, y ∈ ss → y ∈ ss2) (h2 : ∀ y, y ∈ gg → y ∈ gg2) : RowU t xs G i cs gs ss2 gg2 := ⟨h.cl, h.gl, fun k hk => (h.d k hk).mono h1 h2, h.r⟩
theorem getD_snoc {α : Type} {l : List α} {x d : α} {a : Nat} : (l ++ [x]).getD a d = if a = l.length then x else l.getD a d := by
  rw [List.getD_eq_getElem?_getD, List.getD_eq_getElem?_getD]
  by_cases h : a = l.length
  · subst h; rw [if_pos rfl, List.getElem?_append_right (Nat.le_refl _), Nat.sub_self]; rfl
  · rw [if_neg h]
    rcases Nat.lt_or_ge a l.length with q | q
    · rw [List.getElem?_append_left q]
    · rw [List.getElem?_eq_none (by rw [List.length_append]; simp only [List.length_singleton]; omega), List.getElem?_eq_none q]
theorem PhU.next {rs : List ERow} {n : Nat} {Ms : List RowY} {Gs : List GRowY} {ts ta : List TopY} {ss2 : List SpY} {gg2 : List GsY} {p q : Option Addr} {c d : Nat} (h : PhU t rs G n Ms Gs ts ta ss gg) (hn : n < 4) (hr : RowU t (rs.getD n zRE).l G G cs gs ss2 gg2) (h1 : ∀ y, y ∈ ss → y ∈ ss2) (h2 : ∀ y, y ∈ gg → y ∈ gg2) :
    PhU t rs G (n + 1) (Ms ++ [⟨cs, p, c⟩]) (Gs ++ [⟨gs, q, d⟩]) (ts.set n ⟨p, G, c⟩) (ta.set n ⟨q, G, d⟩) ss2 gg2 := by
  refine ⟨by rw [List.length_append, h.ml]; rfl, by rw [List.length_append, h.gl]; rfl, by rw [List.length_set]; exact h.tl, by rw [List.length_set]; exact h.al, fun a ha => ?_, fun a ha => ?_, fun a ha => ?_⟩
  · rw [getD_setR, getD_snoc, h.ml]
    by_cases e : a = n
    · subst e; rw [if_pos ⟨rfl, by rw [h.tl]; exact hn⟩, if_pos rfl, hr.cl]
    · rw [if_neg (fun z => e z.1.symm), if_neg e]; exact h.tp a (by omega)
  · rw [getD_setR, getD_snoc, h.gl]
    by_cases e : a = n
    · subst e; rw [if_pos ⟨rfl, by rw [h.al]; exact hn⟩, if_pos rfl, hr.gl]
    · rw [if_neg (fun z => e z.1.symm), if_neg e]; exact h.ap a (by omega)
  · rw [getD_snoc, getD_snoc, h.ml, h.gl]
    by_cases e : a = n
    · subst e; rw [if_pos rfl, if_pos rfl]; exact hr
    · rw [if_neg e, if_neg e]; exact (h.r a (by omega)).mono h1 h2
theorem tops_eq {α : Type} {f : α → TopY} {l : List α} {ts : List TopY} {z : α} (hl : ts.length = l.length) (h : ∀ a, a < l.length → ts.getD a zTY = f (l.getD a z)) : ts.map tpC = l.map fun r => tpC (f r) := by
  refine List.ext_getElem (by rw [List.length_map, List.length_map, hl]) fun k h1 h2 => ?_
  rw [List.length_map] at h1 h2
  have e := h k h2
  rw [List.getD_eq_getElem?_getD, List.getElem?_eq_getElem h1, List.getD_eq_getElem?_getD, List.getElem?_eq_getElem h2] at e
  rw [List.getElem_map, List.getElem_map]
  exact congrArg tpC e
theorem PhU.tops {rs : List ERow} {Ms : List RowY} {Gs : List GRowY} {ts ta : List TopY} (h : PhU t rs G 4 Ms Gs ts ta ss gg) : ts.map tpC = Ms.map rowC ∧ ta.map tpC = Gs.map grC :=
  ⟨tops_eq (f := fun r : RowY => ⟨r.p, r.l.length, r.c⟩) (z := zRY) (by rw [h.tl, h.ml]) (fun a ha => h.tp a (by rw [← h.ml]; exact ha)), tops_eq (f := fun r : GRowY => ⟨r.p, r.l.length, r.c⟩) (z := zGR) (by rw [h.al, h.gl]) (fun a ha => h.ap a (by rw [← h.gl]; exact ha))⟩
/-- What the law's sweep has. -/
structure SwU (t : Train) (rs : List ERow) (G : Nat) (jump : Int) (v : Nat → Nat → Int) : Prop where
  tr : TrU t
  n : rs.length = 4
  row : ∀ a, a < 4 → (rs.getD a zRE).l.length = G
  clr : ∀ a i, a < 4 → i < G → (xAt rs a i).kind = 3 → ClrE t (xAt rs a i) ∧ ∃ g, g ∈ gsL t (xAt rs a i) 60000 ∧ g.s.lo ≤ v a i ∧ v a i ≤ g.s.hi
  d : ∀ a i b k, -jump ≤ v a i - v b k ∧ v a i - v b k ≤ jump
theorem gs_map {l : List Gss} (h : gsOk l) : bdS 60000 (l.map (·.s)) ∧ valS (l.map (·.s)) := by
  refine ⟨fun s hs => ?_, fun s hs => ?_⟩ <;> (obtain ⟨g, hg, rfl⟩ := List.mem_map.1 hs; have := h g hg)
  · omega
  · omega
theorem un_bd {l u : List Span} (hl : bdS 60000 l) (hu : UnP l u) : bdS 60000 u := bdS_sub hl hu.c fun z hz => (hu.m z).1 hz
theorem PhU.cell {rs : List ERow} {Ms : List RowY} {Gs : List GRowY} {ts ta : List TopY} {n a i : Nat} (h : PhU t rs G n Ms Gs ts ta ss gg) (ha : a < n) (hi : i < G) : CellU t (xAt rs a i) (setAt Ms a i) (gAt Gs a i) ss gg := (h.r a ha).d i hi
theorem PhU.set {rs : List ERow} {Ms : List RowY} {Gs : List GRowY} {ts ta : List TopY} {jump : Int} {v : Nat → Nat → Int} {w : World} (h : PhU t rs G 4 Ms Gs ts ta ss gg) (hS : SwU t rs G jump v) (hm : ∀ s, s ∈ ss → Spans w s.p s.l) : SetOk w v G jump Ms := by
  have key : ∀ a i, a < Ms.length → i < G → (CanS (setAt Ms a i).l ∧ bdS 60000 (setAt Ms a i).l) ∧ Spans w (setAt Ms a i).p (setAt Ms a i).l ∧ (0 < (setAt Ms a i).l.length → memH (setAt Ms a i).l (2 * v a i)) := fun a i ha hi => by
    have ha4 : a < 4 := by rw [← h.ml]; exact ha
    have c := h.cell ha4 hi
    by_cases hk : (xAt rs a i).kind = 3
    · obtain ⟨c1, c2, c3, c4⟩ := c.y hk
      obtain ⟨hc, g, hg, h1, h2⟩ := hS.clr a i ha4 hi hk
      have hb := (gs_map (gsL_ok hS.tr hc)).1
      exact ⟨⟨c2.c, un_bd hb c2⟩, hm _ c3, fun _ => (c2.m _).2 ⟨g.s, List.mem_map_of_mem hg, by omega, by omega⟩⟩
    · rw [(c.n hk).1]
      exact ⟨⟨⟨fun s hs => (by cases hs), List.Pairwise.nil⟩, fun s hs => (by cases hs)⟩, ⟨fun j r hr => by simp [zSY] at hr, fun _ => rfl, fun _ a ha => by cases ha⟩, fun q => absurd q (Nat.lt_irrefl _)⟩
  exact ⟨fun a i ha hi => (key a i ha hi).1, fun a i ha hi => (key a i ha hi).2.1, fun a i ha hi => (key a i ha hi).2.2, hS.d⟩
/-- What is found at a gate. -/
structure FndOk (t : Train) (x : Echo) (v : Int) (f : FndY) : Prop where
  y : x.kind = 3 → (∃ set, LefI set (gsL t x 60000) f.l ∧ memH set (2 * v)) ∧ f.st = stO f.l
  n : ¬ x.kind = 3 → f.st = 1 ∧ f.l = []
structure UnfP (t : Train) (rs : List ERow) (G n : Nat) (v : Nat → Nat → Int) (FR : List FRowY) (fs : List FndY) : Prop where
  len : FR.length = n
  row : ∀ a, a < n → (FR.getD a zFR).l.length = G
  at_ : ∀ a i, a < n → i < G → FndOk t (xAt rs a i) (v a i) (fAt FR a i) ∧ (fAt FR a i ∈ fs ∨ (fAt FR a i).l = [])
end Go.Proofs.YtffbohecdocajaaGreat

namespace Go.Proofs.YtffbohecdocajaaGreat
open Go.SL Go.Proofs Go.Pulse
set_option linter.unusedVariables false

theorem A62 : IsAgg Tryz.prog 62 11 := ⟨⟨_, Tryz.underlying62, rfl⟩, by kernel_rfl⟩
theorem C14 : IsFn Tryz.prog 14 := ⟨_, Tryz.func14, by decide, rfl⟩
theorem C56 : IsFn Tryz.prog 56 := ⟨_, Tryz.func56, by decide, rfl⟩
theorem C57 : IsFn Tryz.prog 57 := ⟨_, Tryz.func57, by decide, rfl⟩
theorem S182 : IsSlice Tryz.prog 182 184 := Tryz.underlying182
theorem I184 : EInfo Tryz.prog 184 1 24 (.slice none 0 0) := ⟨by kernel_rfl, by kernel_rfl, by unfold ZeroOf; kernel_rfl, rfl, by decide⟩
theorem S184 : IsSlice Tryz.prog 184 71 := Tryz.underlying184
theorem I71 : EInfo Tryz.prog 71 1 24 (.slice none 0 0) := ⟨by kernel_rfl, by kernel_rfl, by unfold ZeroOf; kernel_rfl, rfl, by decide⟩
theorem N184 : (Tryz.prog.info? 184).map (·.size) = some 1 := by kernel_rfl
theorem C58 : IsFn Tryz.prog 58 := ⟨_, Tryz.func58, by decide, rfl⟩
theorem O184 : IsOne Tryz.prog 184 := ⟨⟨_, Tryz.underlying184, rfl⟩, by kernel_rfl⟩
theorem N71 : (Tryz.prog.info? 71).map (·.size) = some 1 := by kernel_rfl
theorem C60 : IsFn Tryz.prog 60 := ⟨_, Tryz.func60, by decide, rfl⟩
theorem S67 : IsSlice Tryz.prog 67 70 := Tryz.underlying67
theorem I70 : EInfo Tryz.prog 70 1 24 (.slice none 0 0) := ⟨by kernel_rfl, by kernel_rfl, by unfold ZeroOf; kernel_rfl, rfl, by decide⟩
theorem O71 : IsOne Tryz.prog 71 := ⟨⟨_, Tryz.underlying71, rfl⟩, by kernel_rfl⟩
theorem C61 : IsFn Tryz.prog 61 := ⟨_, Tryz.func61, by decide, rfl⟩
theorem N70 : (Tryz.prog.info? 70).map (·.size) = some 1 := by kernel_rfl
theorem O70 : IsOne Tryz.prog 70 := ⟨⟨_, Tryz.underlying70, rfl⟩, by kernel_rfl⟩
theorem S70 : IsSlice Tryz.prog 70 73 := Tryz.underlying70
theorem I73 : EInfo Tryz.prog 73 2 32 (.agg #[.int .i64 0, .slice none 0 0]) := ⟨by kernel_rfl, by kernel_rfl, by unfold ZeroOf; kernel_rfl, rfl, by decide⟩


theorem gsL_len {t : Train} {x : Echo} : (gsL t x 60000).length ≤ 20000 := by
  have h0 := lst_len (t := t) (x := x) (wh := 0) (most := 60000)
  have h1 := lst_len (t := t) (x := x) (wh := 1) (most := 60000)
  have key : ∀ l : List Opt, (l.flatMap (gsR (lstV t x 1 60000))).length ≤ l.length * 129 := fun l => by
    induction l with
    | nil => exact Nat.le_refl _
    | cons a l ih =>
      have h2 : (gsR (lstV t x 1 60000) a).length ≤ 129 := Nat.le_trans (List.length_filterMap_le _ _) h1
      rw [List.flatMap_cons, List.length_append, List.length_cons, Nat.add_mul]; omega
  unfold gsL
  split
  · rw [List.length_map]; omega
  · have := key (lstV t x 0 60000); omega
theorem mapTakeD {α β : Type} {f : α → β} {l : List α} {z : α} {i : Nat} (hi : i < l.length) : (l.take i).map f ++ [f (l.getD i z)] = (l.take (i + 1)).map f := by
  rw [List.take_succ_eq_append_getElem hi, List.map_append, List.getD_eq_getElem?_getD, List.getElem?_eq_getElem hi]; rfl
theorem settle_n (n : Nat) (M : List RowY) (G : Nat) (jump bridge : Int) (v : Nat → Nat → Int) (p : Option Addr) (c : Nat) (w : World) (hMn : M.length = n) (hn : 1 ≤ n ∧ n ≤ 4) (hG : ∀ r, r ∈ M → r.l.length = G) (hG3 : G ≤ 3) (hj : 0 ≤ jump ∧ jump ≤ 10000) (hb : 1 ≤ bridge ∧ bridge ≤ 3) (hM : MatY w p M) (hS : SetOk w v G jump M) :
  Calls Tryz.prog 60 #[.slice p n c, .int .i64 jump, .int .i64 bridge] w fun e w' => ∃ y : (Option Addr × Nat) × List RowY × List SpY, SetlP v G M y.2.1 y.2.2 ∧ e = .returned (.slice y.1.1 y.2.1.length y.1.2) ∧ St (bs w) [own 183 1 y.1.1 y.1.2 (y.2.1.map rowC), bagD (y.2.1.map rOwn), bagD (y.2.2.map spOwn)] w' := by
  subst hMn
  exact settle_c M G jump bridge v p c w hn hG hG3 hj hb hM hS
theorem CheckSweep_4 (s : Site) (ti tm : Int) (rs : List ERow) (p : Option Addr) (c : Nat) (w : World) (hn : rs.length = 4) (hm : ∀ x ∈ rs, x.l.length ≤ 60) (hl : ERows w p rs) (h0 : sweepE s ti tm rs = 0) :
  Calls Tryz.prog 14 #[.agg (sweepC s ti tm p 4 c).toArray] w fun e w' => e = .returned (.int .i64 0) ∧ St (bs w) [] w' := by
  have h := CheckSweep_c s ti tm rs p c w (by omega) hm hl
  rw [h0, hn] at h
  exact h
theorem PhU.rowlen {t : Train} {rs : List ERow} {G n : Nat} {Ms : List RowY} {Gs : List GRowY} {ts ta : List TopY} {ss : List SpY} {gg : List GsY} (h : PhU t rs G n Ms Gs ts ta ss gg) : ∀ r, r ∈ Ms → r.l.length = G := fun r hr => by
  obtain ⟨i, hi, rfl⟩ := mem_getD (d := zRY) hr
  exact (h.r i (by rw [← h.ml]; exact hi)).cl
theorem PhU.tru {t : Train} {rs : List ERow} {G : Nat} {Ms : List RowY} {Gs : List GRowY} {ts ta : List TopY} {ss : List SpY} {gg : List GsY} {jump : Int} {v : Nat → Nat → Int} (h : PhU t rs G 4 Ms Gs ts ta ss gg) (hS : SwU t rs G jump v) {a i : Nat} (ha : a < 4) (hi : i < G) (hk : (xAt rs a i).kind = 3) : memH (setAt Ms a i).l (2 * v a i) := by
  obtain ⟨c1, c2, c3, c4⟩ := (h.cell ha hi).y hk
  obtain ⟨hc, g, hg, h1, h2⟩ := hS.clr a i ha hi hk
  exact (c2.m _).2 ⟨g.s, List.mem_map_of_mem hg, by omega, by omega⟩

theorem PhU.lies {t : Train} {rs : List ERow} {G : Nat} {Ms M3 : List RowY} {Gs : List GRowY} {ts ta : List TopY} {ss ss3 : List SpY} {gg : List GsY} {jump : Int} {v : Nat → Nat → Int} {w : World} (h : PhU t rs G 4 Ms Gs ts ta ss gg) (hS : SwU t rs G jump v) (hy : SetlP v G Ms M3 ss3) (h1 : ∀ s, s ∈ ss → Spans w s.p s.l) (h2 : ∀ s, s ∈ ss3 → Spans w s.p s.l) {a i : Nat} (ha : a < 4) (hi : i < G) : Spans w (setAt M3 a i).p (setAt M3 a i).l := by
  rcases hy.m a i (by rw [h.ml]; exact ha) hi with q | q
  · rw [q]
    exact (h.set hS h1).m a i (by rw [h.ml]; exact ha) hi
  · exact h2 _ q
theorem fnd_next {FR : List FRowY} {fl : List FndY} {ts : List TopY} {p : Option Addr} {c n : Nat} (hn : FR.length = n) (hl : ts.length = 4) (h4 : n < 4) (h : ∀ a, a < n → ts.getD a zTY = ⟨(FR.getD a zFR).p, (FR.getD a zFR).l.length, (FR.getD a zFR).c⟩) (hc : ts.getD n zTY = ⟨p, fl.length, c⟩) :
    ∀ a, a < n + 1 → ts.getD a zTY = ⟨((FR ++ [(⟨fl, p, c⟩ : FRowY)]).getD a zFR).p, ((FR ++ [(⟨fl, p, c⟩ : FRowY)]).getD a zFR).l.length, ((FR ++ [(⟨fl, p, c⟩ : FRowY)]).getD a zFR).c⟩ := fun a ha => by
  rw [getD_snoc, hn]
  by_cases e : a = n
  · rw [if_pos e, e]; exact hc
  · rw [if_neg e]; exact h a (by omega)
/-- A row of what is found, up to a gate. -/
structure FRowU (t : Train) (xs : List Echo) (v : Nat → Int) (i : Nat) (fl : List FndY) (fs : List FndY) : Prop where
  l : fl.length = i
  d : ∀ k, k < i → FndOk t (xs.getD k zE) (v k) (fl.getD k zFn) ∧ (fl.getD k zFn ∈ fs ∨ (fl.getD k zFn).l = [])
theorem FRowU.put {t : Train} {xs : List Echo} {v : Nat → Int} {i : Nat} {fl fs fs2 : List FndY} {f : FndY} (h : FRowU t xs v i fl fs) (hs : ∀ y, y ∈ fs → y ∈ fs2) (hf : FndOk t (xs.getD i zE) (v i) f) (hm : f ∈ fs2 ∨ f.l = []) : FRowU t xs v (i + 1) (fl ++ [f]) fs2 :=
  ⟨by rw [List.length_append, h.l]; rfl, fun k hk => by
    rw [getD_snoc, h.l]
    by_cases e : k = i
    · subst e; rw [if_pos rfl]; exact ⟨hf, hm⟩
    · rw [if_neg e]
      exact ⟨(h.d k (by omega)).1, (h.d k (by omega)).2.imp (hs _) id⟩⟩
structure FTopU (t : Train) (rs : List ERow) (G n : Nat) (v : Nat → Nat → Int) (FR : List FRowY) (tf : List TopY) (fs : List FndY) : Prop where
  u : UnfP t rs G n v FR fs
  tl : tf.length = 4
  tp : ∀ a, a < n → tf.getD a zTY = ⟨(FR.getD a zFR).p, (FR.getD a zFR).l.length, (FR.getD a zFR).c⟩
  tz : ∀ a, n ≤ a → tf.getD a zTY = zTY
theorem FTopU.zero (t : Train) (rs : List ERow) (G : Nat) (v : Nat → Nat → Int) : FTopU t rs G 0 v [] (List.replicate 4 zTY) [] :=
  ⟨⟨rfl, fun a h => absurd h (Nat.not_lt_zero _), fun a i h => absurd h (Nat.not_lt_zero _)⟩, rfl, fun a h => absurd h (Nat.not_lt_zero _), fun a _ => by
    rw [List.getD_eq_getElem?_getD, List.getElem?_replicate]; split <;> rfl⟩
theorem FTopU.next {t : Train} {rs : List ERow} {G n : Nat} {v : Nat → Nat → Int} {FR : List FRowY} {tf tf2 : List TopY} {fs fs2 fl : List FndY} {p : Option Addr} {c : Nat} (h : FTopU t rs G n v FR tf fs) (hn : n < 4) (hr : FRowU t (rs.getD n zRE).l (v n) G fl fs2) (hs : ∀ y, y ∈ fs → y ∈ fs2)
    (h2 : tf2.length = 4) (h3 : ∀ a, ¬ a = n → tf2.getD a zTY = tf.getD a zTY) (h4 : tf2.getD n zTY = ⟨p, fl.length, c⟩) : FTopU t rs G (n + 1) v (FR ++ [⟨fl, p, c⟩]) tf2 fs2 := by
  have hl := h.u.len
  refine ⟨⟨by rw [List.length_append, hl]; rfl, fun a ha => ?_, fun a i ha hi => ?_⟩, h2, fnd_next hl h2 hn (fun a ha => by rw [h3 a (by omega)]; exact h.tp a ha) h4, fun a ha => by rw [h3 a (by omega)]; exact h.tz a (by omega)⟩
  · rw [getD_snoc, hl]
    by_cases e : a = n
    · rw [if_pos e]; exact hr.l
    · rw [if_neg e]; exact h.u.row a (by omega)
  · have e : fAt (FR ++ [(⟨fl, p, c⟩ : FRowY)]) a i = if a = n then fl.getD i zFn else fAt FR a i := by
      unfold fAt
      rw [getD_snoc, hl]
      by_cases e : a = n
      · rw [if_pos e, if_pos e]
      · rw [if_neg e, if_neg e]
    rw [e]
    by_cases e : a = n
    · subst e; rw [if_pos rfl]; exact hr.d i hi
    · rw [if_neg e]
      exact ⟨(h.u.at_ a i (by omega) hi).1, (h.u.at_ a i (by omega) hi).2.imp (hs _) id⟩
theorem FTopU.tops {t : Train} {rs : List ERow} {G : Nat} {v : Nat → Nat → Int} {FR : List FRowY} {tf : List TopY} {fs : List FndY} (h : FTopU t rs G 4 v FR tf fs) : tf.map tpC = FR.map frC :=
  tops_eq (f := fun r : FRowY => ⟨r.p, r.l.length, r.c⟩) (z := zFR) (by rw [h.tl, h.u.len]) (fun a ha => h.tp a (by rw [← h.u.len]; exact ha))

set_option maxRecDepth 20000 in
theorem bound_c (w : World) :
  Calls Tryz.prog 56 #[.int .i64 60000] w fun e w' => e = .returned (.bool true) ∧ St (bs w) [] w' := by
  refine enter (vs := [_]) (env := [(0,_)]) Tryz.func56 rfl rfl rfl rfl ?_
  refine VC.seq ?_
  refine VC.reg (VO.l (LO.as (.r rfl)) rfl<|VO.nil ?_)
  refine VE.seqN ?_
  refine VC.seq ?_
  refine VC.reg (VO.l (LO.mv (.r rfl)) rfl<|VO.l (LO.ge (.r rfl) (.r rfl)) rfl<|VO.l (LO.mv (.r rfl)) rfl<|VO.lg rfl rfl (GD.t _) (fun hg => LO.mv (.r rfl)) rfl<|VO.lg rfl rfl (GD.t _) (fun hg => LO.le (.g hg rfl) (.r rfl)) rfl<|VO.l (LO.pkA (.r rfl) rfl rfl (.r rfl)) rfl<|VO.l (LO.as (.r rfl)) rfl<|VO.nil ?_)
  refine VE.seqN ?_
  refine VC.ret (VE.res (vs := [_]) rfl ⟨rfl, trivial⟩ (fun w hw => ?_))
  exact ⟨rfl, hw.nil⟩

set_option maxRecDepth 20000 in
theorem limited_c (j b : Int) (w : World) (hj : 0 ≤ j ∧ j ≤ 10000) (hb : 1 ≤ b ∧ b ≤ 3) :
  Calls Tryz.prog 57 #[.int .i64 j, .int .i64 b] w fun e w' => e = .returned (.int .i64 0) ∧ St (bs w) [] w' := by
  refine enter (vs := [_,_]) (env := [(0,_), (1,_)]) Tryz.func57 rfl rfl rfl rfl ?_
  refine VC.seq ?_
  refine VC.reg (VO.l (LO.as (.r rfl)) rfl<|VO.nil ?_)
  refine VE.seqN ?_
  refine VC.seq ?_
  refine VC.seq ?_
  refine VC.reg (VO.l (LO.mv (.r rfl)) rfl<|VO.l (LO.lt (.r rfl) (.r rfl)) rfl<|VO.l (LO.mv (.r rfl)) rfl<|VO.lg rfl rfl (GD.f _) (fun hg => LO.mv (.r rfl)) rfl<|VO.lg rfl rfl (GD.f _) (fun hg => LO.gt (.g hg rfl) (.r rfl)) rfl<|VO.l (LO.pkO (.r rfl) (.r rfl) rfl rfl) rfl<|VO.l (LO.mv (.r rfl)) rfl<|VO.lg rfl rfl (GD.f _) (fun hg => LO.mv (.r rfl)) rfl<|VO.lg rfl rfl (GD.f _) (fun hg => LO.lt (.g hg rfl) (.r rfl)) rfl<|VO.l (LO.pkO (.r rfl) (.r rfl) rfl rfl) rfl<|VO.l (LO.mv (.r rfl)) rfl<|VO.lg rfl rfl (GD.f _) (fun hg => LO.mv (.r rfl)) rfl<|VO.lg rfl rfl (GD.f _) (fun hg => LO.gt (.g hg rfl) (.r rfl)) rfl<|VO.l (LO.pkO (.r rfl) (.r rfl) rfl rfl) rfl<|VO.nil ?_)
  refine VE.seqN ?_
  refine VC.cond rfl (fun h18 => ?_) (fun h18 => ?_)
  ·
    (exfalso; omega)
  ·
    refine VC.skip (VE.seqN ?_)
    refine VC.seq ?_
    refine VC.reg (VO.l (LO.as (.r rfl)) rfl<|VO.nil ?_)
    refine VE.seqN ?_
    refine VC.ret (VE.res (vs := [_]) rfl ⟨rfl, trivial⟩ (fun w hw => ?_))
    exact ⟨rfl, hw.nil⟩

set_option maxRecDepth 20000 in
set_option maxHeartbeats 8000000 in
theorem Unfold_c (t : Train) (s : Site) (ti tm : Int) (rs : List ERow) (G : Nat) (jump bridge : Int) (v : Nat → Nat → Int) (p : Option Addr) (c : Nat) (w : World) (hS : SwU t rs G jump v) (hsw : sweepE s ti tm rs = 0) (hG1 : 1 ≤ G ∧ G ≤ 3) (hj : 0 ≤ jump ∧ jump ≤ 10000) (hb : 1 ≤ bridge ∧ bridge ≤ 3) (hl : ERows w p rs) :
  Calls Tryz.prog 15 #[trainV t, .agg (sweepC s ti tm p 4 c).toArray, .int .i64 60000, .int .i64 jump, .int .i64 bridge] w fun e w' => ∃ y : (Option Addr × Nat) × List FRowY × List FndY, UnfP t rs G 4 v y.2.1 y.2.2 ∧ e = .returned (.tuple #[.slice y.1.1 4 y.1.2, .int .i64 0]) ∧ St (bs w) [own 70 1 y.1.1 y.1.2 (y.2.1.map frC), bagD (y.2.1.map frOwn), bagD (y.2.2.map fOwn)] w' := by
  have hrl : rs.length = 4 := hS.n
  have h60 : ∀ x ∈ rs, x.l.length ≤ 60 := fun x hx => by obtain ⟨k, hk, rfl⟩ := mem_getD (d := zRE) hx; rw [hS.row k (by omega)]; omega
  refine enter (vs := [_,_,_,_,_]) (env := [(0,_), (1,_), (2,_), (3,_), (4,_)]) Tryz.func15 rfl rfl rfl rfl ?_
  refine VC.seq ?_
  refine VC.reg (VO.h rfl<|HO.box (C := #[_,_,_,_,_]) rfl rfl fun b1 => VO.h rfl<|HO.box (C := #[_,_,_,_,_,_,_,_,_,_,_]) rfl rfl fun b2 => VO.l (LO.as (.r rfl)) rfl<|VO.l (LO.as (.r rfl)) rfl<|VO.nil ?_)
  refine VE.seqN ?_
  refine VC.seq ?_
  refine VC.seq ?_
  refine VC.reg (VO.l (LO.lda (vs := [_,_,_,_,_]) A23 (.r rfl) (fun _ hw => cells_at hw 1 rfl ⟨_, rfl⟩) rfl) rfl<|VO.l (LO.call (xs := [_]) (vs := [_]) C45 ⟨(.r rfl), trivial⟩ (fun w _ => trainP_c t w)) rfl<|VO.l (LO.as (.r rfl)) rfl<|VO.nil ?_)
  refine VE.seqN ?_
  refine VC.seq ?_
  refine VC.reg (VO.l (LO.mv (.r rfl)) rfl<|VO.l (LO.ne (.r rfl) (.r rfl)) rfl<|VO.nil ?_)
  refine VE.seqN ?_
  refine VC.cond rfl (fun h36 => ?_) (fun h36 => ?_)
  ·
    (exfalso; exact h36 hS.tr.e)
  ·
    refine VC.skip (VE.seqN ?_)
    refine VC.seq ?_
    refine VC.seq ?_
    refine VC.reg (VO.l (LO.lda (vs := [_,_,_,_,_,_,_,_,_,_,_]) A62 (.r rfl) (fun _ hw => cells_at hw 0 rfl ⟨_, rfl⟩) rfl) rfl<|VO.l (LO.call (xs := [_]) (vs := [_]) C14 ⟨(.r rfl), trivial⟩ (fun w hw => CheckSweep_4 s ti tm rs p c w hS.n h60 (hl.keep w hw) hsw)) rfl<|VO.l (LO.as (.r rfl)) rfl<|VO.nil ?_)
    refine VE.seqN ?_
    refine VC.seq ?_
    refine VC.reg (VO.l (LO.mv (.r rfl)) rfl<|VO.l (LO.ne (.r rfl) (.r rfl)) rfl<|VO.nil ?_)
    refine VE.seqN ?_
    refine VC.cond rfl (fun h41 => ?_) (fun h41 => ?_)
    ·
      (exfalso; exact h41 rfl)
    ·
      refine VC.skip (VE.seqN ?_)
      refine VC.seq ?_
      refine VC.seq ?_
      refine VC.reg (VO.l (LO.mv (.r rfl)) rfl<|VO.l (LO.call (xs := [_]) (vs := [_]) C56 ⟨(.r rfl), trivial⟩ (fun w _ => bound_c w)) rfl<|VO.l (LO.not (.r rfl)) rfl<|VO.nil ?_)
      refine VE.seqN ?_
      refine VC.cond rfl (fun h45 => ?_) (fun h45 => ?_)
      ·
        (exfalso; simp at h45)
      ·
        refine VC.skip (VE.seqN ?_)
        refine VC.seq ?_
        refine VC.seq ?_
        refine VC.reg (VO.l (LO.mv (.r rfl)) rfl<|VO.l (LO.mv (.r rfl)) rfl<|VO.l (LO.call (xs := [_,_]) (vs := [_,_]) C57 ⟨(.r rfl), (.r rfl), trivial⟩ (fun w _ => limited_c jump bridge w hj hb)) rfl<|VO.l (LO.as (.r rfl)) rfl<|VO.nil ?_)
        refine VE.seqN ?_
        refine VC.seq ?_
        refine VC.reg (VO.l (LO.mv (.r rfl)) rfl<|VO.l (LO.ne (.r rfl) (.r rfl)) rfl<|VO.nil ?_)
        refine VE.seqN ?_
        refine VC.cond rfl (fun h50 => ?_) (fun h50 => ?_)
        ·
          (exfalso; exact h50 rfl)
        ·
          refine VC.skip (VE.seqN ?_)
          refine VC.seq ?_
          refine VC.drawF (G := Nat × Nat) (fun y => [(15, .slice (some ⟨y.1,0, none⟩) 4 4), (16, .slice (some ⟨y.2,0, none⟩) 4 4)]) [(2,_), (3,_), (4,_), (5,_), (6,_)] (fun y => [own 183 1 (some ⟨y.1,0, none⟩) 4 ((List.replicate 4 zTY).map tpC), own 184 1 (some ⟨y.2,0, none⟩) 4 ((List.replicate 4 zTY).map tpC)]) [_,_] (fun y => True) 5 [some 0, some 0, some 0, none, some 0, some 0, some 0, none, none, none] mixed (by kernel_rfl) (LX.l (fun _ hJ => LO.fa (r := 10) F62_3 (.r rfl) rfl) rfl<|LX.l (fun _ hJ => LO.ld O60 (.r rfl) (fun _ hw => cells_at (hJ _ hw) 0 rfl ⟨_, rfl⟩)) rfl<|LX.l (fun _ hJ => LO.len S60 (.r rfl) rfl) rfl<|LX.s<|LX.l (fun _ hJ => LO.fa (r := 10) F62_3 (.r rfl) rfl) rfl<|LX.l (fun _ hJ => LO.ld O60 (.r rfl) (fun _ hw => cells_at (hJ _ hw) 0 rfl ⟨_, rfl⟩)) rfl<|LX.l (fun _ hJ => LO.len S60 (.r rfl) rfl) rfl<|LX.s<|LX.s<|LX.s<|LX.nil) (fun hf => (HE.mk [3,7] (by kernel_rfl) rfl ⟨(HEo.op rfl rfl<|HO.mksM (f := tpC) (z0 := zTY) (n := 4) rfl S181 I183 (.r rfl) (.r rfl) rfl (by decide) (by omega) (by omega) fun b3 => ⟨selK (L1 := [_,_]) [1,2] rfl rfl, (HE.mk [7,8] (by kernel_rfl) rfl ⟨(HEo.op rfl rfl<|HO.mksM (f := tpC) (z0 := zTY) (n := 4) rfl S182 I184 (.r rfl) (.r rfl) rfl (by decide) (by omega) (by omega) fun b4 => ⟨selK (L1 := [_,_]) [2,3] rfl rfl, (HE.mk [8] (by kernel_rfl) rfl ⟨(HEo.op rfl rfl<|HO.lo (LO.as (.r rfl))<|⟨selK (L1 := [_,_]) [2,3] rfl rfl, (HE.mk [9] (by kernel_rfl) rfl ⟨(HEo.op rfl rfl<|HO.lo (LO.as (.r rfl))<|⟨selK (L1 := [_,_]) [2,3] rfl rfl, (HE.fin (by kernel_rfl) (VE.weak (.cons rfl (.cons rfl (.cons rfl (.cons rfl (.cons rfl (.cons rfl (.cons rfl .nil))))))) (selK (L1 := [_,_] ++ [_,_]) [1,0,2,3] rfl rfl) (hf (b3, b4) trivial)))⟩), trivial⟩)⟩), trivial⟩)⟩), (HEo.op rfl rfl<|HO.lo (LO.as (.r rfl))<|⟨selK (L1 := [_,_]) [1,2] rfl rfl, (HE.mk [7] (by kernel_rfl) rfl ⟨(HEo.op rfl rfl<|HO.mksM (f := tpC) (z0 := zTY) (n := 4) rfl S182 I184 (.r rfl) (.r rfl) rfl (by decide) (by omega) (by omega) fun b4 => ⟨selK (L1 := [_,_]) [2,3] rfl rfl, (HE.mk [9] (by kernel_rfl) rfl ⟨(HEo.op rfl rfl<|HO.lo (LO.as (.r rfl))<|⟨selK (L1 := [_,_]) [2,3] rfl rfl, (HE.fin (by kernel_rfl) (VE.weak (.cons rfl (.cons rfl (.cons rfl (.cons rfl (.cons rfl (.cons rfl (.cons rfl .nil))))))) (selK (L1 := [_,_] ++ [_,_]) [1,0,2,3] rfl rfl) (hf (b3, b4) trivial)))⟩), trivial⟩)⟩), trivial⟩)⟩), trivial⟩)⟩), (HEo.op rfl rfl<|HO.mksM (f := tpC) (z0 := zTY) (n := 4) rfl S182 I184 (.r rfl) (.r rfl) rfl (by decide) (by omega) (by omega) fun b3 => ⟨selK (L1 := [_,_]) [1,2] rfl rfl, (HE.mk [3] (by kernel_rfl) rfl ⟨(HEo.op rfl rfl<|HO.mksM (f := tpC) (z0 := zTY) (n := 4) rfl S181 I183 (.r rfl) (.r rfl) rfl (by decide) (by omega) (by omega) fun b4 => ⟨selK (L1 := [_,_]) [2,3] rfl rfl, (HE.mk [8] (by kernel_rfl) rfl ⟨(HEo.op rfl rfl<|HO.lo (LO.as (.r rfl))<|⟨selK (L1 := [_,_]) [2,3] rfl rfl, (HE.mk [9] (by kernel_rfl) rfl ⟨(HEo.op rfl rfl<|HO.lo (LO.as (.r rfl))<|⟨selK (L1 := [_,_]) [2,3] rfl rfl, (HE.fin (by kernel_rfl) (VE.weak (.cons rfl (.cons rfl (.cons rfl (.cons rfl (.cons rfl (.cons rfl (.cons rfl .nil))))))) (selK (L1 := [_,_] ++ [_,_]) [0,1,2,3] rfl rfl) (hf (b4, b3) trivial)))⟩), trivial⟩)⟩), trivial⟩)⟩), trivial⟩)⟩), trivial⟩)) (fun y hy => ?_)

          obtain ⟨yt, rfl⟩ : ∃ yt : Nat × Nat, yt = y := ⟨y, rfl⟩
          refine VE.seqN ?_
          refine VC.seq ?_
          refine VC.seq ?_
          refine VC.reg (VO.l (LO.fa (r := 10) F62_3 (.r rfl) rfl) rfl<|VO.l (LO.ld O60 (.r rfl) (fun _ hw => cells_at hw 2 rfl ⟨_, rfl⟩)) rfl<|VO.l (LO.len S60 (.r rfl) rfl) rfl<|VO.l (LO.mv (.r rfl)) rfl<|VO.nil ?_)
          refine VE.seqN ?_
          refine VC.block ?_
          refine VC.loopK (α := Nat × (List RowY) × (List GRowY) × (List TopY) × (List TopY) × (List SpY) × (List GsY)) 2 (fun gx => [(63, .int .i64 (gx.1 : Nat))]) [(2,_), (3,_), (4,_), (5,_), (6,_), (15,_), (16,_), (61,_), (62,_)] (fun gx => [own 183 1 (some ⟨yt.1,0, none⟩) 4 (gx.2.2.2.1.map tpC), own 184 1 (some ⟨yt.2,0, none⟩) 4 (gx.2.2.2.2.1.map tpC), bagD (gx.2.1.map rOwn), bagD (gx.2.2.1.map grOwn), bagD (gx.2.2.2.2.2.1.map spOwn), bagD (gx.2.2.2.2.2.2.map gOwn)]) (fun gx => gx.1 ≤ 4 ∧ PhU t rs G gx.1 gx.2.1 gx.2.2.1 gx.2.2.2.1 gx.2.2.2.2.1 gx.2.2.2.2.2.1 gx.2.2.2.2.2.2) (fun gx => 4 - gx.1) (0, [], [], List.replicate 4 zTY, List.replicate 4 zTY, [], []) (by exact ⟨by decide, PhU.zero t rs G⟩) (.cons rfl (.cons rfl (.cons rfl (.cons rfl (.cons rfl (.cons rfl (.cons rfl (.cons rfl (.cons rfl (.cons rfl .nil)))))))))) (fun _ h => ((St.bagD (Rs := []) (St.bagD (Rs := []) (St.bagD (Rs := []) (St.bagD (Rs := []) h))))).sel [4,5,0,1,2,3,6,7] rfl) ?_
          rintro ⟨ra, Ms, Gs, ts, ta, ss, gg⟩ ⟨hra, hph⟩
          show VC _ _ _ _ _ ([(63, .int .i64 (ra : Nat))] ++ _) ([own 183 1 (some ⟨yt.1,0, none⟩) 4 (ts.map tpC), own 184 1 (some ⟨yt.2,0, none⟩) 4 (ta.map tpC), bagD (Ms.map rOwn), bagD (Gs.map grOwn), bagD (ss.map spOwn), bagD (gg.map gOwn)] ++ _) _ _
          dsimp only at hra hph
          refine VC.seq ?_
          refine VC.reg (VO.l (LO.lt (.r rfl) (.r rfl)) rfl<|VO.nil ?_)
          refine VE.seqN ?_
          refine VC.seq ?_
          refine VC.cond rfl (fun h5 => ?_) (fun h5 => ?_)
          ·
            refine VC.skip (VE.seqN ?_)
            refine VC.seq ?_
            refine VC.block ?_
            refine VC.seq ?_
            refine VC.reg (VO.l (LO.mv (.r rfl)) rfl<|VO.l (LO.ixs S60 N41 (show SlSome p 4 by have z := hl.1.sm; rwa [hrl] at z) (.r rfl) (.r rfl) rfl (by omega)) rfl<|VO.l (LO.ld O41 (.r rfl) (fun w hw => cells_part (off := 0) ((hl.1.at zRE (j := ra) (by omega)) w hw) ⟨_, rfl⟩)) rfl<|VO.l (LO.as (.r rfl)) rfl<|VO.l (LO.as (.r rfl)) rfl<|VO.nil ?_)
            obtain ⟨er, her⟩ : ∃ er, er = rs.getD ra zRE := ⟨_, rfl⟩
            rw [← her]
            have hel : er.l.length = G := by rw [her]; exact hS.row ra (by omega)
            have hER : RO 14 echoC w er.p er.l := by rw [her]; exact (erow_at hl (by rw [hS.n]; omega)).2
            have hes : SlSome er.p G := by rw [← hel]; exact hER.sm
            rw [hel]
            refine VE.seqN ?_
            refine VC.seq ?_
            refine VC.drawFL (G := Nat × Nat) (fun y => []) [(2,_), (3,_), (4,_), (5,_), (6,_), (15,_), (16,_), (17,_), (18,_), (61,_), (62,_), (63,_)] (fun y => [own 183 1 (some ⟨yt.1,0, none⟩) 4 ((ts.set ra ⟨some ⟨y.1,0, none⟩, G, G⟩).map tpC), own 184 1 (some ⟨yt.2,0, none⟩) 4 ((ta.set ra ⟨some ⟨y.2,0, none⟩, G, G⟩).map tpC), own 187 1 (some ⟨y.1,0, none⟩) G ((List.replicate G zSY).map setC), own 71 1 (some ⟨y.2,0, none⟩) G ((List.replicate G zGs).map gsC)]) [_,_,_,_,_,_] (fun y => True) (selK (L1 := [_,_,_,_,_,_]) [2,3,4,5,6,7] rfl rfl) 5 [some 0, some 0, some 0, some 0, some 0, some 0, none, some 0, some 0, none, some 0, none, some 0, none] mixed (by kernel_rfl) (LX.l (fun _ hJ => LO.mv (.r rfl)) rfl<|LX.l (fun _ hJ => LO.mv (.r rfl)) rfl<|LX.l (fun _ hJ => LO.mv (.r rfl)) rfl<|LX.l (fun _ hJ => LO.mv (.r rfl)) rfl<|LX.l (fun _ hJ => LO.mv (.r rfl)) rfl<|LX.l (fun _ hJ => LO.len S41 (.r rfl) rfl) rfl<|LX.s<|LX.l (fun _ hJ => LO.mv (.r rfl)) rfl<|LX.l (fun _ hJ => LO.len S41 (.r rfl) rfl) rfl<|LX.s<|LX.l (fun _ hJ => LO.ixs S181 N183 (fun _ => rfl) (.r rfl) (.r rfl) (j := ra) rfl (by omega)) rfl<|LX.s<|LX.l (fun _ hJ => LO.ixs S182 N184 (fun _ => rfl) (.r rfl) (.r rfl) (j := ra) rfl (by omega)) rfl<|LX.s<|LX.nil) (fun hf => (HE.mk [6,9] (by kernel_rfl) rfl ⟨(HEo.op rfl rfl<|HO.mksM (f := setC) (z0 := zSY) (n := G) rfl S183 I187 (.r rfl) (.r rfl) rfl (by decide) (by omega) (by omega) fun b9 => ⟨selK (L1 := [_,_,_,_,_,_]) [3,4,5,6,7,8] rfl rfl, (HE.mk [9,11] (by kernel_rfl) rfl ⟨(HEo.op rfl rfl<|HO.mksM (f := gsC) (z0 := zGs) (n := G) rfl S184 I71 (.r rfl) (.r rfl) rfl (by decide) (by omega) (by omega) fun b10 => ⟨selK (L1 := [_,_,_,_,_,_]) [4,5,6,7,8,9] rfl rfl, (HE.mk [11] (by kernel_rfl) rfl ⟨(HEo.op0 rfl<|HO.stm 2 (fun R => [_,_, R,_,_,_,_,_,_,_]) ((⟨some ⟨b9,0, none⟩, G, G⟩ : TopY)) (vs := [_]) N183 (.r rfl) (.r rfl) rfl (by rw [hph.tl]; omega) rfl rfl rfl rfl rfl (fun _ => rfl)<|⟨selK (L1 := [_,_,_,_,_,_]) [4,5,6,7,8,9] rfl rfl, (HE.mk [13] (by kernel_rfl) rfl ⟨(HEo.op0 rfl<|HO.stm 3 (fun R => [_,_,_, R,_,_,_,_,_,_]) ((⟨some ⟨b10,0, none⟩, G, G⟩ : TopY)) (vs := [_]) N184 (.r rfl) (.r rfl) rfl (by rw [hph.al]; omega) rfl rfl rfl rfl rfl (fun _ => rfl)<|⟨selK (L1 := [_,_,_,_,_,_]) [4,5,6,7,8,9] rfl rfl, (HE.fin (by kernel_rfl) (VE.weak (.cons rfl (.cons rfl (.cons rfl (.cons rfl (.cons rfl (.cons rfl (.cons rfl (.cons rfl (.cons rfl (.cons rfl (.cons rfl (.cons rfl .nil)))))))))))) (selK (L1 := [_,_,_,_] ++ [_,_,_,_,_,_]) [2,3,1,0,4,5,6,7,8,9] rfl rfl) (hf (b9, b10) trivial)))⟩), trivial⟩)⟩), trivial⟩)⟩), (HEo.op0 rfl<|HO.stm 1 (fun R => [_, R,_,_,_,_,_,_,_]) ((⟨some ⟨b9,0, none⟩, G, G⟩ : TopY)) (vs := [_]) N183 (.r rfl) (.r rfl) rfl (by rw [hph.tl]; omega) rfl rfl rfl rfl rfl (fun _ => rfl)<|⟨selK (L1 := [_,_,_,_,_,_]) [3,4,5,6,7,8] rfl rfl, (HE.mk [9] (by kernel_rfl) rfl ⟨(HEo.op rfl rfl<|HO.mksM (f := gsC) (z0 := zGs) (n := G) rfl S184 I71 (.r rfl) (.r rfl) rfl (by decide) (by omega) (by omega) fun b10 => ⟨selK (L1 := [_,_,_,_,_,_]) [4,5,6,7,8,9] rfl rfl, (HE.mk [13] (by kernel_rfl) rfl ⟨(HEo.op0 rfl<|HO.stm 3 (fun R => [_,_,_, R,_,_,_,_,_,_]) ((⟨some ⟨b10,0, none⟩, G, G⟩ : TopY)) (vs := [_]) N184 (.r rfl) (.r rfl) rfl (by rw [hph.al]; omega) rfl rfl rfl rfl rfl (fun _ => rfl)<|⟨selK (L1 := [_,_,_,_,_,_]) [4,5,6,7,8,9] rfl rfl, (HE.fin (by kernel_rfl) (VE.weak (.cons rfl (.cons rfl (.cons rfl (.cons rfl (.cons rfl (.cons rfl (.cons rfl (.cons rfl (.cons rfl (.cons rfl (.cons rfl (.cons rfl .nil)))))))))))) (selK (L1 := [_,_,_,_] ++ [_,_,_,_,_,_]) [2,3,1,0,4,5,6,7,8,9] rfl rfl) (hf (b9, b10) trivial)))⟩), trivial⟩)⟩), trivial⟩)⟩), trivial⟩)⟩), (HEo.op rfl rfl<|HO.mksM (f := gsC) (z0 := zGs) (n := G) rfl S184 I71 (.r rfl) (.r rfl) rfl (by decide) (by omega) (by omega) fun b9 => ⟨selK (L1 := [_,_,_,_,_,_]) [3,4,5,6,7,8] rfl rfl, (HE.mk [6] (by kernel_rfl) rfl ⟨(HEo.op rfl rfl<|HO.mksM (f := setC) (z0 := zSY) (n := G) rfl S183 I187 (.r rfl) (.r rfl) rfl (by decide) (by omega) (by omega) fun b10 => ⟨selK (L1 := [_,_,_,_,_,_]) [4,5,6,7,8,9] rfl rfl, (HE.mk [11] (by kernel_rfl) rfl ⟨(HEo.op0 rfl<|HO.stm 2 (fun R => [_,_, R,_,_,_,_,_,_,_]) ((⟨some ⟨b10,0, none⟩, G, G⟩ : TopY)) (vs := [_]) N183 (.r rfl) (.r rfl) rfl (by rw [hph.tl]; omega) rfl rfl rfl rfl rfl (fun _ => rfl)<|⟨selK (L1 := [_,_,_,_,_,_]) [4,5,6,7,8,9] rfl rfl, (HE.mk [13] (by kernel_rfl) rfl ⟨(HEo.op0 rfl<|HO.stm 3 (fun R => [_,_,_, R,_,_,_,_,_,_]) ((⟨some ⟨b9,0, none⟩, G, G⟩ : TopY)) (vs := [_]) N184 (.r rfl) (.r rfl) rfl (by rw [hph.al]; omega) rfl rfl rfl rfl rfl (fun _ => rfl)<|⟨selK (L1 := [_,_,_,_,_,_]) [4,5,6,7,8,9] rfl rfl, (HE.fin (by kernel_rfl) (VE.weak (.cons rfl (.cons rfl (.cons rfl (.cons rfl (.cons rfl (.cons rfl (.cons rfl (.cons rfl (.cons rfl (.cons rfl (.cons rfl (.cons rfl .nil)))))))))))) (selK (L1 := [_,_,_,_] ++ [_,_,_,_,_,_]) [2,3,0,1,4,5,6,7,8,9] rfl rfl) (hf (b10, b9) trivial)))⟩), trivial⟩)⟩), trivial⟩)⟩), trivial⟩)⟩), trivial⟩)) (fun y hy => ?_)

            obtain ⟨yr, rfl⟩ : ∃ yr : Nat × Nat, yr = y := ⟨y, rfl⟩
            obtain ⟨ts2, hts2⟩ : ∃ ts2, ts2 = ts.set ra ⟨some ⟨yr.1,0, none⟩, G, G⟩ := ⟨_, rfl⟩
            obtain ⟨ta2, hta2⟩ : ∃ ta2, ta2 = ta.set ra ⟨some ⟨yr.2,0, none⟩, G, G⟩ := ⟨_, rfl⟩
            rw [← hts2, ← hta2]
            have htsg : ts2[ra]? = some ⟨some ⟨yr.1,0, none⟩, G, G⟩ := by rw [hts2, List.getElem?_set, if_pos rfl, if_pos (by rw [hph.tl]; omega)]
            have htag : ta2[ra]? = some ⟨some ⟨yr.2,0, none⟩, G, G⟩ := by rw [hta2, List.getElem?_set, if_pos rfl, if_pos (by rw [hph.al]; omega)]
            refine VE.seqN ?_
            refine VC.seq ?_
            refine VC.reg (VO.l (LO.mv (.r rfl)) rfl<|VO.l (LO.len S41 (.r rfl) rfl) rfl<|VO.l (LO.mv (.r rfl)) rfl<|VO.nil ?_)
            refine VE.seqN ?_
            refine VC.block ?_
            refine VC.perm [2,3,6,7,0,1,4,5,8,9] rfl ?_
            refine VC.loopK (α := Nat × (List SpY) × (List GsY) × (List SpY) × (List GsY)) 4 (fun gx => [(82, .int .i64 (gx.1 : Nat))]) [(2,_), (3,_), (4,_), (5,_), (6,_), (15,_), (16,_), (17,_), (61,_), (62,_), (63,_), (80,_), (81,_)] (fun gx => [own 187 1 (some ⟨yr.1,0, none⟩) G (gx.2.1.map setC), own 71 1 (some ⟨yr.2,0, none⟩) G (gx.2.2.1.map gsC), bagD (gx.2.2.2.1.map spOwn), bagD (gx.2.2.2.2.map gOwn)]) (fun gx => gx.1 ≤ G ∧ RowU t er.l G gx.1 gx.2.1 gx.2.2.1 gx.2.2.2.1 gx.2.2.2.2 ∧ (∀ y, y ∈ ss → y ∈ gx.2.2.2.1) ∧ ∀ y, y ∈ gg → y ∈ gx.2.2.2.2) (fun gx => G - gx.1) (0, List.replicate G zSY, List.replicate G zGs, ss, gg) (by exact ⟨Nat.zero_le _, RowU.zero .., fun _ h => h, fun _ h => h⟩) (.cons rfl (.cons rfl (.cons rfl (.cons rfl (.cons rfl (.cons rfl (.cons rfl (.cons rfl (.cons rfl (.cons rfl (.cons rfl (.cons rfl (.cons rfl (.cons rfl .nil)))))))))))))) (fun _ h => h) ?_
            rintro ⟨i, cs, gs, ss2, gg2⟩ ⟨hi, hru, hs1, hs2⟩
            show VC _ _ _ _ _ ([(82, .int .i64 (i : Nat))] ++ _) ([own 187 1 (some ⟨yr.1,0, none⟩) G (cs.map setC), own 71 1 (some ⟨yr.2,0, none⟩) G (gs.map gsC), bagD (ss2.map spOwn), bagD (gg2.map gOwn)] ++ _) _ _
            dsimp only at hi hru hs1 hs2
            refine VC.seq ?_
            refine VC.reg (VO.l (LO.lt (.r rfl) (.r rfl)) rfl<|VO.nil ?_)
            refine VE.seqN ?_
            refine VC.seq ?_
            refine VC.cond rfl (fun h6 => ?_) (fun h6 => ?_)
            ·
              refine VC.skip (VE.seqN ?_)
              refine VC.seq ?_
              refine VC.block ?_
              refine VC.seq ?_
              refine VC.reg (VO.l (LO.mv (.r rfl)) rfl<|VO.l (LO.ixs S41 N76 hes (.r rfl) (.r rfl) rfl (by omega)) rfl<|VO.l (LO.lda (vs := [_,_,_,_,_,_,_,_,_,_,_,_,_,_]) A76 (.r rfl) (fun w hw => cells_part (off := 0) ((hER.at zE (j := i) (by omega)) w hw) ⟨_, rfl⟩) rfl) rfl<|VO.h rfl<|HO.alloc (C := #[_,_,_,_,_,_,_,_,_,_,_,_,_,_]) Z76 rfl fun b11 => VO.l (LO.as (.r rfl)) rfl<|VO.h0<|HO.st 0 (vs := [_,_,_,_,_,_,_,_,_,_,_,_,_,_]) (C' := [_,_,_,_,_,_,_,_,_,_,_,_,_,_]) (L' := [_,_,_,_,_,_,_,_,_,_,_]) N76 rfl rfl rfl rfl rfl rfl rfl rfl<|VO.nil ?_)
              obtain ⟨x, hx⟩ : ∃ x, x = er.l.getD i zE := ⟨_, rfl⟩
              rw [← hx]
              have hcx := hS.clr ra i (by omega) (by omega)
              rw [show xAt rs ra i = x by unfold xAt; rw [hx, her]] at hcx
              refine VE.seqN ?_
              refine VC.seq ?_
              refine VC.seq ?_
              refine VC.reg (VO.l (LO.fa (r := 0) F76_0 (.r rfl) rfl) rfl<|VO.l (LO.ld O3 (.r rfl) (fun _ hw => cells_at hw 0 rfl ⟨_, rfl⟩)) rfl<|VO.l (LO.ne (.r rfl) (.r rfl)) rfl<|VO.nil ?_)
              refine VE.seqN ?_
              refine VC.cond rfl (fun h89 => ?_) (fun h89 => ?_)
              ·
                refine VC.exit (VE.thenX (VE.inX (VE.seqN ?_)))
                refine VC.reg (VO.l (LO.add (.r rfl) (.r rfl) (wi (by omega) (by omega))) rfl<|VO.l (LO.mv (.r rfl)) rfl<|VO.nil ?_)
                refine VE.thenN fun a w ha hw => ⟨(i + 1, cs, gs, ss2, gg2), ⟨by dsimp only; omega, hru.skip (by rw [← hx]; exact h89), hs1, hs2⟩, (by dsimp only; omega), ha.sub (.cons rfl (.cons rfl (.cons rfl (.cons rfl (.cons rfl (.cons rfl (.cons rfl (.cons rfl (.cons rfl (.cons rfl (.cons rfl (.cons rfl (.cons rfl (.cons rfl .nil)))))))))))))), hw.sel [1,2,3,4,5,6,7,8,9,10] rfl⟩
              ·
                refine VC.skip (VE.seqN ?_)
                refine VC.seq ?_
                refine VC.reg (VO.l (LO.lda (vs := [_,_,_,_,_]) A23 (.r rfl) (fun _ hw => cells_at hw 10 rfl ⟨_, rfl⟩) rfl) rfl<|VO.l (LO.lda (vs := [_,_,_,_,_,_,_,_,_,_,_,_,_,_]) A76 (.r rfl) (fun _ hw => cells_at hw 0 rfl ⟨_, rfl⟩) rfl) rfl<|VO.l (LO.mv (.r rfl)) rfl<|VO.h rfl<|HO.callx (xs := [_,_,_]) (vs := [_,_,_]) C58 ⟨(.r rfl), (.r rfl), (.r rfl), trivial⟩ (fun w hw => guesses_c t x 60000 (by decide) w) fun yg _ => VO.h rfl<|HO.lo (LO.mv (.r rfl))<|VO.h rfl<|HO.lo (LO.ex (.r rfl) rfl)<|VO.h rfl<|HO.lo (LO.ex (.r rfl) rfl)<|VO.h rfl<|HO.lo (LO.as (.r rfl))<|VO.h rfl<|HO.lo (LO.as (.r rfl))<|VO.nil ?_)
                refine VE.seqN ?_
                refine VC.seq ?_
                refine VC.seq ?_
                refine VC.reg (VO.l (LO.mv (.r rfl)) rfl<|VO.l (LO.not (.r rfl)) rfl<|VO.nil ?_)
                refine VE.seqN ?_
                refine VC.cond rfl (fun h98 => ?_) (fun h98 => ?_)
                ·
                  (exfalso; exact h98 (gsB_true hS.tr (hcx (Classical.not_not.1 h89)).1))
                ·
                  refine VC.skip (VE.seqN ?_)
                  refine VC.seq ?_
                  obtain ⟨gl, hgl⟩ : ∃ gl, gl = gsL t x 60000 := ⟨_, rfl⟩
                  rw [← hgl]
                  have hk : x.kind = 3 := Classical.not_not.1 h89
                  have hgn : gl.length ≤ 20000 := by rw [hgl]; exact gsL_len
                  have hgb := gs_map (gsL_ok hS.tr (hcx hk).1)
                  rw [← hgl] at hgb
                  refine VC.reg (VO.l (LO.mv (.r rfl)) rfl<|VO.l (LO.mv (.r rfl)) rfl<|VO.l (LO.ixs S182 N184 (fun _ => rfl) (.r rfl) (.r rfl) (j := ra) rfl (by omega)) rfl<|VO.l (LO.ld (v := .slice (some ⟨yr.2,0, none⟩) G G) O184 (.r rfl) (fun w hw => cells_part (off := 0) (own_cell hw 7 rfl htag) ⟨_, rfl⟩)) rfl<|VO.l (LO.mv (.r rfl)) rfl<|VO.l (LO.mv (.r rfl)) rfl<|VO.l (LO.ixs S184 N71 (fun _ => rfl) (.r rfl) (.r rfl) (j := i) rfl (by omega)) rfl<|VO.h0<|HO.stm 3 (fun R => [_,_,_, R,_,_,_,_,_,_,_,_]) ((⟨gl, yg.1, yg.2⟩ : GsY)) (vs := [_]) N71 (.r rfl) (.r rfl) rfl (by rw [hru.gl]; omega) rfl rfl rfl rfl rfl (fun _ => rfl)<|VO.nil ?_)
                  refine VE.seqN ?_
                  refine VC.seq ?_
                  refine VC.reg (VO.l (LO.as (.r rfl)) rfl<|VO.nil ?_)
                  refine VE.seqN ?_
                  refine VC.seq ?_
                  refine VC.seq ?_
                  refine VC.reg (VO.l (LO.mv (.r rfl)) rfl<|VO.l (LO.len S71 (.r rfl) rfl) rfl<|VO.l (LO.mv (.r rfl)) rfl<|VO.nil ?_)
                  refine VE.seqN ?_
                  refine VC.block ?_
                  refine VC.loopK (α := Nat × (List Span) × (Option Addr) × Nat) 0 (fun gx => [(23, .slice gx.2.2.1 gx.2.1.length gx.2.2.2), (108, .int .i64 (gx.1 : Nat))]) [(2,_), (3,_), (4,_), (5,_), (6,_), (15,_), (16,_), (17,_), (19,_), (61,_), (62,_), (63,_), (80,_), (81,_), (82,_), (106,_), (107,_)] (fun gx => [own 25 2 gx.2.2.1 gx.2.2.2 (gx.2.1.map spanC)]) (fun gx => gx.1 ≤ gl.length ∧ gx.2.1 = (gl.take gx.1).map (·.s)) (fun gx => gl.length - gx.1) (0, [], none, 0) (by exact ⟨Nat.zero_le _, rfl⟩) (.cons rfl (.cons rfl (.cons rfl (.cons rfl (.cons rfl (.cons rfl (.cons rfl (.cons rfl (.cons rfl (.cons rfl (.cons rfl (.cons rfl (.cons rfl (.cons rfl (.cons rfl (.cons rfl (.cons rfl (.cons rfl (.cons rfl .nil))))))))))))))))))) (fun _ h => (h.ownNil 25 2)) ?_
                  rintro ⟨k, us, pu, cu⟩ ⟨hkk, hus⟩
                  show VC _ _ _ _ _ ([(23, .slice pu us.length cu), (108, .int .i64 (k : Nat))] ++ _) ([own 25 2 pu cu (us.map spanC)] ++ _) _ _
                  dsimp only at hkk hus
                  have hul : us.length = k := by rw [hus, List.length_map, List.length_take]; omega
                  refine VC.seq ?_
                  refine VC.reg (VO.l (LO.lt (.r rfl) (.r rfl)) rfl<|VO.nil ?_)
                  refine VE.seqN ?_
                  refine VC.seq ?_
                  refine VC.cond rfl (fun h9 => ?_) (fun h9 => ?_)
                  ·
                    refine VC.skip (VE.seqN ?_)
                    refine VC.seq ?_
                    refine VC.block ?_
                    refine VC.seq ?_
                    refine VC.reg (VO.l (LO.ixo S71 N80 (fun _ hw => (own_rows hw 1 rfl).some (by rw [List.length_map])) (.r rfl) (.r rfl) rfl (by omega)) rfl<|VO.l (LO.lda (vs := [_,_,_,_]) A80 (.r rfl) (fun w hw => cells_part (off := 0) (own_cell hw 1 rfl (getD_some (d := zG) (i := k) (by omega))) ⟨_, rfl⟩) rfl) rfl<|VO.h rfl<|HO.alloc (C := #[_,_,_,_]) Z80 rfl fun b15 => VO.h0<|HO.st 0 (vs := [_,_,_,_]) (C' := [_,_,_,_]) (L' := [_,_,_,_,_,_,_,_,_,_,_,_,_,_]) N80 rfl rfl rfl rfl rfl rfl rfl rfl<|VO.nil ?_)
                    refine VE.seqN ?_
                    refine VC.reg (VO.l (LO.mv (.r rfl)) rfl<|VO.l (LO.fa (r := 2) F80_1 (.r rfl) rfl) rfl<|VO.l (LO.lda (vs := [_,_]) A25 (.r rfl) (fun _ hw => cells_at hw 0 rfl ⟨_, rfl⟩) rfl) rfl<|VO.h rfl<|HO.bs (ps := [(_,_)]) (vs := [(_,_)]) (Z := [_,_]) (C := [_,_]) S187 Z25 N25 ⟨(.r rfl), trivial⟩ rfl rfl rfl rfl ⟨_, [_,_], [_,_], rfl, rfl, rfl, rfl, rfl⟩ fun b17 => VO.h rfl<|HO.appT ((gl.getD k zG).s) 2 0 (fun R => [_,_, R,_,_,_,_,_,_,_,_,_,_,_,_]) S187 S187 I25 (.r rfl) (.r rfl) rfl rfl rfl rfl rfl rfl rfl (fun _ => rfl) rfl (by omega) fun p4 c4 => VO.h rfl<|HO.lo (LO.as (.r rfl))<|VO.nil ?_)
                    refine VE.inN (VE.seqN ?_)
                    refine VC.reg (VO.l (LO.add (.r rfl) (.r rfl) (wi (by omega) (by omega))) rfl<|VO.l (LO.mv (.r rfl)) rfl<|VO.nil ?_)
                    refine VE.thenN fun a w ha hw => ⟨(k + 1, us ++ [(gl.getD k zG).s], p4, c4), ⟨by dsimp only; omega, by dsimp only; rw [hus]; exact mapTakeD (by omega)⟩, (by dsimp only; omega), ha.sub (.cons rfl (.cons rfl (.cons rfl (.cons rfl (.cons rfl (.cons rfl (.cons rfl (.cons rfl (.cons rfl (.cons rfl (.cons rfl (.cons rfl (.cons rfl (.cons rfl (.cons rfl (.cons rfl (.cons rfl (.cons rfl (.cons rfl .nil))))))))))))))))))), hw.sel [2,3,4,5,6,7,8,9,10,11,12,13,14] rfl⟩
                  ·
                    refine VC.exit (VE.thenX (VE.thenX (VE.inX (VE.seqN ?_))))
                    have hue : us = gl.map (·.s) := by rw [hus, List.take_of_length_le (by omega)]
                    rw [← hue] at hgb
                    refine VC.drawH [[0,1,2,3,4,5,6,7,8,9,10,11,12], [0,1,2,3,4,5,6,7,8,9,10,11,12], [0,1,2,4,5,6,7,8,9,10,11,12]] [some 1, some 1, some 1, some 1, some 1, some 0, none, some 1, none] mixed (by kernel_rfl) rfl (LX.l (fun _ hJ => LO.mv (.r rfl)) rfl<|LX.l (fun _ hJ => LO.mv (.r rfl)) rfl<|LX.l (fun _ hJ => LO.ixs S181 N183 (fun _ => rfl) (.r rfl) (.r rfl) (j := ra) rfl (by omega)) rfl<|LX.l (fun _ hJ => LO.ld (v := .slice (some ⟨yr.1,0, none⟩) G G) O183 (.r rfl) (fun w hw => cells_part (off := 0) (own_cell (hJ _ hw) 7 rfl htsg) ⟨_, rfl⟩)) rfl<|LX.l (fun _ hJ => LO.mv (.r rfl)) rfl<|LX.l (fun _ hJ => LO.mv (.r rfl)) rfl<|LX.s<|LX.l (fun _ hJ => LO.ixs S183 N187 (fun _ => rfl) (.r rfl) (.r rfl) (j := i) rfl (by omega)) rfl<|LX.s<|LX.nil) (HX.s<|HX.s<|HX.s<|HX.s<|HX.s<|HX.s<|HX.h rfl<|HO.callx (xs := [_]) (vs := [_]) C59 ⟨(.r rfl), trivial⟩ (fun w hw => united_c us pu cu w (by omega) (bdS_smS (bdS_mono hgb.1 (by decide))) hgb.2 (RO.of_own hw 0 rfl)) fun yu hyu => ⟨selJ (L1 := [_,_,_,_,_,_,_,_,_,_,_,_,_]) [1,2,3,4,5,6,7,8,9,10,11,12,13] rfl rfl rfl, HX.s<|HX.h0<|HO.stm 4 (fun R => [_,_,_,_, R,_,_,_,_,_,_,_,_,_]) ((⟨yu.1, yu.2.1, yu.2.2⟩ : SpY)) (vs := [_]) N187 (.r rfl) (.r rfl) rfl (by rw [hru.cl]; omega) rfl rfl rfl rfl rfl (fun _ => rfl)<|⟨selJ (L1 := [_,_,_,_,_,_,_,_,_,_,_,_]) [1,2,3,5,6,7,8,9,10,11,12,13] rfl rfl rfl, HX.nil ?_⟩⟩)
                    refine VE.resL (L' := bagD (((⟨yu.1, yu.2.1, yu.2.2⟩ : SpY) :: ss2).map spOwn) :: bagD (((⟨gl, yg.1, yg.2⟩ : GsY) :: gg2).map gOwn) :: [_,_,_,_,_,_,_,_,_,_]) (fun w hw => (bag_cons (f := gOwn) (a := (⟨gl, yg.1, yg.2⟩ : GsY)) (l := gg2) ((bag_cons (f := spOwn) (a := (⟨yu.1, yu.2.1, yu.2.2⟩ : SpY)) (l := ss2) (selK [0,6,2,7,1,3,4,5,8,9,10,11,12,13] rfl rfl w hw)).sel [1,2,0,3,4,5,6,7,8,9,10,11,12] rfl)).sel [1,0,2,3,4,5,6,7,8,9,10,11] rfl) ?_
                    show VE _ _ _ _ [_,_,_,_,_,_,_,_,_,_,_,_] _ _
                    refine VE.inN (VE.seqN ?_)
                    refine VC.reg (VO.l (LO.add (.r rfl) (.r rfl) (wi (by omega) (by omega))) rfl<|VO.l (LO.mv (.r rfl)) rfl<|VO.nil ?_)
                    refine VE.thenN fun a w ha hw => ⟨(i + 1, cs.set i (⟨yu.1, yu.2.1, yu.2.2⟩ : SpY), gs.set i (⟨gl, yg.1, yg.2⟩ : GsY), (⟨yu.1, yu.2.1, yu.2.2⟩ : SpY) :: ss2, (⟨gl, yg.1, yg.2⟩ : GsY) :: gg2), ⟨by dsimp only; omega, hru.put (by omega) (by rw [← hx]; exact hk) (by rw [← hx]; exact hgl) (by rw [← hx, ← hgl, ← hue]; exact hyu), fun q hq => List.mem_cons_of_mem _ (hs1 q hq), fun q hq => List.mem_cons_of_mem _ (hs2 q hq)⟩, (by dsimp only; omega), ha.sub (.cons rfl (.cons rfl (.cons rfl (.cons rfl (.cons rfl (.cons rfl (.cons rfl (.cons rfl (.cons rfl (.cons rfl (.cons rfl (.cons rfl (.cons rfl (.cons rfl .nil)))))))))))))), hw.sel [4,5,0,1,6,7,8,9,10,11] rfl⟩
            ·
              refine VC.exit (VE.thenX (VE.thenX (VE.inX (VE.inN (VE.seqN ?_)))))
              refine VC.reg (VO.l (LO.add (.r rfl) (.r rfl) (wi (by omega) (by omega))) rfl<|VO.l (LO.mv (.r rfl)) rfl<|VO.nil ?_)
              refine VE.thenN fun a w ha hw => ⟨(ra + 1, Ms ++ [(⟨cs, some ⟨yr.1,0, none⟩, G⟩ : RowY)], Gs ++ [(⟨gs, some ⟨yr.2,0, none⟩, G⟩ : GRowY)], ts2, ta2, ss2, gg2), ⟨by dsimp only; omega, by dsimp only; rw [hts2, hta2]; rw [show i = G by omega, her] at hru; exact hph.next (by omega) hru hs1 hs2⟩, (by dsimp only; omega), ha.sub (.cons rfl (.cons rfl (.cons rfl (.cons rfl (.cons rfl (.cons rfl (.cons rfl (.cons rfl (.cons rfl (.cons rfl .nil)))))))))), ((bag_snoc (f := grOwn) (a := ⟨gs, some ⟨yr.2,0, none⟩, G⟩) (l := Gs) ((bag_snoc (f := rOwn) (a := ⟨cs, some ⟨yr.1,0, none⟩, G⟩) (l := Ms) (selK [0,6,1,7,4,5,2,3,8,9] rfl rfl _ hw)).sel [1,2,0,3,4,5,6,7,8] rfl)).sel [2,3,1,0,4,5,6,7] rfl)⟩
          ·
            refine VC.exit (VE.thenX (VE.thenX (VE.inX (VE.seqN ?_))))
            refine VC.seq ?_
            have hr4 : ra = 4 := by omega
            subst hr4
            have htp := hph.tops
            rw [htp.1, htp.2]
            refine VC.reg (VO.l (LO.mv (.r rfl)) rfl<|VO.l (LO.mv (.r rfl)) rfl<|VO.l (LO.mv (.r rfl)) rfl<|VO.h rfl<|HO.callx (xs := [_,_,_]) (vs := [_,_,_]) C60 ⟨(.r rfl), (.r rfl), (.r rfl), trivial⟩ (fun w hw => settle_n 4 Ms G jump bridge v (some ⟨yt.1,0, none⟩) 4 w hph.ml (by decide) hph.rowlen hG1.2 hj hb ⟨RO.of_own hw 0 rfl, fun r hr => own_inv_rows ((hw.inv 2 _ rfl).1 _ (List.mem_map_of_mem hr))⟩ (hph.set hS (fun s hs => bag_set (hw.inv 4 _ rfl) hs))) fun ys hys => VO.h rfl<|HO.lo (LO.as (.r rfl))<|VO.nil ?_)
            refine VE.seqN ?_
            refine VC.seq ?_
            refine VC.rebase fun w1 hst1 => ?_
            have hOT : RO 1 rowC w1 ys.1.1 ys.2.1 := RO.of_own hst1 0 rfl
            have hR3 : ∀ a, a < ys.2.1.length → RO 1 setC w1 (ys.2.1.getD a zRY).p (ys.2.1.getD a zRY).l := fun a ha => bag_row (hst1.inv 1 _ rfl) ha
            have hSP : ∀ a j, a < 4 → j < G → Spans w1 (setAt ys.2.1 a j).p (setAt ys.2.1 a j).l := fun a j ha hj2 => hph.lies hS hys (fun s hs => bag_set (hst1.inv 7 _ rfl) hs) (fun s hs => bag_set (hst1.inv 2 _ rfl) hs) ha hj2
            have hGA : RO 1 grC w1 (some ⟨yt.2,0, none⟩) Gs := RO.of_own hst1 4 rfl
            have hGR : ∀ a, a < Gs.length → RO 1 gsC w1 (Gs.getD a zGR).p (Gs.getD a zGR).l := fun a ha => own_inv_rows ((hst1.inv 6 _ rfl).1 _ (List.mem_map_of_mem (getD_mem ha)))
            have hGL : ∀ g, g ∈ gg → RO 4 gssC w1 g.p g.l := fun g hg => own_inv_rows ((hst1.inv 8 _ rfl).1 _ (List.mem_map_of_mem hg))
            have hl1 : ERows w1 p rs := hl.keep w1 hst1
            have hSW : Cells w1 ⟨b2,0, none⟩ (sweepC s ti tm p 4 c) := cells_at hst1 9 rfl ⟨[], rfl⟩
            have hyl : ys.2.1.length = 4 := by rw [hys.g.len, hph.ml]
            have hgl4 := hph.gl
            have hset : SetOk w1 v G jump Ms := hph.set hS (fun s hs => bag_set (hst1.inv 7 _ rfl) hs)
            refine VC.reg (VO.l (LO.fa (r := 10) F62_3 (.r rfl) rfl) rfl<|VO.l (LO.ld O60 (.r rfl) (cells_keep (sub_cells (off := 10) hSW ⟨_, rfl⟩))) rfl<|VO.l (LO.len S60 (.r rfl) rfl) rfl<|VO.h rfl<|HO.mksM (f := tpC) (z0 := zTY) (n := 4) rfl S67 I70 (.r rfl) (.r rfl) rfl (by decide) (by omega) (by omega) fun b23 => VO.h rfl<|HO.lo (LO.as (.r rfl))<|VO.nil ?_)
            refine VE.seqN ?_
            refine VC.seq ?_
            refine VC.seq ?_
            refine VC.reg (VO.l (LO.fa (r := 10) F62_3 (.r rfl) rfl) rfl<|VO.l (LO.ld O60 (.r rfl) (cells_keep (sub_cells (off := 10) hSW ⟨_, rfl⟩))) rfl<|VO.l (LO.len S60 (.r rfl) rfl) rfl<|VO.l (LO.mv (.r rfl)) rfl<|VO.nil ?_)
            refine VE.seqN ?_
            refine VC.block ?_
            refine VC.loopK (α := Nat × (List FRowY) × (List TopY) × (List FndY)) 1 (fun gx => [(139, .int .i64 (gx.1 : Nat))]) [(16,_), (26,_), (27,_), (137,_), (138,_)] (fun gx => [own 70 1 (some ⟨b23,0, none⟩) 4 (gx.2.2.1.map tpC), bagD (gx.2.1.map frOwn), bagD (gx.2.2.2.map fOwn)]) (fun gx => gx.1 ≤ 4 ∧ FTopU t rs G gx.1 v gx.2.1 gx.2.2.1 gx.2.2.2) (fun gx => 4 - gx.1) (0, [], List.replicate 4 zTY, []) (by exact ⟨by decide, FTopU.zero t rs G v⟩) (.cons rfl (.cons rfl (.cons rfl (.cons rfl (.cons rfl (.cons rfl .nil)))))) (fun _ h => ((St.bagD (Rs := []) (St.bagD (Rs := []) h))).sel [2,0,1] rfl) ?_
            rintro ⟨ra, FR, tf, fs⟩ ⟨hra, hft⟩
            show VC _ _ _ _ _ ([(139, .int .i64 (ra : Nat))] ++ _) ([own 70 1 (some ⟨b23,0, none⟩) 4 (tf.map tpC), bagD (FR.map frOwn), bagD (fs.map fOwn)] ++ _) _ _
            dsimp only at hra hft
            refine VC.seq ?_
            refine VC.reg (VO.l (LO.lt (.r rfl) (.r rfl)) rfl<|VO.nil ?_)
            refine VE.seqN ?_
            refine VC.seq ?_
            refine VC.cond rfl (fun h10 => ?_) (fun h10 => ?_)
            ·
              refine VC.skip (VE.seqN ?_)
              refine VC.seq ?_
              refine VC.block ?_
              refine VC.seq ?_
              refine VC.reg (VO.l (LO.mv (.r rfl)) rfl<|VO.l (LO.ixs S60 N41 (show SlSome p 4 by have z := hl.1.sm; rwa [hrl] at z) (.r rfl) (.r rfl) rfl (by omega)) rfl<|VO.l (LO.ld O41 (.r rfl) (fun w hw => cells_part (off := 0) ((hl1.1.at zRE (j := ra) (by omega)) w hw) ⟨_, rfl⟩)) rfl<|VO.l (LO.as (.r rfl)) rfl<|VO.l (LO.as (.r rfl)) rfl<|VO.nil ?_)
              obtain ⟨er, her⟩ : ∃ er, er = rs.getD ra zRE := ⟨_, rfl⟩
              rw [← her]
              have hel : er.l.length = G := by rw [her]; exact hS.row ra (by omega)
              have hER : RO 14 echoC w1 er.p er.l := by rw [her]; exact (erow_at hl1 (by rw [hS.n]; omega)).2
              have hes : SlSome er.p G := by rw [← hel]; exact hER.sm
              rw [hel]
              refine VE.seqN ?_
              refine VC.seq ?_
              refine VC.reg (VO.l (LO.mv (.r rfl)) rfl<|VO.l (LO.len S41 (.r rfl) rfl) rfl<|VO.l (LO.mv (.r rfl)) rfl<|VO.nil ?_)
              refine VE.seqN ?_
              refine VC.block ?_
              have hftu := hft
              refine VC.perm [0,2,1] rfl ?_
              refine VC.loopK (α := Nat × (List FndY) × (Option Addr) × Nat × (List FndY) × (List TopY)) 2 (fun gx => [(146, .int .i64 (gx.1 : Nat))]) [(16,_), (26,_), (27,_), (28,_), (137,_), (138,_), (139,_), (144,_), (145,_)] (fun gx => [own 70 1 (some ⟨b23,0, none⟩) 4 (gx.2.2.2.2.2.map tpC), own 73 2 gx.2.2.1 gx.2.2.2.1 (gx.2.1.map fnC), bagD (gx.2.2.2.2.1.map fOwn)]) (fun gx => gx.1 ≤ G ∧ FRowU t er.l (v ra) gx.1 gx.2.1 gx.2.2.2.2.1 ∧ (∀ y, y ∈ fs → y ∈ gx.2.2.2.2.1) ∧ gx.2.2.2.2.2.length = 4 ∧ (∀ a, ¬ a = ra → gx.2.2.2.2.2.getD a zTY = tf.getD a zTY) ∧ gx.2.2.2.2.2.getD ra zTY = ⟨gx.2.2.1, gx.2.1.length, gx.2.2.2.1⟩) (fun gx => G - gx.1) (0, [], none, 0, fs, tf) (by exact ⟨Nat.zero_le _, ⟨rfl, fun k hk => absurd hk (Nat.not_lt_zero _)⟩, fun _ h => h, hftu.tl, fun a _ => rfl, hftu.tz ra (Nat.le_refl _)⟩) (.cons rfl (.cons rfl (.cons rfl (.cons rfl (.cons rfl (.cons rfl (.cons rfl (.cons rfl (.cons rfl (.cons rfl .nil)))))))))) (fun _ h => ((h.ownNil 73 2)).sel [1,0,2,3] rfl) ?_
              rintro ⟨i, fl, pf, cf, fs2, tf2⟩ ⟨hi, hfr, hfs, hft⟩
              show VC _ _ _ _ _ ([(146, .int .i64 (i : Nat))] ++ _) ([own 70 1 (some ⟨b23,0, none⟩) 4 (tf2.map tpC), own 73 2 pf cf (fl.map fnC), bagD (fs2.map fOwn)] ++ _) _ _
              dsimp only at hi hfr hfs hft
              refine VC.seq ?_
              refine VC.reg (VO.l (LO.lt (.r rfl) (.r rfl)) rfl<|VO.nil ?_)
              refine VE.seqN ?_
              refine VC.seq ?_
              refine VC.cond rfl (fun h11 => ?_) (fun h11 => ?_)
              ·
                refine VC.skip (VE.seqN ?_)
                refine VC.seq ?_
                refine VC.block ?_
                refine VC.seq ?_
                refine VC.reg (VO.l (LO.mv (.r rfl)) rfl<|VO.l (LO.ixs S41 N76 hes (.r rfl) (.r rfl) rfl (by omega)) rfl<|VO.l (LO.lda (vs := [_,_,_,_,_,_,_,_,_,_,_,_,_,_]) A76 (.r rfl) (fun w hw => cells_part (off := 0) ((hER.at zE (j := i) (by omega)) w hw) ⟨_, rfl⟩) rfl) rfl<|VO.h rfl<|HO.alloc (C := #[_,_,_,_,_,_,_,_,_,_,_,_,_,_]) Z76 rfl fun b27 => VO.l (LO.as (.r rfl)) rfl<|VO.h0<|HO.st 0 (vs := [_,_,_,_,_,_,_,_,_,_,_,_,_,_]) (C' := [_,_,_,_,_,_,_,_,_,_,_,_,_,_]) (L' := [_,_,_,_,_]) N76 rfl rfl rfl rfl rfl rfl rfl rfl<|VO.nil ?_)
                refine VE.seqN ?_
                refine VC.seq ?_
                refine VC.reg (VO.l (LO.bd (ps := [(_,_)]) (vs := [(_,_)]) (C := [_,_]) B73  ⟨(.r rfl), trivial⟩ rfl ⟨_, [_], [_,_], rfl, rfl, rfl, rfl, rfl⟩) rfl<|VO.h rfl<|HO.alloc (C := #[_,_]) Z73 rfl fun b29 => VO.h0<|HO.st 0 (vs := [_,_]) (C' := [_,_]) (L' := [_,_,_,_,_,_]) N73 rfl rfl rfl rfl rfl rfl rfl rfl<|VO.nil ?_)
                refine VE.seqN ?_
                refine VC.seq ?_
                refine VC.seq ?_
                refine VC.reg (VO.l (LO.fa (r := 0) F76_0 (.r rfl) rfl) rfl<|VO.l (LO.ld O3 (.r rfl) (fun _ hw => cells_at hw 1 rfl ⟨_, rfl⟩)) rfl<|VO.l (LO.eq (.r rfl) (.r rfl)) rfl<|VO.nil ?_)
                refine VE.seqN ?_
                refine VC.cond rfl (fun h154 => ?_) (fun h154 => ?_)
                ·
                  have hk3 : (xAt rs ra i).kind = 3 := by unfold xAt; rw [← her]; exact h154
                  have hcx := hS.clr ra i (by omega) (by omega) hk3
                  have hcl := (hph.cell (a := ra) (i := i) (by omega) (by omega)).y hk3
                  have hxe : xAt rs ra i = er.l.getD i zE := by unfold xAt; rw [her]
                  have hcl1 : ((Gs.getD ra zGR).l.getD i zGs).l = gsL t (xAt rs ra i) 60000 := hcl.1
                  have hgrl := (hph.r ra (by omega)).gl
                  have hyrl := hys.g.row ra (by omega)
                  have hgo := good_at hys.g hset (a := ra) (i := i) (by rw [hph.ml]; omega) (by omega)
                  refine VC.drawH [[0,1,2,3,4,5], [0,1,2,3,4,5], [1,2,3,4,5]] [some 0, some 0, some 0, some 0, some 0, some 0, some 0, some 0, some 0, some 0, some 0, some 0, some 0, some 0, none, none] mixed (by kernel_rfl) rfl (LX.l (fun _ hJ => LO.mv (.r rfl)) rfl<|LX.l (fun _ hJ => LO.mv (.r rfl)) rfl<|LX.l (fun _ hJ => LO.ixs S182 N184 (fun _ => rfl) (.r rfl) (.r rfl) (j := ra) rfl (by omega)) rfl<|LX.l (fun _ hJ => LO.ld O184 (.r rfl) (fun w hw => cells_part (off := 0) ((hGA.at zGR (j := ra) (by omega)) w (hJ _ hw)) ⟨_, rfl⟩)) rfl<|LX.l (fun _ hJ => LO.mv (.r rfl)) rfl<|LX.l (fun _ hJ => LO.ixs S184 N71 (by have z := (hGR ra (by omega)).sm; exact z) (.r rfl) (.r rfl) (j := i) rfl (by omega)) rfl<|LX.l (fun _ hJ => LO.ld O71 (.r rfl) (fun w hw => cells_part (off := 0) (((hGR ra (by omega)).at zGs (j := i) (by omega)) w (hJ _ hw)) ⟨_, rfl⟩)) rfl<|LX.l (fun _ hJ => LO.mv (.r rfl)) rfl<|LX.l (fun _ hJ => LO.mv (.r rfl)) rfl<|LX.l (fun _ hJ => LO.ixs S181 N183 hOT.sm (.r rfl) (.r rfl) (j := ra) rfl (by omega)) rfl<|LX.l (fun _ hJ => LO.ld O183 (.r rfl) (fun w hw => cells_part (off := 0) ((hOT.at zRY (j := ra) (by omega)) w (hJ _ hw)) ⟨_, rfl⟩)) rfl<|LX.l (fun _ hJ => LO.mv (.r rfl)) rfl<|LX.l (fun _ hJ => LO.ixs S183 N187 ((hR3 ra (by omega)).sm) (.r rfl) (.r rfl) (j := i) rfl (by omega)) rfl<|LX.l (fun _ hJ => LO.ld O187 (.r rfl) (fun w hw => cells_part (off := 0) (((hR3 ra (by omega)).at zSY (j := i) (by omega)) w (hJ _ hw)) ⟨_, rfl⟩)) rfl<|LX.s<|LX.s<|LX.nil) (HX.s<|HX.s<|HX.s<|HX.s<|HX.s<|HX.s<|HX.s<|HX.s<|HX.s<|HX.s<|HX.s<|HX.s<|HX.s<|HX.s<|HX.h rfl<|HO.callx (xs := [_,_]) (vs := [_,_]) C61 ⟨(.r rfl), (.r rfl), trivial⟩ (fun w hw => left_c ((Gs.getD ra zGR).l.getD i zGs).l ((ys.2.1.getD ra zRY).l.getD i zSY).l ((Gs.getD ra zGR).l.getD i zGs).p ((ys.2.1.getD ra zRY).l.getD i zSY).p ((Gs.getD ra zGR).l.getD i zGs).c ((ys.2.1.getD ra zRY).l.getD i zSY).c w (by rw [hcl1]; have := gsL_len (t := t) (x := xAt rs ra i); omega) (by have := can_len hgo.1 (bd_inB hgo.2); show (setAt ys.2.1 ra i).l.length < _; omega) (by rw [hcl1]; exact gsL_ok hS.tr hcx.1) hgo.1 (bdS_mono hgo.2 (by decide)) ((hGL _ hcl.2.2.2).keep w hw) ((hSP ra i (by omega) (by omega)).keep w hw)) fun yf hyf => ⟨fun _ hw => hw.sel [1,2,3,4,5,6] rfl, HX.h0<|HO.st 1 (vs := [_,_]) (C' := [_,_]) (L' := [_,_,_,_,_,_,_]) N73 rfl rfl rfl rfl rfl rfl rfl rfl<|⟨fun _ hw => hw.sel [2,3,4,5,6] rfl, HX.nil ?_⟩⟩)
                  refine VE.seqN ?_
                  have hft3 : tf2[ra]? = some ⟨pf, fl.length, cf⟩ := by have z := getD_some (l := tf2) (d := zTY) (i := ra) (by rw [hft.1]; omega); rw [hft.2.2] at z; exact z
                  have hfl := hfr.l
                  refine VC.drawH [[0,1,2,3,4,5,6], [0,1,2,3,4,5,6], [0,1,2,3,5,6], [0,1,2,5,6]] [some 2, some 2, some 1, some 1, some 1, some 1, some 0, none, none, some 2, none] mixed (by kernel_rfl) rfl (LX.l (fun _ hJ => LO.mv (.r rfl)) rfl<|LX.l (fun _ hJ => LO.mv (.r rfl)) rfl<|LX.l (fun _ hJ => LO.mv (.r rfl)) rfl<|LX.l (fun _ hJ => LO.mv (.r rfl)) rfl<|LX.l (fun _ hJ => LO.ixs S67 N70 (fun _ => rfl) (.r rfl) (.r rfl) (j := ra) rfl (by omega)) rfl<|LX.l (fun _ hJ => LO.ld (v := .slice pf fl.length cf) O70 (.r rfl) (fun w hw => cells_part (off := 0) (own_cell (hJ _ hw) 3 rfl hft3) ⟨_, rfl⟩)) rfl<|LX.l (fun _ hJ => LO.lda (vs := [_,_]) A73 (.r rfl) (fun _ hw => cells_at (hJ _ hw) 1 rfl ⟨_, rfl⟩) rfl) rfl<|LX.s<|LX.s<|LX.l (fun _ hJ => LO.ixs S67 N70 (fun _ => rfl) (.r rfl) (.r rfl) (j := ra) rfl (by omega)) rfl<|LX.s<|LX.nil) (HX.s<|HX.s<|HX.s<|HX.s<|HX.s<|HX.s<|HX.s<|HX.h rfl<|HO.bs (ps := [(_,_)]) (vs := [(_,_)]) (Z := [_,_]) (C := [_,_]) S70 Z73 N73 ⟨(.r rfl), trivial⟩ rfl rfl rfl rfl ⟨_, [_,_], [_,_], rfl, rfl, rfl, rfl, rfl⟩ fun b36 => ⟨fun _ hw => hw.sel [1,2,3,4,5,6,7] rfl, HX.h rfl<|HO.appT ((⟨stO yf.1, yf.1, yf.2.1, yf.2.2⟩ : FndY)) 5 0 (fun R => [_,_,_,_,_, R,_,_]) S70 S70 I73 (.r rfl) (.r rfl) rfl rfl rfl rfl rfl rfl rfl (fun _ => rfl) rfl (by omega) fun p8 c8 => ⟨fun _ hw => hw.sel [1,2,3,4,6,7] rfl, HX.s<|HX.h0<|HO.stm 4 (fun R => [_,_,_,_, R,_,_,_]) ((⟨p8, (fl ++ [(⟨stO yf.1, yf.1, yf.2.1, yf.2.2⟩ : FndY)]).length, c8⟩ : TopY)) (vs := [_]) N70 (.r rfl) (.r rfl) rfl (by rw [hft.1]; omega) rfl rfl rfl rfl rfl (fun _ => rfl)<|⟨fun _ hw => hw.sel [1,2,3,6,7] rfl, HX.nil ?_⟩⟩⟩)
                  refine VE.resL (L' := bagD (((⟨stO yf.1, yf.1, yf.2.1, yf.2.2⟩ : FndY) :: fs2).map fOwn) :: [_,_,_,_,_,_]) (fun w hw => bag_cons (f := fOwn) (a := (⟨stO yf.1, yf.1, yf.2.1, yf.2.2⟩ : FndY)) (l := fs2) (selK [1,6,0,2,3,4,5,7] rfl rfl w hw)) ?_
                  show VE _ _ _ _ [_,_,_,_,_,_,_] _ _
                  refine VE.inN (VE.seqN ?_)
                  refine VC.reg (VO.l (LO.add (.r rfl) (.r rfl) (wi (by omega) (by omega))) rfl<|VO.l (LO.mv (.r rfl)) rfl<|VO.nil ?_)
                  refine VE.thenN fun a w ha hw => ⟨(i + 1, fl ++ [(⟨stO yf.1, yf.1, yf.2.1, yf.2.2⟩ : FndY)], p8, c8, (⟨stO yf.1, yf.1, yf.2.1, yf.2.2⟩ : FndY) :: fs2, tf2.set ra ⟨p8, (fl ++ [(⟨stO yf.1, yf.1, yf.2.1, yf.2.2⟩ : FndY)]).length, c8⟩), ⟨by dsimp only; omega, by exact (hfr.put (fun _ => List.mem_cons_of_mem _) ⟨fun _ => ⟨⟨_, by rw [← hxe, ← hcl1]; exact hyf, (hys.g.g ra i (by omega) (by omega)).tr (hph.tru hS (by omega) (by omega) hk3)⟩, rfl⟩, fun z => absurd h154 z⟩ (.inl List.mem_cons_self)), (fun q hq => List.mem_cons_of_mem _ (hfs q hq)), by dsimp only; rw [List.length_set]; exact hft.1, fun a ha => by dsimp only; rw [getD_setR, if_neg (fun z => ha z.1.symm)]; exact hft.2.1 a ha, by dsimp only; rw [getD_setR, if_pos ⟨rfl, by rw [hft.1]; omega⟩]⟩, (by dsimp only; omega), ha.sub (.cons rfl (.cons rfl (.cons rfl (.cons rfl (.cons rfl (.cons rfl (.cons rfl (.cons rfl (.cons rfl (.cons rfl .nil)))))))))), hw.sel [4,5,0,6] rfl⟩
                ·
                  refine VC.skip (VE.seqN ?_)
                  have hft3 : tf2[ra]? = some ⟨pf, fl.length, cf⟩ := by have z := getD_some (l := tf2) (d := zTY) (i := ra) (by rw [hft.1]; omega); rw [hft.2.2] at z; exact z
                  have hfl := hfr.l
                  refine VC.drawH [[0,1,2,3,4,5], [0,1,2,3,4,5], [0,1,2,4,5], [0,1,4,5]] [some 2, some 2, some 1, some 1, some 1, some 1, some 0, none, none, some 2, none] mixed (by kernel_rfl) rfl (LX.l (fun _ hJ => LO.mv (.r rfl)) rfl<|LX.l (fun _ hJ => LO.mv (.r rfl)) rfl<|LX.l (fun _ hJ => LO.mv (.r rfl)) rfl<|LX.l (fun _ hJ => LO.mv (.r rfl)) rfl<|LX.l (fun _ hJ => LO.ixs S67 N70 (fun _ => rfl) (.r rfl) (.r rfl) (j := ra) rfl (by omega)) rfl<|LX.l (fun _ hJ => LO.ld (v := .slice pf fl.length cf) O70 (.r rfl) (fun w hw => cells_part (off := 0) (own_cell (hJ _ hw) 2 rfl hft3) ⟨_, rfl⟩)) rfl<|LX.l (fun _ hJ => LO.lda (vs := [_,_]) A73 (.r rfl) (fun _ hw => cells_at (hJ _ hw) 0 rfl ⟨_, rfl⟩) rfl) rfl<|LX.s<|LX.s<|LX.l (fun _ hJ => LO.ixs S67 N70 (fun _ => rfl) (.r rfl) (.r rfl) (j := ra) rfl (by omega)) rfl<|LX.s<|LX.nil) (HX.s<|HX.s<|HX.s<|HX.s<|HX.s<|HX.s<|HX.s<|HX.h rfl<|HO.bs (ps := [(_,_)]) (vs := [(_,_)]) (Z := [_,_]) (C := [_,_]) S70 Z73 N73 ⟨(.r rfl), trivial⟩ rfl rfl rfl rfl ⟨_, [_,_], [_,_], rfl, rfl, rfl, rfl, rfl⟩ fun b38 => ⟨fun _ hw => hw.sel [1,2,3,4,5,6] rfl, HX.h rfl<|HO.appT ((⟨1, [], none, 0⟩ : FndY)) 4 0 (fun R => [_,_,_,_, R,_,_]) S70 S70 I73 (.r rfl) (.r rfl) rfl rfl rfl rfl rfl rfl rfl (fun _ => rfl) rfl (by omega) fun p8 c8 => ⟨fun _ hw => hw.sel [1,2,3,5,6] rfl, HX.s<|HX.h0<|HO.stm 3 (fun R => [_,_,_, R,_,_,_]) ((⟨p8, (fl ++ [(⟨1, [], none, 0⟩ : FndY)]).length, c8⟩ : TopY)) (vs := [_]) N70 (.r rfl) (.r rfl) rfl (by rw [hft.1]; omega) rfl rfl rfl rfl rfl (fun _ => rfl)<|⟨fun _ hw => hw.sel [1,2,5,6] rfl, HX.nil ?_⟩⟩⟩)
                  refine VE.inN (VE.seqN ?_)
                  refine VC.reg (VO.l (LO.add (.r rfl) (.r rfl) (wi (by omega) (by omega))) rfl<|VO.l (LO.mv (.r rfl)) rfl<|VO.nil ?_)
                  refine VE.thenN fun a w ha hw => ⟨(i + 1, fl ++ [(⟨1, [], none, 0⟩ : FndY)], p8, c8, fs2, tf2.set ra ⟨p8, (fl ++ [(⟨1, [], none, 0⟩ : FndY)]).length, c8⟩), ⟨by dsimp only; omega, by exact (hfr.put (fun _ h => h) ⟨fun z => absurd z h154, fun _ => ⟨rfl, rfl⟩⟩ (.inr rfl)), hfs, by dsimp only; rw [List.length_set]; exact hft.1, fun a ha => by dsimp only; rw [getD_setR, if_neg (fun z => ha z.1.symm)]; exact hft.2.1 a ha, by dsimp only; rw [getD_setR, if_pos ⟨rfl, by rw [hft.1]; omega⟩]⟩, (by dsimp only; omega), ha.sub (.cons rfl (.cons rfl (.cons rfl (.cons rfl (.cons rfl (.cons rfl (.cons rfl (.cons rfl (.cons rfl (.cons rfl .nil)))))))))), hw.sel [3,4,5,6] rfl⟩
              ·
                refine VC.exit (VE.thenX (VE.thenX (VE.inX (VE.inN (VE.seqN ?_)))))
                refine VC.reg (VO.l (LO.add (.r rfl) (.r rfl) (wi (by omega) (by omega))) rfl<|VO.l (LO.mv (.r rfl)) rfl<|VO.nil ?_)
                refine VE.thenN fun a w ha hw => ⟨(ra + 1, FR ++ [(⟨fl, pf, cf⟩ : FRowY)], tf2, fs2), ⟨by dsimp only; omega, by dsimp only; rw [show i = G by omega, her] at hfr; exact FTopU.next hftu (by omega) hfr hfs hft.1 hft.2.1 hft.2.2⟩, (by dsimp only; omega), ha.sub (.cons rfl (.cons rfl (.cons rfl (.cons rfl (.cons rfl (.cons rfl .nil)))))), ((bag_snoc (f := frOwn) (a := ⟨fl, pf, cf⟩) (l := FR) (selK [1,3,0,2] rfl rfl _ hw)).sel [1,0,2] rfl)⟩
            ·
              refine VC.exit (VE.thenX (VE.thenX (VE.inX (VE.seqN ?_))))
              refine VC.seq ?_
              refine VC.reg (VO.l (LO.mv (.r rfl)) rfl<|VO.l (LO.as (.r rfl)) rfl<|VO.l (LO.as (.r rfl)) rfl<|VO.nil ?_)
              refine VE.seqN ?_
              refine VC.ret (VE.res (vs := [_,_]) rfl ⟨rfl, rfl, trivial⟩ (fun w hw => ?_))
              have hf := hst1.call hw
              have hr4 : ra = 4 := by omega
              rw [hr4] at hft
              exact ⟨((some ⟨b23,0, none⟩, 4), FR, fs), hft.u, rfl, (by rw [← hft.tops]; exact selK [0,1,2] rfl rfl _ hf)⟩

end Go.Proofs.YtffbohecdocajaaGreat
