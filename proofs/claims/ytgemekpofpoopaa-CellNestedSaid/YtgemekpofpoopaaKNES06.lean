/-
  The chapter's examples hold.
  CellNil, walked.
  Maps of the statements.
  Colors.
  Fields within others.
  CellOpen, walked.
  Owners.
  Parts of the truth, sums, kernels: plain.
  Levels and parents: plain.
  CellTruth, walked.
  CellNested, walked.
  Readings of maps by numbers.
-/
import Derived.Test.YtgemekpofpoopaaKNES05

set_option linter.unusedSimpArgs false
namespace Go.Proofs.Ytgemekpofpoopaa
open Go.SL Go.Proofs Go.Cast Go.Cell
set_option linter.unusedVariables false

theorem C56 : IsFn Try.prog 56 := ⟨_, Try.func56, by decide, rfl⟩
theorem C17 : IsFn Try.prog 17 := ⟨_, Try.func17, by decide, rfl⟩
theorem C26 : IsFn Try.prog 26 := ⟨_, Try.func26, by decide, rfl⟩
theorem EA71 : FlatA Try.prog 71 2 := ⟨⟨_, Try.underlying71, rfl⟩, by kernel_rfl, by kernel_rfl⟩
theorem C20 : IsFn Try.prog 20 := ⟨_, Try.func20, by decide, rfl⟩
theorem C22 : IsFn Try.prog 22 := ⟨_, Try.func22, by decide, rfl⟩
theorem C24 : IsFn Try.prog 24 := ⟨_, Try.func24, by decide, rfl⟩
theorem C27 : IsFn Try.prog 27 := ⟨_, Try.func27, by decide, rfl⟩
theorem C30 : IsFn Try.prog 30 := ⟨_, Try.func30, by decide, rfl⟩
theorem EA85 : FlatA Try.prog 85 2 := ⟨⟨_, Try.underlying85, rfl⟩, by kernel_rfl, by kernel_rfl⟩
theorem C47 : IsFn Try.prog 47 := ⟨_, Try.func47, by decide, rfl⟩
theorem C48 : IsFn Try.prog 48 := ⟨_, Try.func48, by decide, rfl⟩
theorem C49 : IsFn Try.prog 49 := ⟨_, Try.func49, by decide, rfl⟩
theorem F109_0 : FieldAt Try.prog 109 0 0 := ⟨_,_, Try.underlying109, rfl, rfl, 0, by kernel_rfl⟩
theorem C50 : IsFn Try.prog 50 := ⟨_, Try.func50, by decide, rfl⟩
theorem EA105 : FlatA Try.prog 105 9 := ⟨⟨_, Try.underlying105, rfl⟩, by kernel_rfl, by kernel_rfl⟩


theorem rowF_c (b : Nat) (w : World) (h : Ints w (some ⟨b, 0, none⟩) [5,5,2,5,5,5,0,1]) : Calls Try.prog (56) #[.slice (some ⟨b, 0, none⟩) 8 8] w fun e w' => ∃ y : SlY, True ∧ e = .returned (fieldV xG y.p xF.length y.c) ∧ St (bs w) [own 71 2 y.p y.c (xF.map Span.cells)] w' := row_c [5,5,2,5,5,5,0,1] _ 8 w h (by decide)
theorem rowH_c (b : Nat) (w : World) (h : Ints w (some ⟨b, 0, none⟩) [0,1,5,5,2,5,5,5]) : Calls Try.prog (56) #[.slice (some ⟨b, 0, none⟩) 8 8] w fun e w' => ∃ y : SlY, True ∧ e = .returned (fieldV xG y.p xH.length y.c) ∧ St (bs w) [own 71 2 y.p y.c (xH.map Span.cells)] w' := row_c [0,1,5,5,2,5,5,5] _ 8 w h (by decide)
theorem xJoin2_c (p : Option Addr) (c : Nat) (w : World) (hv : Spans w p xF) : Calls Try.prog (20) #[fieldV xG p xF.length c, .int .i64 5, .int .i64 0, .int .i64 2] w fun e w' => e = .returned (.tuple #[.int .i64 3, .int .i64 0]) ∧ St (bs w) [] w' := by
  have z := Joined_ok xG xF p c 5 0 2 w hv xP2
  rw [xJ2] at z; exact z
theorem xJoin3_c (p : Option Addr) (c : Nat) (w : World) (hv : Spans w p xF) : Calls Try.prog (20) #[fieldV xG p xF.length c, .int .i64 5, .int .i64 0, .int .i64 3] w fun e w' => e = .returned (.tuple #[.int .i64 2, .int .i64 0]) ∧ St (bs w) [] w' := by
  have z := Joined_ok xG xF p c 5 0 3 w hv xP3
  rw [xJ3] at z; exact z
theorem xGap2_c (p : Option Addr) (c : Nat) (w : World) (hv : Spans w p xF) : Calls Try.prog (22) #[fieldV xG p xF.length c, .int .i64 5, .int .i64 0, .int .i64 2] w fun e w' => e = .returned (.tuple #[.int .i64 1, .int .i64 0]) ∧ St (bs w) [] w' :=
  (Gap_ok xG xF p c 5 0 2 w hv xP2).mono fun e w' ⟨z, h1, h2, h3⟩ => ⟨by rw [h2, xGap2 h1], h3⟩
theorem xGap3_c (p : Option Addr) (c : Nat) (w : World) (hv : Spans w p xF) : Calls Try.prog (22) #[fieldV xG p xF.length c, .int .i64 5, .int .i64 0, .int .i64 3] w fun e w' => e = .returned (.tuple #[.int .i64 (-1), .int .i64 0]) ∧ St (bs w) [] w' :=
  (Gap_ok xG xF p c 5 0 3 w hv xP3).mono fun e w' ⟨z, h1, h2, h3⟩ => ⟨by rw [h2, xGap3 h1], h3⟩
structure XtY where
  p : Option Addr
  c : Nat
  p1 : Option Addr
  c1 : Nat
  p2 : Option Addr
  c2 : Nat
theorem xTree_c (p : Option Addr) (c b : Nat) (w : World) (hv : Spans w p xF) (hl : Ints w (some ⟨b, 0, none⟩) [1,5]) : Calls Try.prog (24) #[fieldV xG p xF.length c, .slice (some ⟨b, 0, none⟩) 2 2] w fun e w' => ∃ y : XtY, True ∧ e = .returned (.tuple #[.slice y.p 2 y.c, .int .i64 0]) ∧ St (bs w) [own 40 1 y.p y.c (([⟨y.p1, y.c1, [-1]⟩, ⟨y.p2, y.c2, [0]⟩] : List (RowA Int)).map rowC), bagR 3 1 iC [⟨y.p1, y.c1, [-1]⟩, ⟨y.p2, y.c2, [0]⟩]] w' :=
  (Tree_ok xG xF p c [1,5] _ 2 w hv hl xTreeE).mono fun e w' ⟨y, h1, h2, h3⟩ => by
    rw [xTree] at h1
    obtain ⟨p1, c1, p2, c2, e1⟩ := row_list2 h1
    rw [e1] at h2 h3
    exact ⟨⟨y.p, y.c, p1, c1, p2, c2⟩, trivial, h2, h3⟩
structure XeY where
  p : Option Addr
  c : Nat
  fp : Option Addr
  fc : Nat
  tp : Option Addr
  tc : Nat
def XeY.e (y : XeY) : EvR := ⟨4, y.fp, y.fc, [0], y.tp, y.tc, [0]⟩
theorem ev_list {l : List EvR} {e : EvM} (h : l.map EvR.m = [e]) : ∃ fp fc tp tc, l = [⟨e.kd, fp, fc, e.f, tp, tc, e.t⟩] := by
  rcases l with _ | ⟨a,_ | ⟨b, r⟩⟩
  · cases h
  · obtain ⟨kd, fp, fc, f, tp, tc, t⟩ := a
    have h := (List.cons.inj h).1
    subst h; exact ⟨fp, fc, tp, tc, rfl⟩
  · cases (List.cons.inj h).2
theorem xMatch_c (p : Option Addr) (c : Nat) (q : Option Addr) (d : Nat) (w : World) (hv : Spans w p xF) (hu : Spans w q xH) : Calls Try.prog (27) #[fieldV xG p xF.length c, fieldV xG q xH.length d, .int .i64 5, .int .i64 1] w fun e w' => ∃ y : XeY, True ∧ e = .returned (.tuple #[.slice y.p 1 y.c, .int .i64 0]) ∧ St (bs w) [own 81 3 y.p y.c ([y.e].map EvR.cells), bagD ([y.e].map EvR.fR), bagD ([y.e].map EvR.tR)] w' :=
  (Match_ok xG xF p c xG xH q d 5 1 w hv hu xPair).mono fun e w' ⟨y, h1, h2, h3⟩ => by
    rw [xNf, xNh] at h1
    obtain ⟨fp, fc, tp, tc, e1⟩ := ev_list (xEv h1)
    obtain ⟨l, yp, yc⟩ := y
    subst e1
    exact ⟨⟨yp, yc, fp, fc, tp, tc⟩, trivial, h2, h3⟩
def xMv : List Mv := [⟨-1, -1⟩, ⟨0, -1⟩, ⟨1, -1⟩, ⟨-1,0⟩, ⟨1,0⟩, ⟨-1,1⟩, ⟨0,1⟩, ⟨1,1⟩]
theorem xMoves_c (p : Option Addr) (c : Nat) (q : Option Addr) (d : Nat) (w : World) (hv : Spans w p xF) (hu : Spans w q xH) : Calls Try.prog (30) #[fieldV xG p xF.length c, fieldV xG q xH.length d, .int .i64 5, .int .i64 1, .int .i64 0, .int .i64 0] w fun e w' => ∃ y : SlY, True ∧ e = .returned (.tuple #[.slice y.p 8 y.c, .int .i64 0]) ∧ St (bs w) [own 85 2 y.p y.c (xMv.map Mv.cells)] w' :=
  (Moves_ok xG xF p c xG xH q d 5 0 0 1 w hv hu xMoveE).mono fun e w' ⟨y, h1, h2, h3⟩ => by
    rw [xMoves] at h2 h3
    exact ⟨y, trivial, h2, h3⟩
structure XaY where
  p : Option Addr
  c : Nat
  pp : Option Addr
  pc : Nat
  kp : Option Addr
  kc : Nat
  p1 : Option Addr
  c1 : Nat
  p2 : Option Addr
  c2 : Nat
def XaY.a (y : XaY) : AreaR := ⟨⟨y.pp, y.pc, [0,1,2]⟩, y.kp, y.kc, [⟨y.p1, y.c1, [0]⟩, ⟨y.p2, y.c2, [2]⟩], ⟨0,2,0,0,10,15⟩⟩
structure XaI (w : World) (y : XaY) : Prop where
  ar : RO 8 AreaR.cells w y.p [y.a]
  px : Ints w y.pp [0,1,2]
  kr : RR 1 iC w y.kp [⟨y.p1, y.c1, [0]⟩, ⟨y.p2, y.c2, [2]⟩]
theorem rr_nat {w : World} {p : Option Addr} {rs : List (RowA Nat)} (h : RR 1 nC w p rs) : RR 1 iC w p (rs.map fun r => (⟨r.p, r.c, r.l.map fun n : Nat => (n : Int)⟩ : RowA Int)) := by
  refine ⟨?_, fun x hx => ?_⟩
  · have h1 := h.1
    unfold RO at h1 ⊢
    rw [List.map_map]
    have e : (rowC ∘ fun r : RowA Nat => (⟨r.p, r.c, r.l.map fun n : Nat => (n : Int)⟩ : RowA Int)) = rowC := by
      funext r; show [Value.slice r.p (r.l.map _).length r.c] = _; rw [List.length_map]; rfl
    rw [e]; exact h1
  · obtain ⟨r, hr, rfl⟩ := List.mem_map.1 hx
    have := h.2 r hr
    exact ⟨by show (r.l.map _).length ≤ r.c; rw [List.length_map]; exact this.1, ints_nat this.2⟩
structure XaF (y : ArY) (z : XaY) : Prop where
  ar : ArP (gW xG) (gH xG) xF 5 y
  l : y.l = [z.a]
  p : y.p = z.p
theorem xAreas_c (p : Option Addr) (c : Nat) (w : World) (hv : Spans w p xF) : Calls Try.prog (17) #[fieldV xG p xF.length c, .int .i64 5] w fun e w' => ∃ y : ArY × XaY, XaF y.1 y.2 ∧ e = .returned (.tuple #[.slice y.2.p 1 y.2.c, .int .i64 0]) ∧ St (bs w) (y.1.R (ofL (gW xG) (gH xG) (mayB xF 5))) w' :=
  (Areas_ok xG xF p c 5 w hv xF_open).mono fun e w' ⟨y, h1, h2, h3⟩ => by
    obtain ⟨pp, pc, kp, kc, p1, c1, p2, c2, hl⟩ := exAr h1 xAreas
    rw [hl] at h2
    exact ⟨⟨y, ⟨y.p, y.c, pp, pc, kp, kc, p1, c1, p2, c2⟩⟩, ⟨h1, hl, rfl⟩, h2, h3⟩
theorem XaI.of {y : ArY} {z : XaY} {β : Bs} {L : List Res} {w : World} (h : XaF y z) (hw : St β (y.R (ofL (gW xG) (gH xG) (mayB xF 5)) ++ L) w) : XaI w z := by
  have hS := SpI.of_res hw h.ar 0 1 3 7 rfl rfl rfl rfl
  have hR : RR 1 nC w y.pr y.rs := RR.of_own hw 5 6 rfl rfl
  have hl := h.l
  refine ⟨?_, ?_, ?_⟩
  · have := hS.ar; rw [hl, h.p] at this; exact this
  · exact ints_nat (hR.2 z.a.px (by rw [← h.ar.px, hl]; exact List.mem_singleton.2 rfl)).2
  · exact rr_nat (hS.kr z.a (by rw [hl]; exact List.mem_singleton.2 rfl))
theorem XaI.keep {w0 : World} {y : XaY} (h : XaI w0 y) : ∀ {L : List Res} (w : World), St (bs w0) L w → XaI w y := fun w hw => ⟨h.ar.keep w hw, h.px.keep w hw, h.kr.keep w hw⟩
theorem rr_lit2 {w : World} {b1 b2 b3 : Nat} {x y : Int} (h1 : Ints w (some ⟨b1,0, none⟩) [x]) (h2 : Ints w (some ⟨b2,0, none⟩) [y]) (h3 : Cells w ⟨b3,0, none⟩ [.slice (some ⟨b1,0, none⟩) 1 1, .slice (some ⟨b2,0, none⟩) 1 1]) : RR 1 iC w (some ⟨b3,0, none⟩) [⟨some ⟨b1,0, none⟩, 1, [x]⟩, ⟨some ⟨b2,0, none⟩, 1, [y]⟩] := by
  refine ⟨RO.ofC (fun _ => rfl) h3, fun r hr => ?_⟩
  rcases List.mem_cons.1 hr with rfl | hr
  · exact ⟨Nat.le_refl _, h1⟩
  · have hr := List.mem_singleton.1 hr; subst hr; exact ⟨Nat.le_refl _, h2⟩
theorem two_rows {a b : RowA Int} (ha : a.l.length = 1) (hb : b.l.length = 1) : ∀ x, x ∈ [a, b] → x.l.length ≤ 1000000 := fun x hx => by
  rcases List.mem_cons.1 hx with rfl | hx
  · omega
  · have hx := List.mem_singleton.1 hx; subst hx; omega
abbrev xBk (bm : Nat) : BkH := ⟨xG, 5,1, bm⟩
theorem xBook : bookE xG 5 1 = 0 := by kernel_rfl
theorem xAdd0 (bm : Nat) : addE (xBk bm) (-1) 0 10 xG xF = 0 := rfl
theorem xAdd1 (bm : Nat) : addE (xBk bm) 10 1 20 xG xH = 0 := rfl
theorem xLate (bm n : Nat) : addE (xBk bm) 20 n 20 xG xH = 17 := rfl
theorem xLate_c (b bm : Nat) (q : BkQ) (pt : Option Addr) (nt ct : Nat) (kd : Nat → Int) (p : Option Addr) (c : Nat) (w : World) (hb : Cells w ⟨b, 0, none⟩ (bkC (xBk bm) 20 q pt nt ct kd)) (hv : Spans w p xH) : Calls Try.prog (48) #[.pointer (some ⟨b, 0, none⟩), .int .i64 20, fieldV xG p xH.length c] w fun e w' => e = .returned (.tuple #[.slice none 0 0, .int .i64 17]) ∧ St (bs w) [] w' := by
  have z := Add_e b (xBk bm) 20 q pt nt ct kd 20 xG xH p c w hb hv (by rw [xLate]; decide)
  rw [xLate] at z; exact z
structure XkY where
  p : Option Addr
  c : Nat
  ap : Option Addr
  ac : Nat
  pp : Option Addr
  pc : Nat
  cp : Option Addr
  cc : Nat
def XkY.t (y : XkY) : TkR := ⟨1,0, y.ap, y.ac, [0,0], 0, y.pp, y.pc, [], y.cp, y.cc, []⟩
theorem xk_list {tk : List TkR} (h : tk.map TkR.m = [⟨1,0, [0,0], 0, [], []⟩]) : ∃ ap ac pp pc cp cc, tk = [⟨1,0, ap, ac, [0,0], 0, pp, pc, [], cp, cc, []⟩] := by
  obtain ⟨t, rfl, hm⟩ := tk_list h
  obtain ⟨bg, fr, ap, ac, ar, en, pp, pc, pa, cp, cc, ch⟩ := t
  cases hm
  exact ⟨ap, ac, pp, pc, cp, cc, rfl⟩
theorem xTracks_c (b : Nat) (h : BkH) (la : Int) (q : BkQ) (pt : Option Addr) (ct : Nat) (kd : Nat → Int) (tk : List TkR) (w : World) (hb : Cells w ⟨b, 0, none⟩ (bkC h la q pt tk.length ct kd)) (htk : RO 6 TkR.cells w pt tk) (hti : ∀ t, t ∈ tk → TkI w t) (hm : tk.map TkR.m = [⟨1,0, [0,0], 0, [], []⟩]) : Calls Try.prog (49) #[.pointer (some ⟨b, 0, none⟩)] w fun e w' => ∃ y : XkY, True ∧ e = .returned (.slice y.p 1 y.c) ∧ St (bs w) [own 109 6 y.p y.c ([y.t].map TkR.cells), bagD ([y.t].map TkR.aR), bagD ([y.t].map TkR.pR), bagD ([y.t].map TkR.cR)] w' :=
  (Tracks_ok b h la q pt ct kd tk w hb htk hti (fun t ht => by
    obtain ⟨_,_,_,_,_,_, rfl⟩ := xk_list hm
    have := List.mem_singleton.1 ht; subst this
    exact ⟨(show 2 ≤ 1000000000 by decide), (show 0 ≤ 1000000000 by decide), (show 0 ≤ 1000000000 by decide)⟩) (by obtain ⟨_,_,_,_,_,_, rfl⟩ := xk_list hm; exact (show 1 ≤ 1000000 by decide))).mono fun e w' ⟨y, h1, h2, h3⟩ => by
    rw [hm] at h1
    obtain ⟨l, yp, yc⟩ := y
    obtain ⟨ap, ac, pp, pc, cp, cc, rfl⟩ := xk_list h1
    exact ⟨⟨yp, yc, ap, ac, pp, pc, cp, cc⟩, trivial, h2, h3⟩
theorem xTally_c (b bm : Nat) (la : Int) (pm : Option Addr) (cm : Nat) (ys : List ArY) (pt : Option Addr) (ct : Nat) (kd : Nat → Int) (tk : List TkR) (of : Nat × Nat → Option Nat) (w : World) (hb : Cells w ⟨b, 0, none⟩ (bkC (xBk bm) la ⟨pm, ys.length, cm⟩ pt tk.length ct kd)) (ho : (mapR plV niV bm (ofI of)).inv w) (hys : ys.length = 2) (hm : tk.map TkR.m = [⟨1,0, [0,0], 0, [], []⟩]) (hk : ∀ a, a ∈ [((0 : Int), (0 : Int)), (1,0)] ↔ (ofI of a).isSome = true) (hkd : kd = kdF (fun _ => 0) [⟨4, [0], [0]⟩]) :
    Calls Try.prog (50) #[.pointer (some ⟨b, 0, none⟩)] w fun e w' => e = .returned (.agg #[.int .i64 2, .int .i64 2, .int .i64 1, .int .i64 0, .int .i64 0, .int .i64 1, .int .i64 0, .int .i64 0, .int .i64 0]) ∧ St (bs w) [] w' := by
  have z := Tally_ok b (xBk bm) la ⟨pm, ys.length, cm⟩ pt ct kd tk w hb of ho [((0 : Int), (0 : Int)), (1,0)] (by decide) hk
  obtain ⟨_,_,_,_,_,_, rfl⟩ := xk_list hm
  subst hkd
  rw [hys] at z
  exact z

set_option maxRecDepth 20000 in
set_option maxHeartbeats 16000000 in
theorem works_c (w : World) :
  Calls Try.prog 16 #[] w fun e w' => e = .returned (.bool true) ∧ St (bs w) [] w' := by
  refine enter (vs := []) (env := []) Try.func16 rfl rfl rfl rfl ?_
  refine VC.seq ?_
  refine VC.reg (VO.l (LO.as (.r rfl)) rfl<|VO.nil ?_)
  refine VE.seqN ?_
  refine VC.seq ?_
  refine VC.reg (VO.h rfl<|HO.bs (ps := [(_,_), (_,_), (_,_), (_,_), (_,_), (_,_), (_,_), (_,_)]) (vs := [(_,_), (_,_), (_,_), (_,_), (_,_), (_,_), (_,_), (_,_)]) (Z := [_,_,_,_,_,_,_,_]) (C := [_,_,_,_,_,_,_,_]) S40 Z3 N3 ⟨(.r rfl), (.r rfl), (.r rfl), (.r rfl), (.r rfl), (.r rfl), (.r rfl), (.r rfl), trivial⟩ rfl rfl rfl rfl ⟨_, [_], [_,_,_,_,_,_,_,_], rfl, rfl, rfl, rfl, ⟨_, [_], [_,_,_,_,_,_,_,_], rfl, rfl, rfl, rfl, ⟨_, [_], [_,_,_,_,_,_,_,_], rfl, rfl, rfl, rfl, ⟨_, [_], [_,_,_,_,_,_,_,_], rfl, rfl, rfl, rfl, ⟨_, [_], [_,_,_,_,_,_,_,_], rfl, rfl, rfl, rfl, ⟨_, [_], [_,_,_,_,_,_,_,_], rfl, rfl, rfl, rfl, ⟨_, [_], [_,_,_,_,_,_,_,_], rfl, rfl, rfl, rfl, ⟨_, [_], [_,_,_,_,_,_,_,_], rfl, rfl, rfl, rfl, rfl⟩⟩⟩⟩⟩⟩⟩⟩ fun b1 => VO.h rfl<|HO.callx (xs := [_]) (vs := [_]) C56 ⟨(.r rfl), trivial⟩ (fun w2 hw => rowF_c b1 w2 (ints_lit _ (cells_inv (hw.inv 0 _ rfl)))) fun f1 _ => VO.h rfl<|HO.bs (ps := [(_,_), (_,_), (_,_), (_,_), (_,_), (_,_), (_,_), (_,_)]) (vs := [(_,_), (_,_), (_,_), (_,_), (_,_), (_,_), (_,_), (_,_)]) (Z := [_,_,_,_,_,_,_,_]) (C := [_,_,_,_,_,_,_,_]) S40 Z3 N3 ⟨(.r rfl), (.r rfl), (.r rfl), (.r rfl), (.r rfl), (.r rfl), (.r rfl), (.r rfl), trivial⟩ rfl rfl rfl rfl ⟨_, [_], [_,_,_,_,_,_,_,_], rfl, rfl, rfl, rfl, ⟨_, [_], [_,_,_,_,_,_,_,_], rfl, rfl, rfl, rfl, ⟨_, [_], [_,_,_,_,_,_,_,_], rfl, rfl, rfl, rfl, ⟨_, [_], [_,_,_,_,_,_,_,_], rfl, rfl, rfl, rfl, ⟨_, [_], [_,_,_,_,_,_,_,_], rfl, rfl, rfl, rfl, ⟨_, [_], [_,_,_,_,_,_,_,_], rfl, rfl, rfl, rfl, ⟨_, [_], [_,_,_,_,_,_,_,_], rfl, rfl, rfl, rfl, ⟨_, [_], [_,_,_,_,_,_,_,_], rfl, rfl, rfl, rfl, rfl⟩⟩⟩⟩⟩⟩⟩⟩ fun b3 => VO.h rfl<|HO.callx (xs := [_]) (vs := [_]) C56 ⟨(.r rfl), trivial⟩ (fun w2 hw => rowH_c b3 w2 (ints_lit _ (cells_inv (hw.inv 0 _ rfl)))) fun f2 _ => VO.h rfl<|HO.alloc (C := #[_,_,_,_,_,_]) Z26 rfl fun b5 => VO.h rfl<|HO.alloc (C := #[_,_,_,_,_,_]) Z26 rfl fun b6 => VO.h0<|HO.st 1 (vs := [_,_,_,_,_,_]) (C' := [_,_,_,_,_,_]) (L' := [_,_,_,_,_,_]) N26 rfl rfl rfl rfl rfl rfl rfl rfl<|VO.h0<|HO.st 0 (vs := [_,_,_,_,_,_]) (C' := [_,_,_,_,_,_]) (L' := [_,_,_,_,_,_]) N26 rfl rfl rfl rfl rfl rfl rfl rfl<|VO.nil ?_)
  refine VE.seqN ?_
  refine VC.seq ?_
  refine VC.rebase fun w1 hst1 => ?_
  have hf1 : Cells w1 ⟨b5,0, none⟩ [.int .i64 xG.x, .int .i64 xG.y, .int .i64 xG.size, .int .i64 xG.wide, .int .i64 xG.high, .slice f1.p xF.length f1.c] := cells_inv (hst1.inv 1 _ rfl)
  have hsF : Spans w1 f1.p xF := RO.of_own hst1 4 rfl
  have hf2 : Cells w1 ⟨b6,0, none⟩ [.int .i64 xG.x, .int .i64 xG.y, .int .i64 xG.size, .int .i64 xG.wide, .int .i64 xG.high, .slice f2.p xH.length f2.c] := cells_inv (hst1.inv 0 _ rfl)
  have hsH : Spans w1 f2.p xH := RO.of_own hst1 2 rfl
  refine VC.reg (VO.l (LO.lda (vs := [_,_,_,_,_,_]) A26 (.r rfl) (cells_keep (sub_cells (off := 0) hf1 ⟨_, rfl⟩)) rfl) rfl<|VO.h rfl<|HO.callx (xs := [_,_]) (vs := [_,_]) C17 ⟨(.r rfl), (.r rfl), trivial⟩ (fun w2 hw => xAreas_c f1.p f1.c w2 (hsF.keep w2 hw)) fun yaa hyaf => VO.h rfl<|HO.lo (LO.mv (.r rfl))<|VO.h rfl<|HO.lo (LO.ex (.r rfl) rfl)<|VO.h rfl<|HO.lo (LO.ex (.r rfl) rfl)<|VO.h rfl<|HO.lo (LO.as (.r rfl))<|VO.h rfl<|HO.lo (LO.as (.r rfl))<|VO.nil ?_)
  refine VE.seqN ?_
  refine VC.seq ?_
  refine VC.seq ?_
  obtain ⟨yy, ya⟩ := yaa
  dsimp only at hyaf
  refine VC.rebase fun w2 hst2 => ?_
  have hya0 : XaI w2 ya := XaI.of (L := []) hyaf (selK [0,1,2,3,4,5,6,7] rfl rfl _ hst2)
  have hya : ∀ {L : List Res} (w : World), St (bs w2) L w → XaI w ya := fun w hw => hya0.keep w hw
  have hf1 := cells_keep hf1 _ hst2
  have hf2 := cells_keep hf2 _ hst2
  have hsF := hsF.keep _ hst2
  have hsH := hsH.keep _ hst2
  refine VC.reg (VO.l (LO.mv (.r rfl)) rfl<|VO.l (LO.ne (.r rfl) (.r rfl)) rfl<|VO.l (LO.mv (.r rfl)) rfl<|VO.lg rfl rfl (GD.f _) (fun hg => LO.mv (.r rfl)) rfl<|VO.lg rfl rfl (GD.f _) (fun hg => LO.len S29 (.g hg rfl) rfl) rfl<|VO.lg rfl rfl (GD.f _) (fun hg => LO.ne (.g hg rfl) (.r rfl)) rfl<|VO.l (LO.pkO (.r rfl) (.r rfl) rfl rfl) rfl<|VO.l (LO.mv (.r rfl)) rfl<|VO.lg rfl rfl (GD.f _) (fun hg => LO.mv (.r rfl)) rfl<|VO.lg rfl rfl (GD.f _) (fun hg => LO.ixs S29 N73 hya0.ar.sm (.g hg rfl) (.r rfl) (j := 0) rfl Nat.zero_lt_one) rfl<|VO.lg rfl rfl (GD.f _) (fun hg => LO.fa F73_0 (.g hg rfl) rfl) rfl<|VO.lg rfl rfl (GD.f _) (fun hg => LO.ld O40 (.g hg rfl) (fun w hw => cells_part (off := 0) ((fun w3 h3 => RO.cel (hya w3 h3).ar (show [ya.a][0]? = some ya.a from rfl)) w hw) ⟨_, rfl⟩)) rfl<|VO.bc (x := 33) rfl (fun hg3_7 => (by exfalso; exact absurd hg3_7 (by decide))) (fun hg3_7 => VO.gT rfl rfl (congrArg Value.bool hg3_7) rfl<|HO.bs (ps := [(_,_), (_,_), (_,_)]) (vs := [(_,_), (_,_), (_,_)]) (Z := [_,_,_]) (C := [_,_,_]) S40 Z3 N3 ⟨(.r rfl), (.r rfl), (.r rfl), trivial⟩ rfl rfl rfl rfl ⟨_, [_], [_,_,_], rfl, rfl, rfl, rfl, ⟨_, [_], [_,_,_], rfl, rfl, rfl, rfl, ⟨_, [_], [_,_,_], rfl, rfl, rfl, rfl, rfl⟩⟩⟩ fun b17 => VO.gT rfl rfl (congrArg Value.bool hg3_7) rfl<|HO.lo (LO.call (xs := [_,_]) (vs := [_,_]) C40 ⟨(.g (by rw [hg3_7]; rfl) rfl), (.r rfl), trivial⟩ (fun w2 hw => numbers_c [0,1,2] [0,1,2] ya.pp ya.pc (some ⟨b17,0, none⟩) 3 w2 (hya w2 hw).px (ints_lit [0,1,2] (cells_inv (hw.inv 0 _ rfl))) (by decide)))<|VO.gT rfl rfl (congrArg Value.bool hg3_7) rfl<|HO.lo (LO.not (.r rfl))<|VO.h rfl<|HO.lo (LO.pkF (.r rfl) hg3_7 (.r rfl))<|VO.h rfl<|HO.lo (LO.mv (.r rfl))<|VO.lg rfl rfl (GD.f _) (fun hg => LO.mv (.r rfl)) rfl<|VO.lg rfl rfl (GD.f _) (fun hg => LO.ixs S29 N73 hya0.ar.sm (.g hg rfl) (.r rfl) (j := 0) rfl Nat.zero_lt_one) rfl<|VO.lg rfl rfl (GD.f _) (fun hg => LO.fa F73_1 (.g hg rfl) rfl) rfl<|VO.lg rfl rfl (GD.f _) (fun hg => LO.ld O41 (.g hg rfl) (fun w hw => cells_part (off := 1) ((fun w3 h3 => RO.cel (hya w3 h3).ar (show [ya.a][0]? = some ya.a from rfl)) w hw) ⟨_, rfl⟩)) rfl<|VO.bc (x := 42) rfl (fun hg3_16 => (by exfalso; exact absurd hg3_16 (by decide))) (fun hg3_16 => VO.gT rfl rfl (congrArg Value.bool hg3_16) rfl<|HO.bs (ps := [(_,_)]) (vs := [(_,_)]) (Z := [_]) (C := [_]) S40 Z3 N3 ⟨(.r rfl), trivial⟩ rfl rfl rfl rfl ⟨_, [_], [_], rfl, rfl, rfl, rfl, rfl⟩ fun b18 => VO.gT rfl rfl (congrArg Value.bool hg3_16) rfl<|HO.bs (ps := [(_,_)]) (vs := [(_,_)]) (Z := [_]) (C := [_]) S40 Z3 N3 ⟨(.r rfl), trivial⟩ rfl rfl rfl rfl ⟨_, [_], [_], rfl, rfl, rfl, rfl, rfl⟩ fun b19 => VO.gT rfl rfl (congrArg Value.bool hg3_16) rfl<|HO.bs (ps := [(_,_), (_,_)]) (vs := [(_,_), (_,_)]) (Z := [_,_]) (C := [_,_]) S41 Z40 N40 ⟨(.r rfl), (.r rfl), trivial⟩ rfl rfl rfl rfl ⟨_, [_], [_,_], rfl, rfl, rfl, rfl, ⟨_, [_], [_,_], rfl, rfl, rfl, rfl, rfl⟩⟩ fun b20 => VO.gT rfl rfl (congrArg Value.bool hg3_16) rfl<|HO.lo (LO.call (xs := [_,_]) (vs := [_,_]) C26 ⟨(.g (by rw [hg3_16]; rfl) rfl), (.r rfl), trivial⟩ (fun w2 hw => lists_c [⟨ya.p1, ya.c1, [0]⟩, ⟨ya.p2, ya.c2, [2]⟩] [⟨some ⟨b18,0, none⟩, 1, [0]⟩, ⟨some ⟨b19,0, none⟩, 1, [2]⟩] ya.kp ya.kc (some ⟨b20,0, none⟩) 2 w2 (hya w2 hw).kr (rr_lit2 (ints_lit [0] (cells_inv (hw.inv 2 _ rfl))) (ints_lit [2] (cells_inv (hw.inv 1 _ rfl))) (cells_inv (hw.inv 0 _ rfl))) (show 2 ≤ 1000000 by decide) (two_rows rfl rfl)))<|VO.gT rfl rfl (congrArg Value.bool hg3_16) rfl<|HO.lo (LO.not (.r rfl))<|VO.h rfl<|HO.lo (LO.pkF (.r rfl) hg3_16 (.r rfl))<|VO.h rfl<|HO.lo (LO.mv (.r rfl))<|VO.lg rfl rfl (GD.f _) (fun hg => LO.mv (.r rfl)) rfl<|VO.lg rfl rfl (GD.f _) (fun hg => LO.ixs S29 N73 hya0.ar.sm (.g hg rfl) (.r rfl) (j := 0) rfl Nat.zero_lt_one) rfl<|VO.lg rfl rfl (GD.f _) (fun hg => LO.fa F73_2 (.g hg rfl) rfl) rfl<|VO.lg rfl rfl (GD.f _) (fun hg => LO.lda (vs := [_,_]) A71 (.g hg rfl) (fun w hw => cells_part (off := 2) ((fun w3 h3 => RO.cel (hya w3 h3).ar (show [ya.a][0]? = some ya.a from rfl)) w hw) ⟨_, rfl⟩) rfl) rfl<|VO.lg rfl rfl (GD.f _) (fun hg => LO.bd (ps := [(_,_), (_,_)]) (vs := [(_,_), (_,_)]) (C := [_,_]) B71  ⟨(.r rfl), (.r rfl), trivial⟩ rfl ⟨_, [_], [_,_], rfl, rfl, rfl, rfl, ⟨_, [_], [_,_], rfl, rfl, rfl, rfl, rfl⟩⟩) rfl<|VO.lg rfl rfl (GD.f _) (fun hg => LO.neA («as» := [_,_]) (bs := [_,_]) EA71 (.g hg rfl) (.g hg rfl) rfl rfl) rfl<|VO.h rfl<|HO.lo (LO.pkO (.r rfl) (.r rfl) rfl rfl)<|VO.h rfl<|HO.lo (LO.mv (.r rfl))<|VO.lg rfl rfl (GD.f _) (fun hg => LO.mv (.r rfl)) rfl<|VO.lg rfl rfl (GD.f _) (fun hg => LO.ixs S29 N73 hya0.ar.sm (.g hg rfl) (.r rfl) (j := 0) rfl Nat.zero_lt_one) rfl<|VO.lg rfl rfl (GD.f _) (fun hg => LO.fa F73_4 (.g hg rfl) rfl) rfl<|VO.lg rfl rfl (GD.f _) (fun hg => LO.lda (vs := [_,_]) A71 (.g hg rfl) (fun w hw => cells_part (off := 6) ((fun w3 h3 => RO.cel (hya w3 h3).ar (show [ya.a][0]? = some ya.a from rfl)) w hw) ⟨_, rfl⟩) rfl) rfl<|VO.lg rfl rfl (GD.f _) (fun hg => LO.bd (ps := [(_,_), (_,_)]) (vs := [(_,_), (_,_)]) (C := [_,_]) B71  ⟨(.r rfl), (.r rfl), trivial⟩ rfl ⟨_, [_], [_,_], rfl, rfl, rfl, rfl, ⟨_, [_], [_,_], rfl, rfl, rfl, rfl, rfl⟩⟩) rfl<|VO.lg rfl rfl (GD.f _) (fun hg => LO.neA («as» := [_,_]) (bs := [_,_]) EA71 (.g hg rfl) (.g hg rfl) rfl rfl) rfl<|VO.h rfl<|HO.lo (LO.pkO (.r rfl) (.r rfl) rfl rfl)<|VO.nil ?_)))
  refine VE.seqN ?_
  refine VC.cond rfl (fun h68 => ?_) (fun h68 => ?_)
  ·
    (exfalso; rcases h68 with (z | z) | z <;> exact z rfl)
  ·
    refine VC.skip (VE.seqN ?_)
    refine VC.seq ?_
    refine VC.perm [] rfl ?_
    show VC _ _ _ _ _ _ [] _ _
    refine VC.reg (VO.l (LO.lda (vs := [_,_,_,_,_,_]) A26 (.r rfl) (cells_keep (sub_cells (off := 0) hf1 ⟨_, rfl⟩)) rfl) rfl<|VO.l (LO.call (xs := [_,_,_,_]) (vs := [_,_,_,_]) C20 ⟨(.r rfl), (.r rfl), (.r rfl), (.r rfl), trivial⟩ (fun w2 hw => xJoin2_c f1.p f1.c w2 (hsF.keep w2 hw))) rfl<|VO.l (LO.mv (.r rfl)) rfl<|VO.l (LO.ex (.r rfl) rfl) rfl<|VO.l (LO.ex (.r rfl) rfl) rfl<|VO.l (LO.as (.r rfl)) rfl<|VO.l (LO.as (.r rfl)) rfl<|VO.nil ?_)
    refine VE.seqN ?_
    refine VC.seq ?_
    refine VC.reg (VO.l (LO.lda (vs := [_,_,_,_,_,_]) A26 (.r rfl) (cells_keep (sub_cells (off := 0) hf1 ⟨_, rfl⟩)) rfl) rfl<|VO.l (LO.call (xs := [_,_,_,_]) (vs := [_,_,_,_]) C20 ⟨(.r rfl), (.r rfl), (.r rfl), (.r rfl), trivial⟩ (fun w2 hw => xJoin3_c f1.p f1.c w2 (hsF.keep w2 hw))) rfl<|VO.l (LO.mv (.r rfl)) rfl<|VO.l (LO.ex (.r rfl) rfl) rfl<|VO.l (LO.ex (.r rfl) rfl) rfl<|VO.l (LO.as (.r rfl)) rfl<|VO.l (LO.as (.r rfl)) rfl<|VO.nil ?_)
    refine VE.seqN ?_
    refine VC.seq ?_
    refine VC.reg (VO.l (LO.lda (vs := [_,_,_,_,_,_]) A26 (.r rfl) (cells_keep (sub_cells (off := 0) hf1 ⟨_, rfl⟩)) rfl) rfl<|VO.l (LO.call (xs := [_,_,_,_]) (vs := [_,_,_,_]) C22 ⟨(.r rfl), (.r rfl), (.r rfl), (.r rfl), trivial⟩ (fun w2 hw => xGap2_c f1.p f1.c w2 (hsF.keep w2 hw))) rfl<|VO.l (LO.mv (.r rfl)) rfl<|VO.l (LO.ex (.r rfl) rfl) rfl<|VO.l (LO.ex (.r rfl) rfl) rfl<|VO.l (LO.as (.r rfl)) rfl<|VO.l (LO.as (.r rfl)) rfl<|VO.nil ?_)
    refine VE.seqN ?_
    refine VC.seq ?_
    refine VC.reg (VO.l (LO.lda (vs := [_,_,_,_,_,_]) A26 (.r rfl) (cells_keep (sub_cells (off := 0) hf1 ⟨_, rfl⟩)) rfl) rfl<|VO.l (LO.call (xs := [_,_,_,_]) (vs := [_,_,_,_]) C22 ⟨(.r rfl), (.r rfl), (.r rfl), (.r rfl), trivial⟩ (fun w2 hw => xGap3_c f1.p f1.c w2 (hsF.keep w2 hw))) rfl<|VO.l (LO.mv (.r rfl)) rfl<|VO.l (LO.ex (.r rfl) rfl) rfl<|VO.l (LO.ex (.r rfl) rfl) rfl<|VO.l (LO.as (.r rfl)) rfl<|VO.l (LO.as (.r rfl)) rfl<|VO.nil ?_)
    refine VE.seqN ?_
    refine VC.seq ?_
    refine VC.seq ?_
    refine VC.reg (VO.l (LO.mv (.r rfl)) rfl<|VO.l (LO.ne (.r rfl) (.r rfl)) rfl<|VO.l (LO.mv (.r rfl)) rfl<|VO.lg rfl rfl (GD.f _) (fun hg => LO.mv (.r rfl)) rfl<|VO.lg rfl rfl (GD.f _) (fun hg => LO.ne (.g hg rfl) (.r rfl)) rfl<|VO.l (LO.pkO (.r rfl) (.r rfl) rfl rfl) rfl<|VO.l (LO.mv (.r rfl)) rfl<|VO.lg rfl rfl (GD.f _) (fun hg => LO.mv (.r rfl)) rfl<|VO.lg rfl rfl (GD.f _) (fun hg => LO.ne (.g hg rfl) (.r rfl)) rfl<|VO.l (LO.pkO (.r rfl) (.r rfl) rfl rfl) rfl<|VO.l (LO.mv (.r rfl)) rfl<|VO.lg rfl rfl (GD.f _) (fun hg => LO.mv (.r rfl)) rfl<|VO.lg rfl rfl (GD.f _) (fun hg => LO.ne (.g hg rfl) (.r rfl)) rfl<|VO.l (LO.pkO (.r rfl) (.r rfl) rfl rfl) rfl<|VO.l (LO.mv (.r rfl)) rfl<|VO.lg rfl rfl (GD.f _) (fun hg => LO.mv (.r rfl)) rfl<|VO.lg rfl rfl (GD.f _) (fun hg => LO.ne (.g hg rfl) (.r rfl)) rfl<|VO.l (LO.pkO (.r rfl) (.r rfl) rfl rfl) rfl<|VO.l (LO.mv (.r rfl)) rfl<|VO.lg rfl rfl (GD.f _) (fun hg => LO.mv (.r rfl)) rfl<|VO.lg rfl rfl (GD.f _) (fun hg => LO.ne (.g hg rfl) (.r rfl)) rfl<|VO.l (LO.pkO (.r rfl) (.r rfl) rfl rfl) rfl<|VO.l (LO.mv (.r rfl)) rfl<|VO.lg rfl rfl (GD.f _) (fun hg => LO.mv (.r rfl)) rfl<|VO.lg rfl rfl (GD.f _) (fun hg => LO.ne (.g hg rfl) (.r rfl)) rfl<|VO.l (LO.pkO (.r rfl) (.r rfl) rfl rfl) rfl<|VO.l (LO.mv (.r rfl)) rfl<|VO.lg rfl rfl (GD.f _) (fun hg => LO.mv (.r rfl)) rfl<|VO.lg rfl rfl (GD.f _) (fun hg => LO.ne (.g hg rfl) (.r rfl)) rfl<|VO.l (LO.pkO (.r rfl) (.r rfl) rfl rfl) rfl<|VO.nil ?_)
    refine VE.seqN ?_
    refine VC.cond rfl (fun h118 => ?_) (fun h118 => ?_)
    ·
      (exfalso; exact absurd h118 (by decide))
    ·
      refine VC.skip (VE.seqN ?_)
      refine VC.seq ?_
      refine VC.reg (VO.l (LO.lda (vs := [_,_,_,_,_,_]) A26 (.r rfl) (cells_keep (sub_cells (off := 0) hf1 ⟨_, rfl⟩)) rfl) rfl<|VO.h rfl<|HO.bs (ps := [(_,_), (_,_)]) (vs := [(_,_), (_,_)]) (Z := [_,_]) (C := [_,_]) S40 Z3 N3 ⟨(.r rfl), (.r rfl), trivial⟩ rfl rfl rfl rfl ⟨_, [_], [_,_], rfl, rfl, rfl, rfl, ⟨_, [_], [_,_], rfl, rfl, rfl, rfl, rfl⟩⟩ fun b21 => VO.h rfl<|HO.callx (xs := [_,_]) (vs := [_,_]) C24 ⟨(.r rfl), (.r rfl), trivial⟩ (fun w2 hw => xTree_c f1.p f1.c b21 w2 (hsF.keep w2 hw) (ints_lit [1,5] (cells_inv (hw.inv 0 _ rfl)))) fun yt _ => VO.h rfl<|HO.lo (LO.mv (.r rfl))<|VO.h rfl<|HO.lo (LO.ex (.r rfl) rfl)<|VO.h rfl<|HO.lo (LO.ex (.r rfl) rfl)<|VO.h rfl<|HO.lo (LO.as (.r rfl))<|VO.h rfl<|HO.lo (LO.as (.r rfl))<|VO.nil ?_)
      refine VE.seqN ?_
      refine VC.seq ?_
      refine VC.reg (VO.l (LO.lda (vs := [_,_,_,_,_,_]) A26 (.r rfl) (cells_keep (sub_cells (off := 0) hf1 ⟨_, rfl⟩)) rfl) rfl<|VO.l (LO.lda (vs := [_,_,_,_,_,_]) A26 (.r rfl) (cells_keep (sub_cells (off := 0) hf2 ⟨_, rfl⟩)) rfl) rfl<|VO.h rfl<|HO.callx (xs := [_,_,_,_]) (vs := [_,_,_,_]) C27 ⟨(.r rfl), (.r rfl), (.r rfl), (.r rfl), trivial⟩ (fun w2 hw => xMatch_c f1.p f1.c f2.p f2.c w2 (hsF.keep w2 hw) (hsH.keep w2 hw)) fun ye _ => VO.h rfl<|HO.lo (LO.mv (.r rfl))<|VO.h rfl<|HO.lo (LO.ex (.r rfl) rfl)<|VO.h rfl<|HO.lo (LO.ex (.r rfl) rfl)<|VO.h rfl<|HO.lo (LO.as (.r rfl))<|VO.h rfl<|HO.lo (LO.as (.r rfl))<|VO.nil ?_)
      refine VE.seqN ?_
      refine VC.seq ?_
      refine VC.reg (VO.l (LO.lda (vs := [_,_,_,_,_,_]) A26 (.r rfl) (cells_keep (sub_cells (off := 0) hf1 ⟨_, rfl⟩)) rfl) rfl<|VO.l (LO.lda (vs := [_,_,_,_,_,_]) A26 (.r rfl) (cells_keep (sub_cells (off := 0) hf2 ⟨_, rfl⟩)) rfl) rfl<|VO.h rfl<|HO.callx (xs := [_,_,_,_,_,_]) (vs := [_,_,_,_,_,_]) C30 ⟨(.r rfl), (.r rfl), (.r rfl), (.r rfl), (.r rfl), (.r rfl), trivial⟩ (fun w2 hw => xMoves_c f1.p f1.c f2.p f2.c w2 (hsF.keep w2 hw) (hsH.keep w2 hw)) fun ym _ => VO.h rfl<|HO.lo (LO.mv (.r rfl))<|VO.h rfl<|HO.lo (LO.ex (.r rfl) rfl)<|VO.h rfl<|HO.lo (LO.ex (.r rfl) rfl)<|VO.h rfl<|HO.lo (LO.as (.r rfl))<|VO.h rfl<|HO.lo (LO.as (.r rfl))<|VO.nil ?_)
      refine VE.seqN ?_
      refine VC.seq ?_
      refine VC.seq ?_
      refine VC.reg (VO.l (LO.mv (.r rfl)) rfl<|VO.l (LO.ne (.r rfl) (.r rfl)) rfl<|VO.l (LO.mv (.r rfl)) rfl<|VO.lg rfl rfl (GD.f _) (fun hg => LO.mv (.r rfl)) rfl<|VO.lg rfl rfl (GD.f _) (fun hg => LO.ne (.g hg rfl) (.r rfl)) rfl<|VO.l (LO.pkO (.r rfl) (.r rfl) rfl rfl) rfl<|VO.l (LO.mv (.r rfl)) rfl<|VO.lg rfl rfl (GD.f _) (fun hg => LO.mv (.r rfl)) rfl<|VO.lg rfl rfl (GD.f _) (fun hg => LO.ne (.g hg rfl) (.r rfl)) rfl<|VO.l (LO.pkO (.r rfl) (.r rfl) rfl rfl) rfl<|VO.l (LO.mv (.r rfl)) rfl<|VO.lg rfl rfl (GD.f _) (fun hg => LO.mv (.r rfl)) rfl<|VO.bc (x := 147) rfl (fun hg14_10 => (by exfalso; exact absurd hg14_10 (by decide))) (fun hg14_10 => VO.gT rfl rfl (congrArg Value.bool hg14_10) rfl<|HO.bs (ps := [(_,_)]) (vs := [(_,_)]) (Z := [_]) (C := [_]) S40 Z3 N3 ⟨(.r rfl), trivial⟩ rfl rfl rfl rfl ⟨_, [_], [_], rfl, rfl, rfl, rfl, rfl⟩ fun b28 => VO.gT rfl rfl (congrArg Value.bool hg14_10) rfl<|HO.bs (ps := [(_,_)]) (vs := [(_,_)]) (Z := [_]) (C := [_]) S40 Z3 N3 ⟨(.r rfl), trivial⟩ rfl rfl rfl rfl ⟨_, [_], [_], rfl, rfl, rfl, rfl, rfl⟩ fun b29 => VO.gT rfl rfl (congrArg Value.bool hg14_10) rfl<|HO.bs (ps := [(_,_), (_,_)]) (vs := [(_,_), (_,_)]) (Z := [_,_]) (C := [_,_]) S41 Z40 N40 ⟨(.r rfl), (.r rfl), trivial⟩ rfl rfl rfl rfl ⟨_, [_], [_,_], rfl, rfl, rfl, rfl, ⟨_, [_], [_,_], rfl, rfl, rfl, rfl, rfl⟩⟩ fun b30 => VO.gT rfl rfl (congrArg Value.bool hg14_10) rfl<|HO.lo (LO.call (xs := [_,_]) (vs := [_,_]) C26 ⟨(.g (by rw [hg14_10]; rfl) rfl), (.r rfl), trivial⟩ (fun w2 hw => lists_c [⟨yt.p1, yt.c1, [-1]⟩, ⟨yt.p2, yt.c2, [0]⟩] [⟨some ⟨b28,0, none⟩, 1, [-1]⟩, ⟨some ⟨b29,0, none⟩, 1, [0]⟩] yt.p yt.c (some ⟨b30,0, none⟩) 2 w2 (RR.of_own hw 7 8 rfl rfl) (rr_lit2 (ints_lit [-1] (cells_inv (hw.inv 2 _ rfl))) (ints_lit [0] (cells_inv (hw.inv 1 _ rfl))) (cells_inv (hw.inv 0 _ rfl))) (show 2 ≤ 1000000 by decide) (two_rows rfl rfl)))<|VO.gT rfl rfl (congrArg Value.bool hg14_10) rfl<|HO.lo (LO.not (.r rfl))<|VO.h rfl<|HO.lo (LO.pkF (.r rfl) hg14_10 (.r rfl))<|VO.h rfl<|HO.lo (LO.mv (.r rfl))<|VO.lg rfl rfl (GD.f _) (fun hg => LO.mv (.r rfl)) rfl<|VO.lg rfl rfl (GD.f _) (fun hg => LO.len S46 (.g hg rfl) rfl) rfl<|VO.lg rfl rfl (GD.f _) (fun hg => LO.ne (.g hg rfl) (.r rfl)) rfl<|VO.h rfl<|HO.lo (LO.pkO (.r rfl) (.r rfl) rfl rfl)<|VO.h rfl<|HO.lo (LO.mv (.r rfl))<|VO.lg rfl rfl (GD.f _) (fun hg => LO.mv (.r rfl)) rfl<|VO.lg rfl rfl (GD.f _) (fun hg => LO.ixo S46 N81 (fun _ hw => (own_rows hw 4 rfl).some (by rfl)) (.g hg rfl) (.r rfl) (j := 0) rfl Nat.zero_lt_one) rfl<|VO.lg rfl rfl (GD.f _) (fun hg => LO.fa F81_0 (.g hg rfl) rfl) rfl<|VO.lg rfl rfl (GD.f _) (fun hg => LO.ld O3 (.g hg rfl) (fun w hw => cells_part (off := 0) (own_cell hw 4 rfl (show [ye.e][0]? = some ye.e from rfl)) ⟨_, rfl⟩)) rfl<|VO.lg rfl rfl (GD.f _) (fun hg => LO.ne (.g hg rfl) (.r rfl)) rfl<|VO.h rfl<|HO.lo (LO.pkO (.r rfl) (.r rfl) rfl rfl)<|VO.h rfl<|HO.lo (LO.mv (.r rfl))<|VO.lg rfl rfl (GD.f _) (fun hg => LO.mv (.r rfl)) rfl<|VO.lg rfl rfl (GD.f _) (fun hg => LO.len S53 (.g hg rfl) rfl) rfl<|VO.lg rfl rfl (GD.f _) (fun hg => LO.ne (.g hg rfl) (.r rfl)) rfl<|VO.h rfl<|HO.lo (LO.pkO (.r rfl) (.r rfl) rfl rfl)<|VO.h rfl<|HO.lo (LO.mv (.r rfl))<|VO.lg rfl rfl (GD.f _) (fun hg => LO.mv (.r rfl)) rfl<|VO.lg rfl rfl (GD.f _) (fun hg => LO.ixo S53 N85 (fun _ hw => (own_rows hw 3 rfl).some (by rfl)) (.g hg rfl) (.r rfl) (j := 3) rfl (by decide)) rfl<|VO.lg rfl rfl (GD.f _) (fun hg => LO.lda (vs := [_,_]) A85 (.g hg rfl) (fun w hw => cells_part (off := 0) (own_cell hw 3 rfl (show xMv[3]? = some _ from rfl)) ⟨_, rfl⟩) rfl) rfl<|VO.lg rfl rfl (GD.f _) (fun hg => LO.bd (ps := [(_,_)]) (vs := [(_,_)]) (C := [_,_]) B85  ⟨(.r rfl), trivial⟩ rfl ⟨_, [_], [_,_], rfl, rfl, rfl, rfl, rfl⟩) rfl<|VO.lg rfl rfl (GD.f _) (fun hg => LO.neA («as» := [_,_]) (bs := [_,_]) EA85 (.g hg rfl) (.g hg rfl) rfl rfl) rfl<|VO.h rfl<|HO.lo (LO.pkO (.r rfl) (.r rfl) rfl rfl)<|VO.h rfl<|HO.lo (LO.mv (.r rfl))<|VO.lg rfl rfl (GD.f _) (fun hg => LO.mv (.r rfl)) rfl<|VO.lg rfl rfl (GD.f _) (fun hg => LO.ixo S53 N85 (fun _ hw => (own_rows hw 3 rfl).some (by rfl)) (.g hg rfl) (.r rfl) (j := 4) rfl (by decide)) rfl<|VO.lg rfl rfl (GD.f _) (fun hg => LO.lda (vs := [_,_]) A85 (.g hg rfl) (fun w hw => cells_part (off := 0) (own_cell hw 3 rfl (show xMv[4]? = some _ from rfl)) ⟨_, rfl⟩) rfl) rfl<|VO.lg rfl rfl (GD.f _) (fun hg => LO.bd (ps := [(_,_)]) (vs := [(_,_)]) (C := [_,_]) B85  ⟨(.r rfl), trivial⟩ rfl ⟨_, [_], [_,_], rfl, rfl, rfl, rfl, rfl⟩) rfl<|VO.lg rfl rfl (GD.f _) (fun hg => LO.neA («as» := [_,_]) (bs := [_,_]) EA85 (.g hg rfl) (.g hg rfl) rfl rfl) rfl<|VO.h rfl<|HO.lo (LO.pkO (.r rfl) (.r rfl) rfl rfl)<|VO.nil ?_))
      refine VE.seqN ?_
      refine VC.cond rfl (fun h185 => ?_) (fun h185 => ?_)
      ·
        (exfalso; rcases h185 with ((((z | z) | z) | z) | z) | z <;> exact z rfl)
      ·
        refine VC.skip (VE.seqN ?_)
        refine VC.seq ?_
        refine VC.perm [] rfl ?_
        show VC _ _ _ _ _ _ [] _ _
        refine VC.reg (VO.l (LO.fa (r := 0) F26_0 (.r rfl) rfl) rfl<|VO.l (LO.lda (vs := [_,_,_,_,_]) A23 (.r rfl) (cells_keep (sub_cells (off := 0) hf1 ⟨_, rfl⟩)) rfl) rfl<|VO.h rfl<|HO.callx (xs := [_,_,_]) (vs := [_,_,_]) C47 ⟨(.r rfl), (.r rfl), (.r rfl), trivial⟩ (fun w2 hw => NewBook_ok xG 5 1 w2 xBook) fun yb _ => VO.h rfl<|HO.lo (LO.mv (.r rfl))<|VO.h rfl<|HO.lo (LO.ex (.r rfl) rfl)<|VO.h rfl<|HO.lo (LO.ex (.r rfl) rfl)<|VO.h rfl<|HO.lo (LO.as (.r rfl))<|VO.h rfl<|HO.lo (LO.as (.r rfl))<|VO.nil ?_)
        refine VE.seqN ?_
        refine VC.seq ?_
        refine VC.seq ?_
        refine VC.reg (VO.l (LO.mv (.r rfl)) rfl<|VO.l (LO.ne (.r rfl) (.r rfl)) rfl<|VO.nil ?_)
        refine VE.seqN ?_
        refine VC.cond rfl (fun h193 => ?_) (fun h193 => ?_)
        ·
          (exfalso; exact absurd h193 (by decide))
        ·
          refine VC.skip (VE.seqN ?_)
          refine VC.seq ?_
          refine VC.res (fun w hw => St.bagD (Rs := []) (St.bagD (Rs := []) ((St.bagD (Rs := []) ((hw.ownNil 109 6)) ).ownNil 154 7))) ?_
          refine VC.reg (VO.l (LO.mv (.r rfl)) rfl<|VO.l (LO.lda (vs := [_,_,_,_,_,_]) A26 (.r rfl) (cells_keep (sub_cells (off := 0) hf1 ⟨_, rfl⟩)) rfl) rfl<|VO.h rfl<|HO.callP (first := []) (cap := []) (xs := [_,_,_]) (vs := [_,_,_]) [_,_,_,_,_,_,_] [] (selK (L1 := [_,_,_,_,_,_,_] ++ []) [5,4,3,6,2,0,1] rfl rfl) (.r rfl) C48 ⟨(.r rfl), (.r rfl), (.r rfl), trivial⟩ (fun w2 hw hh => Add_0 yb.1 (xBk yb.2) (-1) none 0 none 0 (fun _ => 0) [] (fun _ => none) 10 xF f1.p f1.c w2 hh (fun hs => hsF.keep _ (St.fz (R := bkF yb.1 (xBk yb.2) (-1) none 0 [] none 0 (fun _ => 0) [] (fun _ => none)) (rest := []) (selK (L1 := [_,_,_,_,_,_,_]) [5,4,3,6,2,0,1] rfl rfl _ hw) hs)) (xAdd0 _) (show (1 : Int) ≤ 5 ∧ (5 : Int) ≤ 1073741824 by decide) (by decide)) fun ad had => VO.h rfl<|HO.lo (LO.mv (.r rfl))<|VO.h rfl<|HO.lo (LO.ex (.r rfl) rfl)<|VO.h rfl<|HO.lo (LO.ex (.r rfl) rfl)<|VO.h rfl<|HO.lo (LO.as (.r rfl))<|VO.nil ?_)
          have hadn : ad.yN.l.length = 1 := by rw [← ar_len had.1]; exact xNf
          have hadl : ad.tk.length ≤ 800000 := by have z := had.2.2; rw [hadn] at z; exact Nat.le_trans z (by decide)
          refine VE.seqN ?_
          refine VC.seq ?_
          refine VC.reg (VO.l (LO.mv (.r rfl)) rfl<|VO.l (LO.lda (vs := [_,_,_,_,_,_]) A26 (.r rfl) (cells_keep (sub_cells (off := 0) hf2 ⟨_, rfl⟩)) rfl) rfl<|VO.h rfl<|HO.callP (first := []) (cap := []) (xs := [_,_,_]) (vs := [_,_,_]) [_,_,_,_,_,_,_] [_,_,_,_,_,_,_,_] (selK (L1 := [_,_,_,_,_,_,_] ++ [_,_,_,_,_,_,_,_]) [0,1,2,3,4,5,6,7,8,9,10,11,12,13,14] rfl rfl) (.r rfl) C48 ⟨(.r rfl), (.r rfl), (.r rfl), trivial⟩ (fun w2 hw hh => Add_1 yb.1 (xBk yb.2) 10 ad.pm ad.cm [ad.yN] ad.pt ad.ct (fun _ => 0) ad.tk ad.of 20 xH f2.p f2.c w2 hh (fun hs => hsH.keep _ (St.fz (R := bkF yb.1 (xBk yb.2) 10 ad.pm ad.cm [ad.yN] ad.pt ad.ct (fun _ => 0) ad.tk ad.of) (rest := [_,_,_,_,_,_,_,_]) (selK (L1 := [_,_,_,_,_,_,_,_,_,_,_,_,_,_,_]) [0,1,2,3,4,5,6,7,8,9,10,11,12,13,14] rfl rfl _ hw) hs)) (xAdd1 _) (show (1 : Int) ≤ 5 ∧ (5 : Int) ≤ 1073741824 by decide) hadl 0 1 rfl (show 1 ≤ 48 by decide) ad.yN rfl xF had.1 (fun hs => SpI.of_res (St.rightOf (St.fz (R := bkF yb.1 (xBk yb.2) 10 ad.pm ad.cm [ad.yN] ad.pt ad.ct (fun _ => 0) ad.tk ad.of) (rest := [_,_,_,_,_,_,_,_]) (selK (L1 := [_,_,_,_,_,_,_,_,_,_,_,_,_,_,_]) [0,1,2,3,4,5,6,7,8,9,10,11,12,13,14] rfl rfl _ hw) hs)) had.1 0 1 3 7 rfl rfl rfl rfl) [[]] [ad.yN.l.length] (book0 had.2.1) rfl rfl rfl (by decide) (fun _ => by decide)) fun ae hae => VO.h rfl<|HO.lo (LO.mv (.r rfl))<|VO.h rfl<|HO.lo (LO.ex (.r rfl) rfl)<|VO.h rfl<|HO.lo (LO.ex (.r rfl) rfl)<|VO.h rfl<|HO.lo (LO.as (.r rfl))<|VO.nil ?_)
          have haen : ae.yN.l.length = 1 := by rw [← ar_len hae.ar]; exact xNh
          have hes : ae.ev.l.map EvR.m = [⟨4, [0], [0]⟩] := by have z := hae.ev; rw [hadn, haen] at z; exact xEv z
          have hkd := hae.kd
          rw [hes] at hkd
          have hb0 := had.2.1
          rw [hadn] at hb0
          have hb1 := hae.trk
          rw [hes, haen] at hb1
          obtain ⟨htkm, hks⟩ := exB1 hb0 hb1
          refine VE.seqN ?_
          refine VC.seq ?_
          refine VC.reg (VO.l (LO.mv (.r rfl)) rfl<|VO.l (LO.lda (vs := [_,_,_,_,_,_]) A26 (.r rfl) (cells_keep (sub_cells (off := 0) hf2 ⟨_, rfl⟩)) rfl) rfl<|VO.l (LO.call (xs := [_,_,_]) (vs := [_,_,_]) C48 ⟨(.r rfl), (.r rfl), (.r rfl), trivial⟩ (fun w2 hw => xLate_c yb.1 yb.2 _ _ _ _ _ f2.p f2.c w2 (cells_inv (hw.inv 0 _ rfl)) (hsH.keep w2 hw))) rfl<|VO.l (LO.mv (.r rfl)) rfl<|VO.l (LO.ex (.r rfl) rfl) rfl<|VO.l (LO.ex (.r rfl) rfl) rfl<|VO.l (LO.as (.r rfl)) rfl<|VO.nil ?_)
          refine VE.seqN ?_
          refine VC.seq ?_
          refine VC.reg (VO.l (LO.mv (.r rfl)) rfl<|VO.h rfl<|HO.callx (xs := [_]) (vs := [_]) C49 ⟨(.r rfl), trivial⟩ (fun w2 hw => xTracks_c yb.1 _ _ _ _ _ _ ae.tk w2 (cells_inv (hw.inv 0 _ rfl)) (RO.of_own hw 1 rfl) (fun t ht => ⟨(RO.of_bag (E := 3) (z := 1) (P := TkR.ap) (C := TkR.ac) (X := TkR.ar) (f := nC) hw 2 rfl ht), (RO.of_bag (E := 3) (z := 1) (P := TkR.pp) (C := TkR.pc) (X := TkR.pa) (f := nC) hw 5 rfl ht), (RO.of_bag (E := 3) (z := 1) (P := TkR.cp) (C := TkR.cc) (X := TkR.ch) (f := nC) hw 6 rfl ht)⟩) htkm) fun yk _ => VO.l (LO.as (.r rfl)) rfl<|VO.nil ?_)
          refine VE.seqN ?_
          refine VC.seq ?_
          refine VC.reg (VO.l (LO.mv (.r rfl)) rfl<|VO.l (LO.eq (.r rfl) (.r rfl)) rfl<|VO.l (LO.mv (.r rfl)) rfl<|VO.lg rfl rfl (GD.t _) (fun hg => LO.mv (.r rfl)) rfl<|VO.lg rfl rfl (GD.t _) (fun hg => LO.eq (.g hg rfl) (.r rfl)) rfl<|VO.l (LO.pkA (.r rfl) rfl rfl (.r rfl)) rfl<|VO.l (LO.mv (.r rfl)) rfl<|VO.lg rfl rfl (GD.t _) (fun hg => LO.mv (.r rfl)) rfl<|VO.lg rfl rfl (GD.t _) (fun hg => LO.eq (.g hg rfl) (.r rfl)) rfl<|VO.l (LO.pkA (.r rfl) rfl rfl (.r rfl)) rfl<|VO.l (LO.mv (.r rfl)) rfl<|VO.lg rfl rfl (GD.t _) (fun hg => LO.mv (.r rfl)) rfl<|VO.lg rfl rfl (GD.t _) (fun hg => LO.len S102 (.g hg rfl) rfl) rfl<|VO.lg rfl rfl (GD.t _) (fun hg => LO.eq (.g hg rfl) (.r rfl)) rfl<|VO.l (LO.pkA (.r rfl) rfl rfl (.r rfl)) rfl<|VO.l (LO.mv (.r rfl)) rfl<|VO.lg rfl rfl (GD.t _) (fun hg => LO.mv (.r rfl)) rfl<|VO.lg rfl rfl (GD.t _) (fun hg => LO.ixo S102 N109 (fun _ hw => (own_rows hw 0 rfl).some (by rfl)) (.g hg rfl) (.r rfl) (j := 0) rfl Nat.zero_lt_one) rfl<|VO.lg rfl rfl (GD.t _) (fun hg => LO.fa F109_0 (.g hg rfl) rfl) rfl<|VO.lg rfl rfl (GD.t _) (fun hg => LO.ld O3 (.g hg rfl) (fun w hw => cells_part (off := 0) (own_cell hw 0 rfl (show [yk.t][0]? = some yk.t from rfl)) ⟨_, rfl⟩)) rfl<|VO.lg rfl rfl (GD.t _) (fun hg => LO.eq (.g hg rfl) (.r rfl)) rfl<|VO.l (LO.pkA (.r rfl) rfl rfl (.r rfl)) rfl<|VO.l (LO.mv (.r rfl)) rfl<|VO.lg rfl rfl (GD.t _) (fun hg => LO.mv (.r rfl)) rfl<|VO.lg rfl rfl (GD.t _) (fun hg => LO.ixo S102 N109 (fun _ hw => (own_rows hw 0 rfl).some (by rfl)) (.g hg rfl) (.r rfl) (j := 0) rfl Nat.zero_lt_one) rfl<|VO.lg rfl rfl (GD.t _) (fun hg => LO.fa F109_3 (.g hg rfl) rfl) rfl<|VO.lg rfl rfl (GD.t _) (fun hg => LO.ld O3 (.g hg rfl) (fun w hw => cells_part (off := 3) (own_cell hw 0 rfl (show [yk.t][0]? = some yk.t from rfl)) ⟨_, rfl⟩)) rfl<|VO.lg rfl rfl (GD.t _) (fun hg => LO.eq (.g hg rfl) (.r rfl)) rfl<|VO.l (LO.pkA (.r rfl) rfl rfl (.r rfl)) rfl<|VO.l (LO.mv (.r rfl)) rfl<|VO.lg rfl rfl (GD.t _) (fun hg => LO.mv (.r rfl)) rfl<|VO.lg rfl rfl (GD.t _) (fun hg => LO.ixo S102 N109 (fun _ hw => (own_rows hw 0 rfl).some (by rfl)) (.g hg rfl) (.r rfl) (j := 0) rfl Nat.zero_lt_one) rfl<|VO.lg rfl rfl (GD.t _) (fun hg => LO.fa F109_2 (.g hg rfl) rfl) rfl<|VO.lg rfl rfl (GD.t _) (fun hg => LO.ld O40 (.g hg rfl) (fun w hw => cells_part (off := 2) (own_cell hw 0 rfl (show [yk.t][0]? = some yk.t from rfl)) ⟨_, rfl⟩)) rfl<|VO.bc (x := 243) rfl (fun hg23_29 => VO.gT rfl rfl (congrArg Value.bool hg23_29) rfl<|HO.bs (ps := [(_,_), (_,_)]) (vs := [(_,_), (_,_)]) (Z := [_,_]) (C := [_,_]) S40 Z3 N3 ⟨(.r rfl), (.r rfl), trivial⟩ rfl rfl rfl rfl ⟨_, [_], [_,_], rfl, rfl, rfl, rfl, ⟨_, [_], [_,_], rfl, rfl, rfl, rfl, rfl⟩⟩ fun b75 => VO.gT rfl rfl (congrArg Value.bool hg23_29) rfl<|HO.lo (LO.call (xs := [_,_]) (vs := [_,_]) C40 ⟨(.g hg23_29 rfl), (.r rfl), trivial⟩ (fun w2 hw => numbers_c [0,0] [0,0] yk.ap yk.ac (some ⟨b75,0, none⟩) 2 w2 (ints_nat (RO.of_bag (E := 3) (z := 1) (P := TkR.ap) (C := TkR.ac) (X := TkR.ar) (f := nC) (x := yk.t) hw 2 rfl (List.mem_singleton.2 rfl))) (ints_lit [0,0] (cells_inv (hw.inv 0 _ rfl))) (by decide)))<|VO.h rfl<|HO.lo (LO.pkT (.r rfl) hg23_29 (.r rfl))<|VO.h rfl<|HO.lo (LO.mv (.r rfl))<|VO.lg rfl rfl (GD.t _) (fun hg => LO.mv (.r rfl)) rfl<|VO.lg rfl rfl (GD.t _) (fun hg => LO.call (xs := [_]) (vs := [_]) C50 ⟨(.g hg rfl), trivial⟩ (fun w2 hw => xTally_c yb.1 yb.2 _ _ _ ([ad.yN] ++ [ae.yN]) _ _ _ ae.tk ae.of w2 (cells_inv (hw.inv 5 _ rfl)) (hw.inv 8 _ rfl) rfl htkm hks hkd)) rfl<|VO.lg rfl rfl (GD.t _) (fun hg => LO.bd (ps := [(_,_), (_,_), (_,_), (_,_)]) (vs := [(_,_), (_,_), (_,_), (_,_)]) (C := [_,_,_,_,_,_,_,_,_]) B105  ⟨(.r rfl), (.r rfl), (.r rfl), (.r rfl), trivial⟩ rfl ⟨_, [_], [_,_,_,_,_,_,_,_,_], rfl, rfl, rfl, rfl, ⟨_, [_], [_,_,_,_,_,_,_,_,_], rfl, rfl, rfl, rfl, ⟨_, [_], [_,_,_,_,_,_,_,_,_], rfl, rfl, rfl, rfl, ⟨_, [_], [_,_,_,_,_,_,_,_,_], rfl, rfl, rfl, rfl, rfl⟩⟩⟩⟩) rfl<|VO.lg rfl rfl (GD.t _) (fun hg => LO.eqA («as» := [_,_,_,_,_,_,_,_,_]) (bs := [_,_,_,_,_,_,_,_,_]) EA105 (.g hg rfl) (.g hg rfl) rfl rfl) rfl<|VO.h rfl<|HO.lo (LO.pkA (.r rfl) rfl rfl (.r rfl))<|VO.h rfl<|HO.lo (LO.as (.r rfl))<|VO.nil ?_) (fun hg23_29 => (by exfalso; exact absurd (hg23_29.symm.trans (show _ = true from rfl)) (by decide))))
          refine VE.seqN ?_
          refine VC.ret (VE.res (vs := [_]) rfl ⟨rfl, trivial⟩ (fun w hw => ?_))
          exact ⟨rfl, (hst1.call (hst2.call hw)).nil⟩

end Go.Proofs.Ytgemekpofpoopaa

namespace Go.Proofs.Ytgemekpofpoopaa
open Go.SL Go.Proofs Go.Cast Go.Cell
set_option linter.unusedVariables false

theorem C16 : IsFn Try.prog 16 := ⟨_, Try.func16, by decide, rfl⟩
end Go.Proofs.Ytgemekpofpoopaa

namespace Go.Proofs.Ytgemekpofpoopaa
open Go.SL Go.Proofs Go.Cast Go.Cell
set_option linter.unusedVariables false

theorem F63_0 : FieldAt Try.prog 63 0 0 := ⟨_,_, Try.underlying63, rfl, rfl, 0, by kernel_rfl⟩
theorem O5 : IsOne Try.prog 5 := ⟨⟨_, Try.underlying5, rfl⟩, by kernel_rfl⟩
theorem F63_1 : FieldAt Try.prog 63 1 1 := ⟨_,_, Try.underlying63, rfl, rfl, 0, by kernel_rfl⟩
theorem F63_2 : FieldAt Try.prog 63 2 2 := ⟨_,_, Try.underlying63, rfl, rfl, 0, by kernel_rfl⟩
theorem O61 : IsOne Try.prog 61 := ⟨⟨_, Try.underlying61, rfl⟩, by kernel_rfl⟩
theorem S61 : IsSlice Try.prog 61 5 := Try.underlying61
theorem N5 : (Try.prog.info? 5).map (·.size) = some 1 := by kernel_rfl
theorem F63_3 : FieldAt Try.prog 63 3 3 := ⟨_,_, Try.underlying63, rfl, rfl, 0, by kernel_rfl⟩


abbrev uC (n : Nat) : List Value := [.int .u8 (n : Int)]
structure MapA where
  w : Nat
  h : Nat
  pl : Option Addr
  cl : Nat
  lo : List Nat
  pm : Option Addr
  cm : Nat
  mo : List Nat
def MapA.cells (x : MapA) : List Value := [.int .u8 (x.w : Int), .int .u8 (x.h : Int), .slice x.pl x.lo.length x.cl, .slice x.pm x.mo.length x.cm]
abbrev MapA.V (x : MapA) : Value := .agg #[.int .u8 (x.w : Int), .int .u8 (x.h : Int), .slice x.pl x.lo.length x.cl, .slice x.pm x.mo.length x.cm]
structure MapI (w : World) (x : MapA) : Prop where
  lo : RO 1 uC w x.pl x.lo
  mo : RO 1 uC w x.pm x.mo
structure MapK (x : MapA) : Prop where
  w : x.w ≤ 255
  h : x.h ≤ 255
  lo : ∀ n, n ∈ x.lo → n ≤ 255
  mo : ∀ n, n ∈ x.mo → n ≤ 255
  ll : x.lo.length ≤ 9223372036854775807
  ml : x.mo.length ≤ 9223372036854775807
theorem MapI.keep {w0 : World} {x : MapA} (h : MapI w0 x) : ∀ {L : List Res} (w : World), St (bs w0) L w → MapI w x := fun w hw => ⟨h.lo.keep w hw, h.mo.keep w hw⟩
def vAt (l : List Nat) (m i : Nat) : Nat := if 0 < l.length then l.getD (i % l.length) 0 % m else 0
def mapW (x : MapA) : Nat := 1 + x.w % 6
def mapH (x : MapA) : Nat := 1 + x.h % 6
abbrev mapG (x : MapA) : Grid := ⟨0,0,1000, (mapW x : Int), (mapH x : Int)⟩
def mapAt (x : MapA) (i : Nat) : Span := ⟨((vAt x.lo 40 i : Nat) : Int), ((vAt x.lo 40 i : Nat) : Int) + ((vAt x.mo 30 i : Nat) : Int)⟩
def mapTo (x : MapA) (k : Nat) : List Span := (List.range k).map (mapAt x)
def mapVs (x : MapA) : List Span := mapTo x (mapW x * mapH x)
theorem mapTo_succ {x : MapA} {k : Nat} : mapTo x (k + 1) = mapTo x k ++ [mapAt x k] := by unfold mapTo; rw [List.range_succ, List.map_append]; rfl
theorem mapTo_len {x : MapA} {k : Nat} : (mapTo x k).length = k := by unfold mapTo; simp
theorem map_wh (x : MapA) : 1 ≤ mapW x ∧ mapW x ≤ 6 ∧ 1 ≤ mapH x ∧ mapH x ≤ 6 := by unfold mapW mapH; omega
theorem map_area (x : MapA) : mapW x * mapH x ≤ 36 := by obtain ⟨_, h1,_, h2⟩ := map_wh x; exact Nat.mul_le_mul h1 h2
theorem mod_i {n m : Nat} : ((n : Int)).tmod (m : Int) = ((n % m : Nat) : Int) := rfl
theorem vAt_t {l : List Nat} {m i n : Nat} (hn : l[i % l.length]? = some n) : vAt l m i = n % m := by
  have h : 0 < l.length := by have := (List.getElem?_eq_some_iff.1 hn).1; omega
  unfold vAt; rw [if_pos h, List.getD_eq_getElem?_getD, hn]; rfl
theorem vAt_f {l : List Nat} {m i : Nat} (h : ¬ (0 : Int) < (l.length : Int)) : vAt l m i = 0 := by unfold vAt; rw [if_neg (by omega)]
theorem map_eq {x : MapA} {k : Nat} {ml : List Span} {s : Span} (h : ml = mapTo x k) (e : s = mapAt x k) : ml ++ [s] = mapTo x (k + 1) := by rw [h, e, mapTo_succ]
theorem cv8 {n : Nat} (h : n ≤ 255) : IntKind.wrap .i64 ((n : Nat) : Int) = ((n : Nat) : Int) := wi (by omega) (by omega)

set_option maxRecDepth 20000 in
set_option maxHeartbeats 8000000 in
theorem field_c (x : MapA) (w : World) (hx : MapI w x) (hk : MapK x) :
  Calls Try.prog 33 #[x.V] w fun e w' => ∃ y : SlY, True ∧ e = .returned (fieldV (mapG x) y.p (mapVs x).length y.c) ∧ St (bs w) [own 71 2 y.p y.c ((mapVs x).map Span.cells)] w' := by
  obtain ⟨hw1, hw2, hh1, hh2⟩ := map_wh x
  have har := map_area x
  have hkw := hk.w
  have hkh := hk.h
  have hll := hk.ll
  have hml := hk.ml
  refine enter (vs := [_]) (env := [(0,_)]) Try.func33 rfl rfl rfl rfl ?_
  refine VC.seq ?_
  refine VC.reg (VO.h rfl<|HO.box (C := #[_,_,_,_]) rfl rfl fun b1 => VO.h rfl<|HO.alloc (C := #[_,_,_,_,_,_]) Z26 rfl fun b2 => VO.nil ?_)
  refine VE.seqN ?_
  refine VC.seq ?_
  refine VC.reg (VO.l (LO.fa (r := 0) F63_0 (.r rfl) rfl) rfl<|VO.l (LO.ld O5 (.r rfl) (fun _ hw => cells_at hw 1 rfl ⟨_, rfl⟩)) rfl<|VO.l (LO.cv ⟨_, Try.underlying5⟩ Try.underlying3 (.r rfl) (cv8 hkw)) rfl<|VO.l (LO.eqv (LO.rem (.r rfl) (.r rfl) (by omega)) (congrArg (Value.int .i64) (mod_i (m := 6)))) rfl<|VO.l (LO.eqv (LO.add (.r rfl) (.r rfl) (wi (by omega) (by omega))) (congrArg (Value.int .i64) (show (1 : Int) + ((x.w % 6 : Nat) : Int) = ((mapW x : Nat) : Int) by unfold mapW; push_cast; rfl))) rfl<|VO.l (LO.fa (r := 1) F63_1 (.r rfl) rfl) rfl<|VO.l (LO.ld O5 (.r rfl) (fun _ hw => cells_at hw 1 rfl ⟨_, rfl⟩)) rfl<|VO.l (LO.cv ⟨_, Try.underlying5⟩ Try.underlying3 (.r rfl) (cv8 hkh)) rfl<|VO.l (LO.eqv (LO.rem (.r rfl) (.r rfl) (by omega)) (congrArg (Value.int .i64) (mod_i (m := 6)))) rfl<|VO.l (LO.eqv (LO.add (.r rfl) (.r rfl) (wi (by omega) (by omega))) (congrArg (Value.int .i64) (show (1 : Int) + ((x.h % 6 : Nat) : Int) = ((mapH x : Nat) : Int) by unfold mapH; push_cast; rfl))) rfl<|VO.l (LO.bd (ps := [(_,_), (_,_), (_,_)]) (vs := [(_,_), (_,_), (_,_)]) (C := [_,_,_,_,_]) B23  ⟨(.r rfl), (.r rfl), (.r rfl), trivial⟩ rfl ⟨_, [_], [_,_,_,_,_], rfl, rfl, rfl, rfl, ⟨_, [_], [_,_,_,_,_], rfl, rfl, rfl, rfl, ⟨_, [_], [_,_,_,_,_], rfl, rfl, rfl, rfl, rfl⟩⟩⟩) rfl<|VO.l (LO.bd (ps := [(_,_)]) (vs := [(_,_)]) (C := [_,_,_,_,_,_]) B26  ⟨(.r rfl), trivial⟩ rfl ⟨_, [_,_,_,_,_], [_,_,_,_,_,_], rfl, rfl, rfl, rfl, rfl⟩) rfl<|VO.h rfl<|HO.alloc (C := #[_,_,_,_,_,_]) Z26 rfl fun b3 => VO.h0<|HO.st 0 (vs := [_,_,_,_,_,_]) (C' := [_,_,_,_,_,_]) (L' := [_,_,_]) N26 rfl rfl rfl rfl rfl rfl rfl rfl<|VO.nil ?_)
  refine VE.seqN ?_
  refine VC.seq ?_
  refine VC.seq ?_
  refine VC.reg (VO.l (LO.fa (r := 0) F26_0 (.r rfl) rfl) rfl<|VO.l (LO.fa (r := 3) F23_3 (.r rfl) rfl) rfl<|VO.l (LO.ld O3 (.r rfl) (fun _ hw => cells_at hw 0 rfl ⟨_, rfl⟩)) rfl<|VO.l (LO.fa (r := 0) F26_0 (.r rfl) rfl) rfl<|VO.l (LO.fa (r := 4) F23_4 (.r rfl) rfl) rfl<|VO.l (LO.ld O3 (.r rfl) (fun _ hw => cells_at hw 0 rfl ⟨_, rfl⟩)) rfl<|VO.l (LO.eqv (LO.mul (.r rfl) (.r rfl) (wi (by rw [← Int.natCast_mul]; omega) (by rw [← Int.natCast_mul]; omega))) (congrArg (Value.int .i64) (Int.natCast_mul _ _).symm)) rfl<|VO.l (LO.mv (.r rfl)) rfl<|VO.nil ?_)
  refine VE.seqN ?_
  refine VC.block ?_
  refine VC.loopK (α := Nat × (List Span) × (Option Addr) × Nat) 1 (fun gx => [(25, .int .i64 (gx.1 : Nat))]) [(1,_), (2,_), (3,_), (24,_)] (fun gx => [blk b3 (.cells #[.int .i64 0, .int .i64 0, .int .i64 1000, .int .i64 (mapW x : Int), .int .i64 (mapH x : Int), .slice gx.2.2.1 gx.2.1.length gx.2.2.2] 26), own 71 2 gx.2.2.1 gx.2.2.2 (gx.2.1.map Span.cells)]) (fun gx => gx.1 ≤ mapW x * mapH x ∧ gx.2.1 = mapTo x gx.1) (fun gx => mapW x * mapH x - gx.1) (0, [], none, 0) (by exact ⟨Nat.zero_le _, rfl⟩) (.cons rfl (.cons rfl (.cons rfl (.cons rfl (.cons rfl .nil))))) (fun _ h => ((h.ownNil 71 2)).sel [1,0,2,3] rfl) ?_
  rintro ⟨k, ml, po, co⟩ ⟨hkk, hm⟩
  show VC _ _ _ _ _ ([(25, .int .i64 (k : Nat))] ++ _) ([blk b3 (.cells #[.int .i64 0, .int .i64 0, .int .i64 1000, .int .i64 (mapW x : Int), .int .i64 (mapH x : Int), .slice po ml.length co] 26), own 71 2 po co (ml.map Span.cells)] ++ _) _ _
  dsimp only at hkk hm
  have hmll : ml.length = k := by rw [hm, mapTo_len]
  refine VC.seq ?_
  refine VC.reg (VO.l (LO.lt (.r rfl) (.r rfl)) rfl<|VO.nil ?_)
  refine VE.seqN ?_
  refine VC.seq ?_
  refine VC.cond rfl (fun h26 => ?_) (fun h26 => ?_)
  ·
    refine VC.skip (VE.seqN ?_)
    refine VC.seq ?_
    refine VC.block ?_
    refine VC.seq ?_
    refine VC.reg (VO.l (LO.mv (.r rfl)) rfl<|VO.l (LO.as (.r rfl)) rfl<|VO.nil ?_)
    refine VE.seqN ?_
    refine VC.seq ?_
    refine VC.reg (VO.l (LO.bd (ps := []) (vs := []) (C := [_,_]) B71  trivial rfl rfl) rfl<|VO.h rfl<|HO.alloc (C := #[_,_]) Z71 rfl fun b7 => VO.h0<|HO.st 0 (vs := [_,_]) (C' := [_,_]) (L' := [_,_,_,_,_]) N71 rfl rfl rfl rfl rfl rfl rfl rfl<|VO.nil ?_)
    refine VE.seqN ?_
    refine VC.seq ?_
    refine VC.seq ?_
    refine VC.reg (VO.l (LO.fa (r := 2) F63_2 (.r rfl) rfl) rfl<|VO.l (LO.ld O61 (.r rfl) (fun _ hw => cells_at hw 4 rfl ⟨_, rfl⟩)) rfl<|VO.l (LO.len S61 (.r rfl) rfl) rfl<|VO.l (LO.gt (.r rfl) (.r rfl)) rfl<|VO.nil ?_)
    refine VE.seqN ?_
    refine VC.cond rfl (fun h32 => ?_) (fun h32 => ?_)
    ·
      have hnl : k % x.lo.length < x.lo.length := Nat.mod_lt _ (by omega)
      obtain ⟨nl, hln⟩ := get_ex (l := x.lo) hnl
      have hnl2 := hk.lo nl (List.mem_of_getElem? hln)
      have hz := Int.natCast_nonneg (nl % 40)
      have hzz : nl % 40 < 40 := Nat.mod_lt _ (by omega)
      refine VC.drawH [[0,1,2,3,4], [1,2,3,4]] [some 0, some 0, some 0, some 0, some 0, some 0, some 0, some 0, some 0, some 0, some 0, some 0, none] mixed (by kernel_rfl) rfl (LX.l (fun _ hJ => LO.fa (r := 2) F63_2 (.r rfl) rfl) rfl<|LX.l (fun _ hJ => LO.ld O61 (.r rfl) (fun _ hw => cells_at (hJ _ hw) 4 rfl ⟨_, rfl⟩)) rfl<|LX.l (fun _ hJ => LO.mv (.r rfl)) rfl<|LX.l (fun _ hJ => LO.fa (r := 2) F63_2 (.r rfl) rfl) rfl<|LX.l (fun _ hJ => LO.ld O61 (.r rfl) (fun _ hw => cells_at (hJ _ hw) 4 rfl ⟨_, rfl⟩)) rfl<|LX.l (fun _ hJ => LO.len S61 (.r rfl) rfl) rfl<|LX.l (fun _ hJ => LO.eqv (LO.rem (.r rfl) (.r rfl) (by omega)) (congrArg (Value.int .i64) (mod_i (m := x.lo.length)))) rfl<|LX.l (fun _ hJ => LO.ixs S61 N5 (hx.lo.sm) (.r rfl) (.r rfl) rfl hnl) rfl<|LX.l (fun _ hJ => LO.ld O5 (.r rfl) (fun w hw => cells_part (off := 0) ((fun w3 h3 => RO.cel (hx.keep w3 h3).lo hln) w (hJ _ hw)) ⟨_, rfl⟩)) rfl<|LX.l (fun _ hJ => LO.cv ⟨_, Try.underlying5⟩ Try.underlying3 (.r rfl) (cv8 hnl2)) rfl<|LX.l (fun _ hJ => LO.eqv (LO.rem (.r rfl) (.r rfl) (by omega)) (congrArg (Value.int .i64) (mod_i (m := 40)))) rfl<|LX.l (fun _ hJ => LO.fa (r := 0) F71_0 (.r rfl) rfl) rfl<|LX.s<|LX.nil) (HX.s<|HX.s<|HX.s<|HX.s<|HX.s<|HX.s<|HX.s<|HX.s<|HX.s<|HX.s<|HX.s<|HX.s<|HX.h0<|HO.st 0 (vs := [_]) (C' := [_,_]) (L' := [_,_,_,_,_]) N3 rfl rfl rfl rfl rfl rfl rfl rfl<|⟨fun _ hw => hw.sel [1,2,3,4] rfl, HX.nil ?_⟩)
      refine VE.seqN ?_
      refine VC.seq ?_
      refine VC.reg (VO.l (LO.fa (r := 0) F71_0 (.r rfl) rfl) rfl<|VO.l (LO.ld O3 (.r rfl) (fun _ hw => cells_at hw 0 rfl ⟨_, rfl⟩)) rfl<|VO.l (LO.fa (r := 1) F71_1 (.r rfl) rfl) rfl<|VO.h0<|HO.st 0 (vs := [_]) (C' := [_,_]) (L' := [_,_,_,_,_]) N3 rfl rfl rfl rfl rfl rfl rfl rfl<|VO.nil ?_)
      refine VE.seqN ?_
      refine VC.seq ?_
      refine VC.seq ?_
      refine VC.reg (VO.l (LO.fa (r := 3) F63_3 (.r rfl) rfl) rfl<|VO.l (LO.ld O61 (.r rfl) (fun _ hw => cells_at hw 4 rfl ⟨_, rfl⟩)) rfl<|VO.l (LO.len S61 (.r rfl) rfl) rfl<|VO.l (LO.gt (.r rfl) (.r rfl)) rfl<|VO.nil ?_)
      refine VE.seqN ?_
      refine VC.cond rfl (fun h51 => ?_) (fun h51 => ?_)
      ·
        have hnm : k % x.mo.length < x.mo.length := Nat.mod_lt _ (by omega)
        obtain ⟨nm, hmn⟩ := get_ex (l := x.mo) hnm
        have hnm2 := hk.mo nm (List.mem_of_getElem? hmn)
        have hy : nm % 30 < 30 := Nat.mod_lt _ (by omega)
        refine VC.drawH [[0,1,2,3,4], [1,2,3,4]] [some 0, some 0, some 0, some 0, some 0, some 0, some 0, some 0, some 0, some 0, some 0, some 0, some 0, some 0, some 0, none] mixed (by kernel_rfl) rfl (LX.l (fun _ hJ => LO.fa (r := 1) F71_1 (.r rfl) rfl) rfl<|LX.l (fun _ hJ => LO.ld O3 (.r rfl) (fun _ hw => cells_at (hJ _ hw) 0 rfl ⟨_, rfl⟩)) rfl<|LX.l (fun _ hJ => LO.fa (r := 3) F63_3 (.r rfl) rfl) rfl<|LX.l (fun _ hJ => LO.ld O61 (.r rfl) (fun _ hw => cells_at (hJ _ hw) 4 rfl ⟨_, rfl⟩)) rfl<|LX.l (fun _ hJ => LO.mv (.r rfl)) rfl<|LX.l (fun _ hJ => LO.fa (r := 3) F63_3 (.r rfl) rfl) rfl<|LX.l (fun _ hJ => LO.ld O61 (.r rfl) (fun _ hw => cells_at (hJ _ hw) 4 rfl ⟨_, rfl⟩)) rfl<|LX.l (fun _ hJ => LO.len S61 (.r rfl) rfl) rfl<|LX.l (fun _ hJ => LO.eqv (LO.rem (.r rfl) (.r rfl) (by omega)) (congrArg (Value.int .i64) (mod_i (m := x.mo.length)))) rfl<|LX.l (fun _ hJ => LO.ixs S61 N5 (hx.mo.sm) (.r rfl) (.r rfl) rfl hnm) rfl<|LX.l (fun _ hJ => LO.ld O5 (.r rfl) (fun w hw => cells_part (off := 0) ((fun w3 h3 => RO.cel (hx.keep w3 h3).mo hmn) w (hJ _ hw)) ⟨_, rfl⟩)) rfl<|LX.l (fun _ hJ => LO.cv ⟨_, Try.underlying5⟩ Try.underlying3 (.r rfl) (cv8 hnm2)) rfl<|LX.l (fun _ hJ => LO.eqv (LO.rem (.r rfl) (.r rfl) (by omega)) (congrArg (Value.int .i64) (mod_i (m := 30)))) rfl<|LX.l (fun _ hJ => LO.add (.r rfl) (.r rfl) (wi (by omega) (by omega))) rfl<|LX.l (fun _ hJ => LO.fa (r := 1) F71_1 (.r rfl) rfl) rfl<|LX.s<|LX.nil) (HX.s<|HX.s<|HX.s<|HX.s<|HX.s<|HX.s<|HX.s<|HX.s<|HX.s<|HX.s<|HX.s<|HX.s<|HX.s<|HX.s<|HX.s<|HX.h0<|HO.st 0 (vs := [_]) (C' := [_,_]) (L' := [_,_,_,_,_]) N3 rfl rfl rfl rfl rfl rfl rfl rfl<|⟨fun _ hw => hw.sel [1,2,3,4] rfl, HX.nil ?_⟩)
        refine VE.seqN ?_
        refine VC.reg (VO.l (LO.fa (r := 5) F26_1 (.r rfl) rfl) rfl<|VO.l (LO.ld O24 (.r rfl) (fun _ hw => cells_at hw 1 rfl ⟨_, rfl⟩)) rfl<|VO.l (LO.lda (vs := [_,_]) A71 (.r rfl) (fun _ hw => cells_at hw 0 rfl ⟨_, rfl⟩) rfl) rfl<|VO.h rfl<|HO.bs (ps := [(_,_)]) (vs := [(_,_)]) (Z := [_,_]) (C := [_,_]) S24 Z71 N71 ⟨(.r rfl), trivial⟩ rfl rfl rfl rfl ⟨_, [_,_], [_,_], rfl, rfl, rfl, rfl, rfl⟩ fun b14 => VO.h rfl<|HO.appT ((⟨((nl % 40 : Nat) : Int), ((nl % 40 : Nat) : Int) + ((nm % 30 : Nat) : Int)⟩ : Span)) (f := Span.cells) 3 0 (fun R => [_,_,_, R,_,_]) S24 S24 I71 (.r rfl) (.r rfl) rfl rfl rfl rfl rfl rfl rfl (fun _ => rfl) rfl (by omega) fun p4 c4 => VO.l (LO.fa (r := 5) F26_1 (.r rfl) rfl) rfl<|VO.h0<|HO.st 2 (vs := [_]) (C' := [_,_,_,_,_,_]) (L' := [_,_,_,_,_,_]) N24 rfl rfl rfl rfl rfl rfl rfl rfl<|VO.nil ?_)
        refine VE.inN (VE.seqN ?_)
        refine VC.reg (VO.l (LO.add (.r rfl) (.r rfl) (wi (by omega) (by omega))) rfl<|VO.l (LO.mv (.r rfl)) rfl<|VO.nil ?_)
        refine VE.thenN fun a w ha hw => ⟨(k + 1, ml ++ [(⟨((nl % 40 : Nat) : Int), ((nl % 40 : Nat) : Int) + ((nm % 30 : Nat) : Int)⟩ : Span)], p4, c4), ⟨by dsimp only; omega, map_eq hm (by unfold mapAt; rw [vAt_t hln, vAt_t hmn]; all_goals (first | rfl | simp))⟩, (by dsimp only; omega), ha.sub (.cons rfl (.cons rfl (.cons rfl (.cons rfl (.cons rfl .nil))))), hw.sel [2,3,4,5] rfl⟩
      ·
        refine VC.skip (VE.seqN ?_)
        refine VC.reg (VO.l (LO.fa (r := 5) F26_1 (.r rfl) rfl) rfl<|VO.l (LO.ld O24 (.r rfl) (fun _ hw => cells_at hw 1 rfl ⟨_, rfl⟩)) rfl<|VO.l (LO.lda (vs := [_,_]) A71 (.r rfl) (fun _ hw => cells_at hw 0 rfl ⟨_, rfl⟩) rfl) rfl<|VO.h rfl<|HO.bs (ps := [(_,_)]) (vs := [(_,_)]) (Z := [_,_]) (C := [_,_]) S24 Z71 N71 ⟨(.r rfl), trivial⟩ rfl rfl rfl rfl ⟨_, [_,_], [_,_], rfl, rfl, rfl, rfl, rfl⟩ fun b16 => VO.h rfl<|HO.appT ((⟨((nl % 40 : Nat) : Int), ((nl % 40 : Nat) : Int)⟩ : Span)) (f := Span.cells) 3 0 (fun R => [_,_,_, R,_,_]) S24 S24 I71 (.r rfl) (.r rfl) rfl rfl rfl rfl rfl rfl rfl (fun _ => rfl) rfl (by omega) fun p4 c4 => VO.l (LO.fa (r := 5) F26_1 (.r rfl) rfl) rfl<|VO.h0<|HO.st 2 (vs := [_]) (C' := [_,_,_,_,_,_]) (L' := [_,_,_,_,_,_]) N24 rfl rfl rfl rfl rfl rfl rfl rfl<|VO.nil ?_)
        refine VE.inN (VE.seqN ?_)
        refine VC.reg (VO.l (LO.add (.r rfl) (.r rfl) (wi (by omega) (by omega))) rfl<|VO.l (LO.mv (.r rfl)) rfl<|VO.nil ?_)
        refine VE.thenN fun a w ha hw => ⟨(k + 1, ml ++ [(⟨((nl % 40 : Nat) : Int), ((nl % 40 : Nat) : Int)⟩ : Span)], p4, c4), ⟨by dsimp only; omega, map_eq hm (by unfold mapAt; rw [vAt_t hln, vAt_f h51]; all_goals (first | rfl | simp))⟩, (by dsimp only; omega), ha.sub (.cons rfl (.cons rfl (.cons rfl (.cons rfl (.cons rfl .nil))))), hw.sel [2,3,4,5] rfl⟩
    ·
      refine VC.skip (VE.seqN ?_)
      refine VC.seq ?_
      refine VC.reg (VO.l (LO.fa (r := 0) F71_0 (.r rfl) rfl) rfl<|VO.l (LO.ld O3 (.r rfl) (fun _ hw => cells_at hw 0 rfl ⟨_, rfl⟩)) rfl<|VO.l (LO.fa (r := 1) F71_1 (.r rfl) rfl) rfl<|VO.h0<|HO.st 0 (vs := [_]) (C' := [_,_]) (L' := [_,_,_,_,_]) N3 rfl rfl rfl rfl rfl rfl rfl rfl<|VO.nil ?_)
      refine VE.seqN ?_
      refine VC.seq ?_
      refine VC.seq ?_
      refine VC.reg (VO.l (LO.fa (r := 3) F63_3 (.r rfl) rfl) rfl<|VO.l (LO.ld O61 (.r rfl) (fun _ hw => cells_at hw 4 rfl ⟨_, rfl⟩)) rfl<|VO.l (LO.len S61 (.r rfl) rfl) rfl<|VO.l (LO.gt (.r rfl) (.r rfl)) rfl<|VO.nil ?_)
      refine VE.seqN ?_
      refine VC.cond rfl (fun h51 => ?_) (fun h51 => ?_)
      ·
        have hnm : k % x.mo.length < x.mo.length := Nat.mod_lt _ (by omega)
        obtain ⟨nm, hmn⟩ := get_ex (l := x.mo) hnm
        have hnm2 := hk.mo nm (List.mem_of_getElem? hmn)
        have hy : nm % 30 < 30 := Nat.mod_lt _ (by omega)
        refine VC.drawH [[0,1,2,3,4], [1,2,3,4]] [some 0, some 0, some 0, some 0, some 0, some 0, some 0, some 0, some 0, some 0, some 0, some 0, some 0, some 0, some 0, none] mixed (by kernel_rfl) rfl (LX.l (fun _ hJ => LO.fa (r := 1) F71_1 (.r rfl) rfl) rfl<|LX.l (fun _ hJ => LO.ld O3 (.r rfl) (fun _ hw => cells_at (hJ _ hw) 0 rfl ⟨_, rfl⟩)) rfl<|LX.l (fun _ hJ => LO.fa (r := 3) F63_3 (.r rfl) rfl) rfl<|LX.l (fun _ hJ => LO.ld O61 (.r rfl) (fun _ hw => cells_at (hJ _ hw) 4 rfl ⟨_, rfl⟩)) rfl<|LX.l (fun _ hJ => LO.mv (.r rfl)) rfl<|LX.l (fun _ hJ => LO.fa (r := 3) F63_3 (.r rfl) rfl) rfl<|LX.l (fun _ hJ => LO.ld O61 (.r rfl) (fun _ hw => cells_at (hJ _ hw) 4 rfl ⟨_, rfl⟩)) rfl<|LX.l (fun _ hJ => LO.len S61 (.r rfl) rfl) rfl<|LX.l (fun _ hJ => LO.eqv (LO.rem (.r rfl) (.r rfl) (by omega)) (congrArg (Value.int .i64) (mod_i (m := x.mo.length)))) rfl<|LX.l (fun _ hJ => LO.ixs S61 N5 (hx.mo.sm) (.r rfl) (.r rfl) rfl hnm) rfl<|LX.l (fun _ hJ => LO.ld O5 (.r rfl) (fun w hw => cells_part (off := 0) ((fun w3 h3 => RO.cel (hx.keep w3 h3).mo hmn) w (hJ _ hw)) ⟨_, rfl⟩)) rfl<|LX.l (fun _ hJ => LO.cv ⟨_, Try.underlying5⟩ Try.underlying3 (.r rfl) (cv8 hnm2)) rfl<|LX.l (fun _ hJ => LO.eqv (LO.rem (.r rfl) (.r rfl) (by omega)) (congrArg (Value.int .i64) (mod_i (m := 30)))) rfl<|LX.l (fun _ hJ => LO.add (.r rfl) (.r rfl) (wi (by omega) (by omega))) rfl<|LX.l (fun _ hJ => LO.fa (r := 1) F71_1 (.r rfl) rfl) rfl<|LX.s<|LX.nil) (HX.s<|HX.s<|HX.s<|HX.s<|HX.s<|HX.s<|HX.s<|HX.s<|HX.s<|HX.s<|HX.s<|HX.s<|HX.s<|HX.s<|HX.s<|HX.h0<|HO.st 0 (vs := [_]) (C' := [_,_]) (L' := [_,_,_,_,_]) N3 rfl rfl rfl rfl rfl rfl rfl rfl<|⟨fun _ hw => hw.sel [1,2,3,4] rfl, HX.nil ?_⟩)
        refine VE.seqN ?_
        refine VC.reg (VO.l (LO.fa (r := 5) F26_1 (.r rfl) rfl) rfl<|VO.l (LO.ld O24 (.r rfl) (fun _ hw => cells_at hw 1 rfl ⟨_, rfl⟩)) rfl<|VO.l (LO.lda (vs := [_,_]) A71 (.r rfl) (fun _ hw => cells_at hw 0 rfl ⟨_, rfl⟩) rfl) rfl<|VO.h rfl<|HO.bs (ps := [(_,_)]) (vs := [(_,_)]) (Z := [_,_]) (C := [_,_]) S24 Z71 N71 ⟨(.r rfl), trivial⟩ rfl rfl rfl rfl ⟨_, [_,_], [_,_], rfl, rfl, rfl, rfl, rfl⟩ fun b21 => VO.h rfl<|HO.appT ((⟨0,0 + ((nm % 30 : Nat) : Int)⟩ : Span)) (f := Span.cells) 3 0 (fun R => [_,_,_, R,_,_]) S24 S24 I71 (.r rfl) (.r rfl) rfl rfl rfl rfl rfl rfl rfl (fun _ => rfl) rfl (by omega) fun p4 c4 => VO.l (LO.fa (r := 5) F26_1 (.r rfl) rfl) rfl<|VO.h0<|HO.st 2 (vs := [_]) (C' := [_,_,_,_,_,_]) (L' := [_,_,_,_,_,_]) N24 rfl rfl rfl rfl rfl rfl rfl rfl<|VO.nil ?_)
        refine VE.inN (VE.seqN ?_)
        refine VC.reg (VO.l (LO.add (.r rfl) (.r rfl) (wi (by omega) (by omega))) rfl<|VO.l (LO.mv (.r rfl)) rfl<|VO.nil ?_)
        refine VE.thenN fun a w ha hw => ⟨(k + 1, ml ++ [(⟨0,0 + ((nm % 30 : Nat) : Int)⟩ : Span)], p4, c4), ⟨by dsimp only; omega, map_eq hm (by unfold mapAt; rw [vAt_f h32, vAt_t hmn]; all_goals (first | rfl | simp))⟩, (by dsimp only; omega), ha.sub (.cons rfl (.cons rfl (.cons rfl (.cons rfl (.cons rfl .nil))))), hw.sel [2,3,4,5] rfl⟩
      ·
        refine VC.skip (VE.seqN ?_)
        refine VC.reg (VO.l (LO.fa (r := 5) F26_1 (.r rfl) rfl) rfl<|VO.l (LO.ld O24 (.r rfl) (fun _ hw => cells_at hw 1 rfl ⟨_, rfl⟩)) rfl<|VO.l (LO.lda (vs := [_,_]) A71 (.r rfl) (fun _ hw => cells_at hw 0 rfl ⟨_, rfl⟩) rfl) rfl<|VO.h rfl<|HO.bs (ps := [(_,_)]) (vs := [(_,_)]) (Z := [_,_]) (C := [_,_]) S24 Z71 N71 ⟨(.r rfl), trivial⟩ rfl rfl rfl rfl ⟨_, [_,_], [_,_], rfl, rfl, rfl, rfl, rfl⟩ fun b23 => VO.h rfl<|HO.appT ((⟨0,0⟩ : Span)) (f := Span.cells) 3 0 (fun R => [_,_,_, R,_,_]) S24 S24 I71 (.r rfl) (.r rfl) rfl rfl rfl rfl rfl rfl rfl (fun _ => rfl) rfl (by omega) fun p4 c4 => VO.l (LO.fa (r := 5) F26_1 (.r rfl) rfl) rfl<|VO.h0<|HO.st 2 (vs := [_]) (C' := [_,_,_,_,_,_]) (L' := [_,_,_,_,_,_]) N24 rfl rfl rfl rfl rfl rfl rfl rfl<|VO.nil ?_)
        refine VE.inN (VE.seqN ?_)
        refine VC.reg (VO.l (LO.add (.r rfl) (.r rfl) (wi (by omega) (by omega))) rfl<|VO.l (LO.mv (.r rfl)) rfl<|VO.nil ?_)
        refine VE.thenN fun a w ha hw => ⟨(k + 1, ml ++ [(⟨0,0⟩ : Span)], p4, c4), ⟨by dsimp only; omega, map_eq hm (by unfold mapAt; rw [vAt_f h32, vAt_f h51]; all_goals (first | rfl | simp))⟩, (by dsimp only; omega), ha.sub (.cons rfl (.cons rfl (.cons rfl (.cons rfl (.cons rfl .nil))))), hw.sel [2,3,4,5] rfl⟩
  ·
    refine VC.exit (VE.thenX (VE.thenX (VE.inX (VE.seqN ?_))))
    refine VC.seq ?_
    refine VC.reg (VO.l (LO.lda (vs := [_,_,_,_,_,_]) A26 (.r rfl) (fun _ hw => cells_at hw 0 rfl ⟨_, rfl⟩) rfl) rfl<|VO.h0<|HO.st 2 (vs := [_,_,_,_,_,_]) (C' := [_,_,_,_,_,_]) (L' := [_,_,_,_]) N26 rfl rfl rfl rfl rfl rfl rfl rfl<|VO.nil ?_)
    refine VE.seqN ?_
    refine VC.ret (VE.res (vs := [_]) rfl ⟨RV.agg (vs := [_,_,_,_,_,_]) A26 rfl (cells_blk 2 rfl ⟨_, rfl⟩) rfl, trivial⟩ (fun w hw => ?_))
    have hke : k = mapW x * mapH x := by omega
    subst hke
    subst hm
    exact ⟨⟨po, co⟩, trivial, rfl, selK [1] rfl rfl _ hw⟩

end Go.Proofs.Ytgemekpofpoopaa

namespace Go.Proofs.Ytgemekpofpoopaa
open Go.SL Go.Proofs Go.Cast Go.Cell
set_option linter.unusedVariables false

theorem set_get {ls : List Int} {p q : Nat} {a : Int} (h : p < ls.length) : (ls.set p a).getD q (-1) = if p = q then a else ls.getD q (-1) := getD_set' h
structure PnY where
  p : Option Addr
  c : Nat
  l : List Int
/-- While the pixels of an area are given its number. -/
def owT (n : Nat) (ps : List (List Nat)) (i : Nat) (l : List Nat) (k : Nat) : List Int := (List.range n).map fun q => if q ∈ l.take k then (i : Int) else idxL ps q
theorem owT_len {n : Nat} {ps : List (List Nat)} {i k : Nat} {l : List Nat} : (owT n ps i l k).length = n := by unfold owT; simp
theorem owT_get {n q : Nat} {ps : List (List Nat)} {i k : Nat} {l : List Nat} (h : q < n) : (owT n ps i l k)[q]? = some (if q ∈ l.take k then (i : Int) else idxL ps q) := by unfold owT; rw [List.getElem?_map, List.getElem?_range h]; rfl
theorem owT_zero {n : Nat} {ps : List (List Nat)} {i : Nat} {l : List Nat} : ofP n ps = owT n ps i l 0 := by unfold ofP owT; simp
theorem owT_set {n : Nat} {ps : List (List Nat)} {i k p : Nat} {l : List Nat} (h : l[k]? = some p) (hp : p < n) : (owT n ps i l k).set p (i : Int) = owT n ps i l (k + 1) := by
  obtain ⟨hk, rfl⟩ := List.getElem?_eq_some_iff.1 h
  refine List.ext_getElem? fun q => ?_
  by_cases hq : q < n
  · rw [owT_get hq, List.getElem?_set]
    have hm : q ∈ l.take (k + 1) ↔ q ∈ l.take k ∨ q = l[k] := by rw [List.take_succ_eq_append_getElem hk, List.mem_append, List.mem_singleton]
    by_cases e : l[k] = q
    · rw [if_pos e, if_pos (by rw [owT_len]; exact hp), if_pos (hm.2 (.inr e.symm))]
    · rw [if_neg e, owT_get hq]
      by_cases z : q ∈ l.take k
      · rw [if_pos z, if_pos (hm.2 (.inl z))]
      · rw [if_neg z, if_neg fun y => (hm.1 y).elim z fun y => e y.symm]
  · rw [List.getElem?_eq_none (by rw [List.length_set, owT_len]; omega), List.getElem?_eq_none (by rw [owT_len]; omega)]
theorem owT_done {n i : Nat} {ps : List (List Nat)} {l : List Nat} (h : ps[i]? = some l) (hap : ps.Pairwise fun a b => ∀ x, x ∈ a → x ∉ b) : owT n (ps.take i) i l l.length = ofP n (ps.take (i + 1)) := by
  obtain ⟨hi, rfl⟩ := List.getElem?_eq_some_iff.1 h
  unfold owT ofP
  refine List.map_congr_left fun q _ => ?_
  rw [List.take_length, List.take_succ_eq_append_getElem hi, idx_app, List.length_take, Nat.min_eq_left (Nat.le_of_lt hi)]
  by_cases z : q ∈ ps[i]
  · have : idxL (ps.take i) q = -1 := idx_neg fun m hm hq => by
      obtain ⟨j, hj, rfl⟩ := List.mem_iff_getElem.1 hm
      rw [List.length_take] at hj
      rw [List.getElem_take] at hq
      exact List.pairwise_iff_getElem.1 hap j i (by omega) hi (by omega) q hq z
    rw [if_pos z, if_pos this, if_pos z]
  · rw [if_neg z]
    by_cases y : idxL (ps.take i) q = -1
    · rw [if_pos y, if_neg z, y]
    · rw [if_neg y]
theorem owT_new {i k p : Nat} {ps : List (List Nat)} {l : List Nat} (h : ps[i]? = some l) (hap : ps.Pairwise fun a b => ∀ x, x ∈ a → x ∉ b) (hn : l.Nodup) (hk : l[k]? = some p) : (if p ∈ l.take k then (i : Int) else idxL (ps.take i) p) = -1 := by
  obtain ⟨hi, rfl⟩ := List.getElem?_eq_some_iff.1 h
  obtain ⟨hkl, rfl⟩ := List.getElem?_eq_some_iff.1 hk
  rw [if_neg fun hm => ?_]
  · refine idx_neg fun m hm hq => ?_
    obtain ⟨j, hj, rfl⟩ := List.mem_iff_getElem.1 hm
    rw [List.length_take] at hj
    rw [List.getElem_take] at hq
    exact List.pairwise_iff_getElem.1 hap j i (by omega) hi (by omega) _ hq (List.getElem_mem hkl)
  · obtain ⟨j, hj, e⟩ := List.mem_iff_getElem.1 hm
    rw [List.length_take] at hj
    rw [List.getElem_take] at e
    exact List.pairwise_iff_getElem.1 hn j k (by omega) hkl (by omega) e
/-- What is read of areas, pixels too. -/
structure ArRd (w : World) (y : ArY) : Prop where
  ar : RO 8 AreaR.cells w y.p y.l
  px : ∀ a, a ∈ y.l → RO 1 nC w a.px.p a.px.l
  kr : ∀ a, a ∈ y.l → RR 1 nC w a.kp a.kr
theorem ArRd.keep {w0 : World} {y : ArY} (h : ArRd w0 y) : ∀ {L : List Res} (w : World), St (bs w0) L w → ArRd w y := fun w hw => ⟨h.ar.keep w hw, fun a ha => (h.px a ha).keep w hw, fun a ha => (h.kr a ha).keep w hw⟩
theorem ArRd.of_res {β : Bs} {L : List Res} {w : World} {y : ArY} {of : List Int} {W H : Nat} {vs : List Span} {lv : Int} (hw : St β (y.R of ++ L) w) (hp : ArP W H vs lv y) : ArRd w y := by
  have hS := SpI.of_res (of := of) hw hp 0 1 3 7 rfl rfl rfl rfl
  have hR : RR 1 nC w y.pr y.rs := RR.of_own hw 5 6 rfl rfl
  exact ⟨hS.ar, fun a ha => (hR.2 a.px (by rw [← hp.px]; exact List.mem_map_of_mem ha)).2, hS.kr⟩
theorem ar_part {W H : Nat} {vs : List Span} {lv : Int} {y : ArY} (h : ArP W H vs lv y) {i : Nat} {a : AreaR} (ha : y.l[i]? = some a) : (partsL W H (mayB vs lv))[i]? = some a.px.l ∧ a.px.l.Nodup ∧ (∀ p, p ∈ a.px.l → p < W * H) ∧ a.px.l.length ≤ W * H := by
  obtain ⟨r,_,_, h2,_⟩ := parent_get h ha
  obtain ⟨p, hp,_, e⟩ := mem_partsTo (p := W * H) (List.mem_of_getElem? h2)
  have hall : ∀ q, q ∈ a.px.l → q < W * H := fun q hq => by rw [e] at hq; exact compL_lt hp hq
  have hn : a.px.l.Nodup := by rw [e]; exact (compL_sorted hp).imp fun h => Nat.ne_of_lt h
  refine ⟨h2, hn, hall, ?_⟩
  have := length_le_of_subset (m := List.range (W * H)) hn (fun x hx => List.mem_range.2 (hall x hx))
  simpa using this
theorem fill_end {n : Nat} {ls : List Int} (hl : ls.length = n) (h : ∀ q, q < n → ls.getD q (-1) = -1) : ls = ofP n [] := by
  refine List.ext_getElem? fun q => ?_
  by_cases hq : q < n
  · rw [ofP_get hq, List.getElem?_eq_getElem (by omega)]
    have := h q hq
    rw [List.getD_eq_getElem?_getD, List.getElem?_eq_getElem (by omega)] at this
    exact congrArg some this
  · rw [List.getElem?_eq_none (by omega), List.getElem?_eq_none (by rw [ofP_len]; omega)]
theorem fill_step {n p : Nat} {ls : List Int} (hl : ls.length = n) (hp : p < n) (h : ∀ q, q < p → ls.getD q (-1) = -1) : ∀ q, q < p + 1 → (ls.set p (-1)).getD q (-1) = -1 := fun q hq => by
  rw [set_get (by omega)]
  by_cases e : p = q
  · rw [if_pos e]
  · rw [if_neg e]; exact h q (by omega)

end Go.Proofs.Ytgemekpofpoopaa

namespace Go.Proofs.Ytgemekpofpoopaa
open Go.SL Go.Proofs Go.Cast Go.Cell
set_option linter.unusedVariables false

theorem vAt_lt {l : List Nat} {m i : Nat} (h : 0 < m) : vAt l m i < m := by unfold vAt; split <;> first | exact Nat.mod_lt _ h | exact h
end Go.Proofs.Ytgemekpofpoopaa

namespace Go.Proofs.Ytgemekpofpoopaa
open Go.SL Go.Proofs Go.Cast Go.Cell
set_option linter.unusedVariables false

theorem A63 : IsAgg Try.prog 63 4 := ⟨⟨_, Try.underlying63, rfl⟩, by kernel_rfl⟩
theorem C33 : IsFn Try.prog 33 := ⟨_, Try.func33, by decide, rfl⟩
structure MpY where
  p : Option Addr
  c : Nat
  v : List Span
/-- A map of the statements. -/
structure FldOk (G : Grid) (vs : List Span) : Prop where
  grid : gridOk G
  wide : (vs.length : Int) = G.wide * G.high
  n : vs.length = gW G * gH G
  sp : ∀ j, j < vs.length → 0 ≤ (vs.getD j ⟨0,0⟩).lo ∧ (vs.getD j ⟨0,0⟩).lo ≤ (vs.getD j ⟨0,0⟩).hi ∧ (vs.getD j ⟨0,0⟩).hi ≤ 100
  le : vs.length ≤ 36
  pos : 0 < vs.length
theorem mapTo_get {x : MapA} {k j : Nat} (h : j < k) : (mapTo x k).getD j ⟨0,0⟩ = mapAt x j := by
  unfold mapTo; rw [List.getD_eq_getElem?_getD, List.getElem?_map, List.getElem?_range h]; rfl
theorem map_fld (x : MapA) : FldOk (mapG x) (mapVs x) := by
  obtain ⟨h1, h2, h3, h4⟩ := map_wh x
  have hl : (mapVs x).length = mapW x * mapH x := mapTo_len
  have hp : 0 < mapW x * mapH x := Nat.mul_pos (by omega) (by omega)
  refine ⟨by unfold gridOk; dsimp only; omega, ?_, ?_, fun j hj => ?_, by rw [hl]; exact map_area x, by omega⟩
  · rw [hl]; exact Int.natCast_mul _ _
  · rw [hl]; show _ = ((mapW x : Nat) : Int).toNat * ((mapH x : Nat) : Int).toNat; rw [Int.toNat_natCast, Int.toNat_natCast]
  · have h40 : vAt x.lo 40 j < 40 := vAt_lt (by decide)
    have h30 : vAt x.mo 30 j < 30 := vAt_lt (by decide)
    rw [hl] at hj
    unfold mapVs
    rw [mapTo_get hj]
    unfold mapAt
    dsimp only
    omega
theorem field_k (G : Grid) (x : MapA) (w : World) (hx : MapI w x) (hk : MapK x) (hG : G = mapG x) : Calls Try.prog 33 #[x.V] w fun e w' => ∃ y : MpY, FldOk G y.v ∧ e = .returned (fieldV G y.p y.v.length y.c) ∧ St (bs w) [own 71 2 y.p y.c (y.v.map Span.cells)] w' := by
  subst hG
  exact (field_c x w hx hk).mono fun e w' ⟨y,_, h2, h3⟩ => ⟨⟨y.p, y.c, mapVs x⟩, map_fld x, h2, h3⟩
theorem open_zero {G : Grid} {vs : List Span} {lv : Int} (h : FldOk G vs) (h1 : 1 ≤ lv) (h2 : lv ≤ 1073741824) : openE G vs lv = 0 := by
  unfold openE
  rw [if_neg (fun q => q (fE4 (m := 1073741824) (f := ⟨G, vs⟩) (j := vs.length) h.grid h.wide (fun k hk => if_pos (by have := h.sp k hk; unfold spanOk; dsimp only; omega)) (Nat.le_refl _)).symm), if_neg (by omega)]
end Go.Proofs.Ytgemekpofpoopaa

namespace Go.Proofs.Ytgemekpofpoopaa
open Go.SL Go.Proofs Go.Cast Go.Cell
set_option linter.unusedVariables false



set_option maxRecDepth 20000 in
set_option maxHeartbeats 16000000 in
theorem owners_c (g : Grid) (vs : List Span) (pv : Option Addr) (cv : Nat) (lv : Int) (y : ArY) (w : World) (hg : gridOk g) (hvl : vs.length = gW g * gH g) (hy : ArP (gW g) (gH g) vs lv y) (hr : ArRd w y) :
  Calls Try.prog 36 #[fieldV g pv vs.length cv, .slice y.p y.l.length y.c] w fun e w' => ∃ z : SlY, True ∧ e = .returned (.tuple #[.slice z.p (gW g * gH g) z.c, .bool true]) ∧ St (bs w) [own 3 1 z.p z.c ((ofL (gW g) (gH g) (mayB vs lv)).map iC)] w' := by
  have har := area_le hg
  have hnl := ar_len hy
  have hnb := ar_le hy
  have hap := parts_apart (W := gW g) (H := gH g) (S := mayB vs lv) (p := gW g * gH g) (Nat.le_refl _)
  refine enter (vs := [_,_]) (env := [(0,_), (1,_)]) Try.func36 rfl rfl rfl rfl ?_
  refine VC.seq ?_
  refine VC.reg (VO.h rfl<|HO.box (C := #[_,_,_,_,_,_]) rfl rfl fun b1 => VO.l (LO.as (.r rfl)) rfl<|VO.l (LO.as (.r rfl)) rfl<|VO.nil ?_)
  refine VE.seqN ?_
  refine VC.seq ?_
  refine VC.reg (VO.l (LO.fa (r := 5) F26_1 (.r rfl) rfl) rfl<|VO.l (LO.ld O24 (.r rfl) (fun _ hw => cells_at hw 0 rfl ⟨_, rfl⟩)) rfl<|VO.l (LO.len S24 (.r rfl) rfl) rfl<|VO.h rfl<|HO.mksM (f := iC) (z0 := (0 : Int)) (n := vs.length) rfl S40 I3 (.r rfl) (.r rfl) rfl (by decide) (by omega) (by omega) fun b2 => VO.h rfl<|HO.lo (LO.as (.r rfl))<|VO.nil ?_)
  refine VE.seqN ?_
  refine VC.seq ?_
  refine VC.seq ?_
  refine VC.reg (VO.l (LO.mv (.r rfl)) rfl<|VO.l (LO.len S40 (.r rfl) rfl) rfl<|VO.l (LO.mv (.r rfl)) rfl<|VO.nil ?_)
  refine VE.seqN ?_
  refine VC.block ?_
  refine VC.loopK (α := Nat × (List Int)) 1 (fun gx => [(18, .int .i64 (gx.1 : Nat))]) [(1,_), (6,_), (17,_)] (fun gx => [own 3 1 (some ⟨b2,0, none⟩) vs.length (gx.2.map iC)]) (fun gx => gx.1 ≤ vs.length ∧ gx.2.length = vs.length ∧ ∀ q, q < gx.1 → gx.2.getD q (-1) = -1) (fun gx => vs.length - gx.1) (0, (List.replicate vs.length 0)) (by exact ⟨Nat.zero_le _, by simp, fun q h => absurd h (Nat.not_lt_zero _)⟩) (.cons rfl (.cons rfl (.cons rfl (.cons rfl .nil)))) (fun _ h => h) ?_
  rintro ⟨p, ls⟩ ⟨hp, hll, hz⟩
  show VC _ _ _ _ _ ([(18, .int .i64 (p : Nat))] ++ _) ([own 3 1 (some ⟨b2,0, none⟩) vs.length (ls.map iC)] ++ _) _ _
  dsimp only at hp hll hz
  refine VC.seq ?_
  refine VC.reg (VO.l (LO.lt (.r rfl) (.r rfl)) rfl<|VO.nil ?_)
  refine VE.seqN ?_
  refine VC.seq ?_
  refine VC.cond rfl (fun h19 => ?_) (fun h19 => ?_)
  ·
    refine VC.skip (VE.seqN ?_)
    refine VC.seq ?_
    refine VC.block ?_
    refine VC.seq ?_
    refine VC.reg (VO.l (LO.mv (.r rfl)) rfl<|VO.l (LO.as (.r rfl)) rfl<|VO.nil ?_)
    refine VE.seqN ?_
    refine VC.reg (VO.l (LO.mv (.r rfl)) rfl<|VO.l (LO.mv (.r rfl)) rfl<|VO.l (LO.ixo S40 N3 (fun _ hw => (own_rows hw 0 rfl).some (by rw [List.length_map]; first | omega | (rw [owT_len]; done) | (rw [owT_len]; omega))) (.r rfl) (.r rfl) rfl (by omega)) rfl<|VO.h0<|HO.stm 0 (fun R => [R,_]) ((-1 : Int)) (vs := [_]) N3 (.r rfl) (.r rfl) rfl (by omega) rfl rfl rfl rfl rfl (fun _ => rfl)<|VO.nil ?_)
    refine VE.inN (VE.seqN ?_)
    refine VC.reg (VO.l (LO.add (.r rfl) (.r rfl) (wi (by omega) (by omega))) rfl<|VO.l (LO.mv (.r rfl)) rfl<|VO.nil ?_)
    refine VE.thenN fun a w ha hw => ⟨(p + 1, ls.set p (-1)), ⟨by dsimp only; omega, by dsimp only; rw [List.length_set]; exact hll, fill_step hll (by omega) hz⟩, (by dsimp only; omega), ha.sub (.cons rfl (.cons rfl (.cons rfl (.cons rfl .nil)))), hw⟩
  ·
    have hpe : p = vs.length := by omega
    subst hpe
    rw [fill_end hll hz, ← List.take_zero (l := partsL (gW g) (gH g) (mayB vs lv))]
    refine VC.exit (VE.thenX (VE.thenX (VE.inX (VE.seqN ?_))))
    refine VC.seq ?_
    refine VC.seq ?_
    refine VC.reg (VO.l (LO.mv (.r rfl)) rfl<|VO.l (LO.len S29 (.r rfl) rfl) rfl<|VO.l (LO.mv (.r rfl)) rfl<|VO.nil ?_)
    refine VE.seqN ?_
    refine VC.block ?_
    refine VC.loopK (α := Nat) 1 (fun gx => [(27, .int .i64 (gx : Nat))]) [(6,_), (25,_), (26,_)] (fun gx => [own 3 1 (some ⟨b2,0, none⟩) vs.length ((ofP vs.length ((partsL (gW g) (gH g) (mayB vs lv)).take gx)).map iC)]) (fun gx => gx ≤ y.l.length) (fun gx => y.l.length - gx) 0 (by exact Nat.zero_le _) (.cons rfl (.cons rfl (.cons rfl (.cons rfl .nil)))) (fun _ h => h) ?_
    rintro i hi
    refine VC.seq ?_
    refine VC.reg (VO.l (LO.lt (.r rfl) (.r rfl)) rfl<|VO.nil ?_)
    refine VE.seqN ?_
    refine VC.seq ?_
    refine VC.cond rfl (fun h28 => ?_) (fun h28 => ?_)
    ·
      obtain ⟨aa, haa⟩ := get_ex (l := y.l) (n := i) (by omega)
      obtain ⟨hp1, hp2, hp3, hp4⟩ := ar_part hy haa
      rw [owT_zero (i := i) (l := aa.px.l)]
      refine VC.skip (VE.seqN ?_)
      refine VC.seq ?_
      refine VC.block ?_
      refine VC.seq ?_
      refine VC.reg (VO.l (LO.mv (.r rfl)) rfl<|VO.l (LO.ixs S29 N73 hr.ar.sm (.r rfl) (.r rfl) rfl (by omega)) rfl<|VO.l (LO.lda (vs := [_,_,_,_,_,_,_,_]) A73 (.r rfl) (fun w hw => cells_part (off := 0) ((fun w3 h3 => RO.cel (hr.keep w3 h3).ar haa) w hw) ⟨_, rfl⟩) rfl) rfl<|VO.h rfl<|HO.alloc (C := #[_,_,_,_,_,_,_,_]) Z73 rfl fun b3 => VO.l (LO.as (.r rfl)) rfl<|VO.h0<|HO.st 0 (vs := [_,_,_,_,_,_,_,_]) (C' := [_,_,_,_,_,_,_,_]) (L' := [_,_,_]) N73 rfl rfl rfl rfl rfl rfl rfl rfl<|VO.nil ?_)
      refine VE.seqN ?_
      refine VC.seq ?_
      refine VC.reg (VO.l (LO.fa (r := 0) F73_0 (.r rfl) rfl) rfl<|VO.l (LO.ld O40 (.r rfl) (fun _ hw => cells_at hw 0 rfl ⟨_, rfl⟩)) rfl<|VO.l (LO.len S40 (.r rfl) rfl) rfl<|VO.l (LO.mv (.r rfl)) rfl<|VO.nil ?_)
      refine VE.seqN ?_
      refine VC.block ?_
      refine VC.perm [1,0,2] rfl ?_
      refine VC.loopK (α := Nat) 1 (fun gx => [(35, .int .i64 (gx : Nat))]) [(6,_), (8,_), (25,_), (26,_), (27,_), (33,_), (34,_)] (fun gx => [own 3 1 (some ⟨b2,0, none⟩) vs.length ((owT vs.length ((partsL (gW g) (gH g) (mayB vs lv)).take i) i aa.px.l gx).map iC)]) (fun gx => gx ≤ aa.px.l.length) (fun gx => aa.px.l.length - gx) 0 (by exact Nat.zero_le _) (.cons rfl (.cons rfl (.cons rfl (.cons rfl (.cons rfl (.cons rfl (.cons rfl (.cons rfl .nil)))))))) (fun _ h => h) ?_
      rintro k hk
      refine VC.seq ?_
      refine VC.reg (VO.l (LO.lt (.r rfl) (.r rfl)) rfl<|VO.nil ?_)
      refine VE.seqN ?_
      refine VC.seq ?_
      refine VC.cond rfl (fun h36 => ?_) (fun h36 => ?_)
      ·
        obtain ⟨p, hpk⟩ := get_ex (l := aa.px.l) (n := k) (by omega)
        have hpn := hp3 p (List.mem_of_getElem? hpk)
        have hnew := owT_new hp1 hap hp2 hpk
        refine VC.skip (VE.seqN ?_)
        refine VC.seq ?_
        refine VC.block ?_
        refine VC.seq ?_
        refine VC.reg (VO.l (LO.ixs S40 N3 (hr.px aa (List.mem_of_getElem? haa)).sm (.r rfl) (.r rfl) rfl (by omega)) rfl<|VO.l (LO.ld O3 (.r rfl) (fun w hw => cells_part (off := 0) ((fun w3 h3 => RO.cel ((hr.keep w3 h3).px aa (List.mem_of_getElem? haa)) hpk) w hw) ⟨_, rfl⟩)) rfl<|VO.l (LO.as (.r rfl)) rfl<|VO.nil ?_)
        refine VE.seqN ?_
        refine VC.seq ?_
        refine VC.seq ?_
        refine VC.reg (VO.l (LO.mv (.r rfl)) rfl<|VO.l (LO.lt (.r rfl) (.r rfl)) rfl<|VO.l (LO.mv (.r rfl)) rfl<|VO.lg rfl rfl (GD.f _) (fun hg => LO.mv (.r rfl)) rfl<|VO.lg rfl rfl (GD.f _) (fun hg => LO.mv (.r rfl)) rfl<|VO.lg rfl rfl (GD.f _) (fun hg => LO.len S40 (.g hg rfl) rfl) rfl<|VO.lg rfl rfl (GD.f _) (fun hg => LO.ge (.g hg rfl) (.g hg rfl)) rfl<|VO.l (LO.pkO (.r rfl) (.r rfl) rfl rfl) rfl<|VO.l (LO.mv (.r rfl)) rfl<|VO.lg rfl rfl (GD.f _) (fun hg => LO.mv (.r rfl)) rfl<|VO.lg rfl rfl (GD.f _) (fun hg => LO.mv (.r rfl)) rfl<|VO.lg rfl rfl (GD.f _) (fun hg => LO.ixo S40 N3 (fun _ hw => (own_rows hw 0 rfl).some (by rw [List.length_map]; first | omega | (rw [owT_len]; done) | (rw [owT_len]; omega))) (.g hg rfl) (.g hg rfl) rfl (by omega)) rfl<|VO.lg rfl rfl (GD.f _) (fun hg => LO.ld O3 (.g hg rfl) (fun w hw => cells_part (off := 0) (own_cell hw 0 rfl (owT_get (by omega))) ⟨_, rfl⟩)) rfl<|VO.lg rfl rfl (GD.f _) (fun hg => LO.ge (.g hg rfl) (.r rfl)) rfl<|VO.l (LO.pkO (.r rfl) (.r rfl) rfl rfl) rfl<|VO.nil ?_)
        refine VE.seqN ?_
        refine VC.cond rfl (fun h53 => ?_) (fun h53 => ?_)
        ·
          (exfalso; (rw [hnew] at h53; omega))
        ·
          refine VC.skip (VE.seqN ?_)
          refine VC.reg (VO.l (LO.mv (.r rfl)) rfl<|VO.l (LO.mv (.r rfl)) rfl<|VO.l (LO.mv (.r rfl)) rfl<|VO.l (LO.ixo S40 N3 (fun _ hw => (own_rows hw 0 rfl).some (by rw [List.length_map]; first | omega | (rw [owT_len]; done) | (rw [owT_len]; omega))) (.r rfl) (.r rfl) rfl (by omega)) rfl<|VO.h0<|HO.stm 0 (fun R => [R,_,_]) ((i : Int)) (vs := [_]) N3 (.r rfl) (.r rfl) rfl (by rw [owT_len]; omega) rfl rfl rfl rfl rfl (fun _ => rfl)<|VO.nil ?_)
          rw [owT_set hpk (by omega)]
          refine VE.inN (VE.seqN ?_)
          refine VC.reg (VO.l (LO.add (.r rfl) (.r rfl) (wi (by omega) (by omega))) rfl<|VO.l (LO.mv (.r rfl)) rfl<|VO.nil ?_)
          refine VE.thenN fun a w ha hw => ⟨k + 1, (by omega), (by omega), ha.sub (.cons rfl (.cons rfl (.cons rfl (.cons rfl (.cons rfl (.cons rfl (.cons rfl (.cons rfl .nil)))))))), hw⟩
      ·
        refine VC.exit (VE.thenX (VE.thenX (VE.inX (VE.inN (VE.seqN ?_)))))
        refine VC.reg (VO.l (LO.add (.r rfl) (.r rfl) (wi (by omega) (by omega))) rfl<|VO.l (LO.mv (.r rfl)) rfl<|VO.nil ?_)
        have hke : k = aa.px.l.length := by omega
        subst hke
        rw [owT_done hp1 hap]
        refine VE.thenN fun a w ha hw => ⟨i + 1, (by omega), (by omega), ha.sub (.cons rfl (.cons rfl (.cons rfl (.cons rfl .nil)))), hw.sel [0,2] rfl⟩
    ·
      have hie : i = y.l.length := by omega
      subst hie
      rw [show y.l.length = (partsL (gW g) (gH g) (mayB vs lv)).length from hnl.symm, List.take_length]
      refine VC.exit (VE.thenX (VE.thenX (VE.inX (VE.seqN ?_))))
      refine VC.seq ?_
      refine VC.reg (VO.l (LO.mv (.r rfl)) rfl<|VO.l (LO.as (.r rfl)) rfl<|VO.l (LO.as (.r rfl)) rfl<|VO.nil ?_)
      refine VE.seqN ?_
      refine VC.ret (VE.res (vs := [_,_]) rfl ⟨rfl, rfl, trivial⟩ (fun w hw => ?_))
      rw [hvl] at hw
      exact ⟨⟨_,_⟩, trivial, by rw [← hvl]; rfl, selK [0] rfl rfl _ hw⟩

end Go.Proofs.Ytgemekpofpoopaa

namespace Go.Proofs.Ytgemekpofpoopaa
open Go.SL Go.Proofs Go.Cast Go.Cell
set_option linter.unusedVariables false
theorem Areas_k (G : Grid) (vs : List Span) (pv : Option Addr) (cv : Nat) (lv : Int) (w : World) (hv : Spans w pv vs) (h : FldOk G vs) (h1 : 1 ≤ lv) (h2 : lv ≤ 1073741824) : Calls Try.prog 17 #[fieldV G pv vs.length cv, .int .i64 lv] w fun e w' => ∃ y : ArY, ArP (gW G) (gH G) vs lv y ∧ e = .returned (.tuple #[.slice y.p y.l.length y.c, .int .i64 0]) ∧ St (bs w) (y.R (ofL (gW G) (gH G) (mayB vs lv))) w' := Areas_ok G vs pv cv lv w hv (open_zero h h1 h2)
/-- The areas' owners of pixels. -/
structure OwOk (W H : Nat) (M : Nat → Bool) (o : List Int) : Prop where
  len : o.length = W * H
  get : ∀ q, q < W * H → o.getD q (-1) = idxL (partsL W H M) q
theorem ow_ok {W H : Nat} {M : Nat → Bool} : OwOk W H M (ofL W H M) := ⟨ofL_len, fun q hq => by rw [List.getD_eq_getElem?_getD, ofL_get hq]; rfl⟩
theorem owners_k (G : Grid) (vs : List Span) (pv : Option Addr) (cv : Nat) (lv : Int) (y : ArY) (w : World) (h : FldOk G vs) (hy : ArP (gW G) (gH G) vs lv y) (hr : ArRd w y) : Calls Try.prog 36 #[fieldV G pv vs.length cv, .slice y.p y.l.length y.c] w fun e w' => ∃ z : PnY, OwOk (gW G) (gH G) (mayB vs lv) z.l ∧ e = .returned (.tuple #[.slice z.p z.l.length z.c, .bool true]) ∧ St (bs w) [own 3 1 z.p z.c (z.l.map iC)] w' :=
  (owners_c G vs pv cv lv y w h.grid h.n hy hr).mono fun e w' ⟨z,_, h2, h3⟩ => ⟨⟨z.p, z.c, ofL (gW G) (gH G) (mayB vs lv)⟩, ow_ok, by rw [h2, ofL_len], h3⟩
section
variable {W H : Nat} {S M T : Nat → Bool} {vs ts : List Span} {lv : Int} {y : ArY} {co ow : List Int} {k i : Nat}
theorem ow_cn (how : OwOk W H M ow) (hk : k < W * H) {c : Nat} (h : Cn W H M k c) : ow.getD c (-1) = ow.getD k (-1) := by
  rw [how.get k hk, how.get c (h.lt hk)]; exact ((idx_cn hk h.left).2 h).symm
end
end Go.Proofs.Ytgemekpofpoopaa

namespace Go.Proofs.Ytgemekpofpoopaa
open Go.SL Go.Proofs Go.Cast Go.Cell
set_option linter.unusedVariables false
/-- The level after some steps. -/
def preN (st : List Nat) : Nat → Int
  | 0 => 0
  | k + 1 => preN st k + (1 + ((st.getD k 0 % 20 : Nat) : Int))
structure LvOk (st : List Nat) (ls : List Int) (k : Nat) : Prop where
  len : ls.length = k
  get : ∀ i, i < k → ls.getD i 0 = preN st (i + 1)
theorem LvOk.nil {st : List Nat} : LvOk st [] 0 := ⟨rfl, fun i h => absurd h (Nat.not_lt_zero _)⟩
theorem LvOk.add {st : List Nat} {ls : List Int} {k : Nat} {v : Int} (h : LvOk st ls k) (hv : v = preN st (k + 1)) : LvOk st (ls ++ [v]) (k + 1) where
  len := by rw [List.length_append, h.len]; rfl
  get := fun i hi => by
    rw [List.getD_eq_getElem?_getD]
    by_cases q : i < k
    · rw [List.getElem?_append_left (by rw [h.len]; exact q), ← List.getD_eq_getElem?_getD]; exact h.get i q
    · have : i = k := by omega
      subst this
      rw [List.getElem?_append_right (by rw [h.len]; exact Nat.le_refl _), h.len, Nat.sub_self]; exact hv
theorem preN_bd {st : List Nat} : ∀ {k : Nat}, (k : Int) ≤ preN st k ∧ preN st k ≤ 20 * k
  | 0 => by simp [preN]
  | k + 1 => by
    have := @preN_bd st k
    have h := Nat.mod_lt (st.getD k 0) (show 0 < 20 by decide)
    show ((k + 1 : Nat) : Int) ≤ preN st k + _ ∧ preN st k + (1 + ((st.getD k 0 % 20 : Nat) : Int)) ≤ _
    omega
theorem lv_tree {G : Grid} {vs : List Span} {st : List Nat} {ls : List Int} (h : FldOk G vs) (hl : LvOk st ls st.length) (h1 : 1 ≤ st.length) (h8 : st.length ≤ 8) : treeE G vs ls = 0 := by
  have hf : fieldE 1073741824 ⟨G, vs⟩ = 0 := (fE4 (m := 1073741824) (f := ⟨G, vs⟩) (j := vs.length) h.grid h.wide (fun k hk => if_pos (by have := h.sp k hk; unfold spanOk; dsimp only; omega)) (Nat.le_refl _)).symm
  have hll := hl.len
  unfold treeE
  rw [if_neg (fun q => q hf), if_neg (by omega), firstE_zero]
  intro i hi
  rw [hll] at hi
  have b := @preN_bd st (i + 1)
  unfold lvlE
  rw [hl.get i hi, if_neg (by omega), if_neg]
  rintro ⟨h0, hle⟩
  rw [hl.get (i - 1) (by omega), show i - 1 + 1 = i by omega] at hle
  have : preN st (i + 1) = preN st i + (1 + ((st.getD i 0 % 20 : Nat) : Int)) := rfl
  omega
theorem lv_at {st : List Nat} {ls : List Int} {n i : Nat} (hl : LvOk st ls n) (hi : i < n) : 1 ≤ ls.getD i 0 ∧ ls.getD i 0 ≤ 20 * (i + 1) := by
  have b := @preN_bd st (i + 1)
  rw [hl.get i hi]; omega
section
variable {W H : Nat} {vs : List Span} {ls : List Int} {st : List Nat} {rs : List (RowA Int)} {ar : ArY} {ob : List Int} {i k m p n : Nat}
theorem tree_row (h : rs.map RowA.l = treeM W H vs ls) {r : RowA Int} (hr : rs[i]? = some r) : r.l = treeAt W H vs ls i := by
  have h1 : (treeM W H vs ls)[i]? = some r.l := by rw [← h, List.getElem?_map, hr]; rfl
  unfold treeM at h1
  rw [List.getElem?_map] at h1
  have hi : i < ls.length := by
    have := (List.getElem?_eq_some_iff.1 hr).1
    have e := congrArg List.length h
    unfold treeM at e; rw [List.length_map, List.length_map, List.length_range] at e; omega
  rw [List.getElem?_range hi] at h1
  exact (Option.some.inj h1).symm
theorem tree_len (h : rs.map RowA.l = treeM W H vs ls) : rs.length = ls.length := by
  have e := congrArg List.length h
  unfold treeM at e; rw [List.length_map, List.length_map, List.length_range] at e; exact e
theorem tree_row_len (h : rs.map RowA.l = treeM W H vs ls) {r : RowA Int} (hr : rs[i]? = some r) : r.l.length = (partsL W H (mayB vs (ls.getD i 0))).length := by
  rw [tree_row h hr]; unfold treeAt; rw [List.length_map]
theorem tree_get (h : rs.map RowA.l = treeM W H vs ls) {r : RowA Int} (hr : rs[i]? = some r) {l : List Nat} (hk : (partsL W H (mayB vs (ls.getD i 0)))[k]? = some l) : r.l.getD k (-1) = idxL (prevP W H vs ls i) (l.headD 0) := by
  rw [tree_row h hr]; unfold treeAt
  rw [List.getD_eq_getElem?_getD, List.getElem?_map, hk]; rfl
/-- Owners at the level before. -/
structure BfOk (W H : Nat) (vs : List Span) (ls : List Int) (i : Nat) (ob : List Int) : Prop where
  zero : i = 0 → ob = []
  pos : 0 < i → OwOk W H (mayB vs (ls.getD (i - 1) 0)) ob
theorem BfOk.next (h : OwOk W H (mayB vs (ls.getD i 0)) ob) : BfOk W H vs ls (i + 1) ob := ⟨fun e => by omega, fun _ => h⟩
theorem nest_zero (h : rs.map RowA.l = treeM W H vs ls) {r : RowA Int} (hr : rs[0]? = some r) {l : List Nat} (hk : (partsL W H (mayB vs (ls.getD 0 0)))[k]? = some l) : r.l.getD k (-1) = -1 := by
  rw [tree_get h hr hk]; unfold prevP; rw [if_pos rfl]; rfl
theorem nest_pos (h : rs.map RowA.l = treeM W H vs ls) {r : RowA Int} (hr : rs[i]? = some r) {l : List Nat} (hk : (partsL W H (mayB vs (ls.getD i 0)))[k]? = some l) (hp : l[m]? = some p) (hi : 0 < i) (hin : i < n) (hl : LvOk st ls n) (hb : BfOk W H vs ls i ob) :
    0 ≤ r.l.getD k (-1) ∧ ob.getD p (-1) = r.l.getD k (-1) := by
  have hpm := List.mem_of_getElem? hp
  have hne : l ≠ [] := fun e => by rw [e] at hpm; cases hpm
  obtain ⟨g1, g2, g3,_⟩ := parts_cn (Nat.le_refl _) (List.mem_of_getElem? hk) (headD_mem hne)
  have hc := (g3 p).1 hpm
  have hlv : ls.getD (i - 1) 0 ≤ ls.getD i 0 := by
    rw [hl.get i hin, hl.get (i - 1) (by omega), show i - 1 + 1 = i by omega]
    have : preN st (i + 1) = preN st i + (1 + ((st.getD i 0 % 20 : Nat) : Int)) := rfl
    omega
  have hM : ∀ x, x < W * H → mayB vs (ls.getD i 0) x = true → mayB vs (ls.getD (i - 1) 0) x = true := fun x _ k => by unfold mayB at *; simp only [decide_eq_true_eq] at *; omega
  have ho := hb.pos hi
  rw [tree_get h hr hk]
  unfold prevP
  rw [if_neg (by omega)]
  have hc2 := hc.mono g2 hM
  refine ⟨(idx_parts g2).2 hc2.left, ?_⟩
  rw [ow_cn ho g2 hc2, ho.get _ g2]
end
end Go.Proofs.Ytgemekpofpoopaa

namespace Go.Proofs.Ytgemekpofpoopaa
open Go.SL Go.Proofs Go.Cast Go.Cell
set_option linter.unusedVariables false

theorem C36 : IsFn Try.prog 36 := ⟨_, Try.func36, by decide, rfl⟩
end Go.Proofs.Ytgemekpofpoopaa

namespace Go.Proofs.Ytgemekpofpoopaa
open Go.SL Go.Proofs Go.Cast Go.Cell
set_option linter.unusedVariables false



theorem pre_next {sts : List Nat} {k sx : Nat} {v : Int} (hv : v = preN sts k) (h : sts[k]? = some sx) : v + (1 + ((sx % 20 : Nat) : Int)) = preN sts (k + 1) := by
  show _ = preN sts k + _
  rw [List.getD_eq_getElem?_getD, h, hv]; rfl
theorem nest_end {W H : Nat} {vs : List Span} {ls ob : List Int} {sts : List Nat} {rs : List (RowA Int)} {r : RowA Int} {l : List Nat} {i k m p n : Nat} (h : rs.map RowA.l = treeM W H vs ls) (hr : rs[i]? = some r) (hk : (partsL W H (mayB vs (ls.getD i 0)))[k]? = some l) (hp : l[m]? = some p) (hin : i < n) (hl : LvOk sts ls n) (hb : BfOk W H vs ls i ob)
    (h2 : ((i : Int) = 0 ∧ ¬ r.l.getD k (-1) = -1) ∨ ((0 : Int) < (i : Int) ∧ (r.l.getD k (-1) < 0 ∨ ¬ ob.getD p (-1) = r.l.getD k (-1)))) : False := by
  rcases h2 with ⟨e, z⟩ | ⟨e, z⟩
  · have e : i = 0 := by omega
    subst e
    exact z (nest_zero h hr hk)
  · obtain ⟨a, b⟩ := nest_pos h hr hk hp (by omega) hin hl hb
    omega

set_option maxRecDepth 20000 in
set_option maxHeartbeats 16000000 in
theorem CellNested_c (x : MapA) (sts : List Nat) (ps : Option Addr) (cs : Nat) (w : World) (hx : MapI w x) (hk : MapK x) (hs : RO 1 uC w ps sts) (h8 : ∀ n, n ∈ sts → n ≤ 255) :
  Calls Try.prog 9 #[x.V, .slice ps sts.length cs] w fun e w' => e = .returned (.bool true) ∧ St (bs w) [] w' := by
  obtain ⟨G, hG⟩ : ∃ G : Grid, G = mapG x := ⟨_, rfl⟩
  refine enter (vs := [_,_]) (env := [(0,_), (1,_)]) Try.func9 rfl rfl rfl rfl ?_
  refine VC.seq ?_
  refine VC.reg (VO.h rfl<|HO.box (C := #[_,_,_,_]) rfl rfl fun b1 => VO.l (LO.as (.r rfl)) rfl<|VO.nil ?_)
  refine VE.seqN ?_
  refine VC.seq ?_
  refine VC.seq ?_
  refine VC.reg (VO.l (LO.mv (.r rfl)) rfl<|VO.l (LO.len S61 (.r rfl) rfl) rfl<|VO.l (LO.lt (.r rfl) (.r rfl)) rfl<|VO.l (LO.mv (.r rfl)) rfl<|VO.lg rfl rfl (GD.f _) (fun hg => LO.mv (.r rfl)) rfl<|VO.lg rfl rfl (GD.f _) (fun hg => LO.len S61 (.g hg rfl) rfl) rfl<|VO.lg rfl rfl (GD.f _) (fun hg => LO.gt (.g hg rfl) (.r rfl)) rfl<|VO.l (LO.pkO (.r rfl) (.r rfl) rfl rfl) rfl<|VO.nil ?_)
  refine VE.seqN ?_
  refine VC.cond rfl (fun h30 => ?_) (fun h30 => ?_)
  ·
    refine VC.seq ?_
    refine VC.reg (VO.l (LO.call (xs := []) (vs := []) C16 trivial (fun w2 _ => works_c w2)) rfl<|VO.l (LO.as (.r rfl)) rfl<|VO.nil ?_)
    refine VE.seqN ?_
    refine VC.ret (VE.thenR (VE.res (vs := [_]) rfl ⟨rfl, trivial⟩ (fun w hw => ?_)))
    exact ⟨rfl, hw.nil⟩
  ·
    refine VC.skip (VE.seqN ?_)
    refine VC.seq ?_
    refine VC.reg (VO.l (LO.lda (vs := [_,_,_,_]) A63 (.r rfl) (fun _ hw => cells_at hw 0 rfl ⟨_, rfl⟩) rfl) rfl<|VO.h rfl<|HO.callx (xs := [_]) (vs := [_]) C33 ⟨(.r rfl), trivial⟩ (fun w2 hw => field_k G x w2 (hx.keep w2 hw) hk hG) fun y hy => VO.h rfl<|HO.alloc (C := #[_,_,_,_,_,_]) Z26 rfl fun b3 => VO.h0<|HO.st 0 (vs := [_,_,_,_,_,_]) (C' := [_,_,_,_,_,_]) (L' := [_,_,_]) N26 rfl rfl rfl rfl rfl rfl rfl rfl<|VO.nil ?_)
    refine VE.seqN ?_
    refine VC.seq ?_
    refine VC.reg (VO.l (LO.as (.r rfl)) rfl<|VO.nil ?_)
    refine VE.seqN ?_
    refine VC.seq ?_
    refine VC.reg (VO.l (LO.as (.r rfl)) rfl<|VO.nil ?_)
    refine VE.seqN ?_
    refine VC.seq ?_
    refine VC.seq ?_
    refine VC.reg (VO.l (LO.mv (.r rfl)) rfl<|VO.l (LO.len S61 (.r rfl) rfl) rfl<|VO.l (LO.mv (.r rfl)) rfl<|VO.nil ?_)
    refine VE.seqN ?_
    refine VC.block ?_
    refine VC.loopK (α := Nat × (List Int) × (Option Addr) × Nat × Int) 0 (fun gx => [(6, .slice gx.2.2.1 gx.2.1.length gx.2.2.2.1), (7, .int .i64 gx.2.2.2.2), (36, .int .i64 (gx.1 : Nat))]) [(5,_), (34,_), (35,_)] (fun gx => [own 3 1 gx.2.2.1 gx.2.2.2.1 (gx.2.1.map iC)]) (fun gx => gx.1 ≤ sts.length ∧ LvOk sts gx.2.1 gx.1 ∧ gx.2.2.2.2 = preN sts gx.1) (fun gx => sts.length - gx.1) (0, [], none, 0,0) (by exact ⟨Nat.zero_le _, LvOk.nil, rfl⟩) (.cons rfl (.cons rfl (.cons rfl (.cons rfl (.cons rfl (.cons rfl .nil)))))) (fun _ h => (h.ownNil 3 1)) ?_
    rintro ⟨k, ls, pl, cl, v⟩ ⟨hkk, hlk, hvk⟩
    show VC _ _ _ _ _ ([(6, .slice pl ls.length cl), (7, .int .i64 v), (36, .int .i64 (k : Nat))] ++ _) ([own 3 1 pl cl (ls.map iC)] ++ _) _ _
    dsimp only at hkk hlk hvk
    have hll := hlk.len
    have hvb := @preN_bd sts k
    rw [← hvk] at hvb
    refine VC.seq ?_
    refine VC.reg (VO.l (LO.lt (.r rfl) (.r rfl)) rfl<|VO.nil ?_)
    refine VE.seqN ?_
    refine VC.seq ?_
    refine VC.cond rfl (fun h37 => ?_) (fun h37 => ?_)
    ·
      obtain ⟨sx, hsx⟩ := get_ex (l := sts) (n := k) (by omega)
      have hn8 := h8 sx (List.mem_of_getElem? hsx)
      have hsm := Nat.mod_lt sx (show 0 < 20 by decide)
      refine VC.skip (VE.seqN ?_)
      refine VC.seq ?_
      refine VC.block ?_
      refine VC.seq ?_
      refine VC.reg (VO.l (LO.ixs S61 N5 hs.sm (.r rfl) (.r rfl) rfl (by omega)) rfl<|VO.l (LO.ld O5 (.r rfl) (fun w hw => cells_part (off := 0) ((fun w3 h3 => RO.cel (hs.keep w3 h3) hsx) w hw) ⟨_, rfl⟩)) rfl<|VO.l (LO.as (.r rfl)) rfl<|VO.nil ?_)
      refine VE.seqN ?_
      refine VC.seq ?_
      refine VC.reg (VO.l (LO.mv (.r rfl)) rfl<|VO.l (LO.mv (.r rfl)) rfl<|VO.l (LO.cv ⟨_, Try.underlying5⟩ Try.underlying3 (.r rfl) (cv8 hn8)) rfl<|VO.l (LO.eqv (LO.rem (.r rfl) (.r rfl) (by omega)) (congrArg (Value.int .i64) (mod_i (m := 20)))) rfl<|VO.l (LO.add (.r rfl) (.r rfl) (wi (by omega) (by omega))) rfl<|VO.l (LO.add (.r rfl) (.r rfl) (wi (by omega) (by omega))) rfl<|VO.l (LO.as (.r rfl)) rfl<|VO.nil ?_)
      refine VE.seqN ?_
      refine VC.reg (VO.l (LO.mv (.r rfl)) rfl<|VO.l (LO.mv (.r rfl)) rfl<|VO.h rfl<|HO.bs (ps := [(_,_)]) (vs := [(_,_)]) (Z := [_]) (C := [_]) S40 Z3 N3 ⟨(.r rfl), trivial⟩ rfl rfl rfl rfl ⟨_, [_], [_], rfl, rfl, rfl, rfl, rfl⟩ fun b6 => VO.h rfl<|HO.appT ((v + (1 + ((sx % 20 : Nat) : Int)))) 1 0 (fun R => [_, R,_,_,_]) S40 S40 I3 (.r rfl) (.r rfl) rfl rfl rfl rfl rfl rfl rfl (fun _ => rfl) rfl (by omega) fun p3 c3 => VO.h rfl<|HO.lo (LO.as (.r rfl))<|VO.nil ?_)
      refine VE.inN (VE.seqN ?_)
      refine VC.reg (VO.l (LO.add (.r rfl) (.r rfl) (wi (by omega) (by omega))) rfl<|VO.l (LO.mv (.r rfl)) rfl<|VO.nil ?_)
      refine VE.thenN fun a w ha hw => ⟨(k + 1, ls ++ [v + (1 + ((sx % 20 : Nat) : Int))], p3, c3, v + (1 + ((sx % 20 : Nat) : Int))), ⟨by dsimp only; omega, hlk.add (pre_next hvk hsx), pre_next hvk hsx⟩, (by dsimp only; omega), ha.sub (.cons rfl (.cons rfl (.cons rfl (.cons rfl (.cons rfl (.cons rfl .nil)))))), hw.sel [1,2,3,4] rfl⟩
    ·
      have hke : k = sts.length := by omega
      subst hke
      refine VC.exit (VE.thenX (VE.thenX (VE.inX (VE.seqN ?_))))
      refine VC.seq ?_
      refine VC.reg (VO.l (LO.lda (vs := [_,_,_,_,_,_]) A26 (.r rfl) (fun _ hw => cells_at hw 1 rfl ⟨_, rfl⟩) rfl) rfl<|VO.l (LO.mv (.r rfl)) rfl<|VO.h rfl<|HO.callx (xs := [_,_]) (vs := [_,_]) C24 ⟨(.r rfl), (.r rfl), trivial⟩ (fun w2 hw => Tree_ok G y.v y.p y.c ls pl cl w2 (RO.of_own hw 2 rfl) (RO.of_own hw 0 rfl) (lv_tree hy hlk (by omega) (by omega))) fun tr htr0 => VO.h rfl<|HO.lo (LO.mv (.r rfl))<|VO.h rfl<|HO.lo (LO.ex (.r rfl) rfl)<|VO.h rfl<|HO.lo (LO.ex (.r rfl) rfl)<|VO.h rfl<|HO.lo (LO.as (.r rfl))<|VO.h rfl<|HO.lo (LO.as (.r rfl))<|VO.nil ?_)
      refine VE.seqN ?_
      refine VC.seq ?_
      refine VC.seq ?_
      refine VC.reg (VO.l (LO.mv (.r rfl)) rfl<|VO.l (LO.ne (.r rfl) (.r rfl)) rfl<|VO.l (LO.mv (.r rfl)) rfl<|VO.lg rfl rfl (GD.f _) (fun hg => LO.mv (.r rfl)) rfl<|VO.lg rfl rfl (GD.f _) (fun hg => LO.len S41 (.g hg rfl) rfl) rfl<|VO.lg rfl rfl (GD.f _) (fun hg => LO.mv (.r rfl)) rfl<|VO.lg rfl rfl (GD.f _) (fun hg => LO.len S40 (.g hg rfl) rfl) rfl<|VO.lg rfl rfl (GD.f _) (fun hg => LO.ne (.g hg rfl) (.g hg rfl)) rfl<|VO.l (LO.pkO (.r rfl) (.r rfl) rfl rfl) rfl<|VO.nil ?_)
      refine VE.seqN ?_
      refine VC.cond rfl (fun h65 => ?_) (fun h65 => ?_)
      ·
        (exfalso; (have hq := tree_len htr0; rcases h65 with z | z; all_goals first | omega | exact z rfl))
      ·
        refine VC.skip (VE.seqN ?_)
        refine VC.seq ?_
        refine VC.reg (VO.l (LO.as (.r rfl)) rfl<|VO.nil ?_)
        refine VE.seqN ?_
        refine VC.seq ?_
        refine VC.seq ?_
        refine VC.rebase fun w1 hst1 => ?_
        have hfF : Cells w1 ⟨b3,0, none⟩ [.int .i64 G.x, .int .i64 G.y, .int .i64 G.size, .int .i64 G.wide, .int .i64 G.high, .slice y.p y.v.length y.c] := cells_inv (hst1.inv 3 _ rfl)
        have hsF : Spans w1 y.p y.v := RO.of_own hst1 4 rfl
        have hlv : Ints w1 pl ls := RO.of_own hst1 2 rfl
        have htr : RR 1 iC w1 tr.p tr.rs := RR.of_own hst1 0 1 rfl rfl
        have hyn := hy.n
        have hyle := hy.le
        have htl := tree_len htr0
        refine VC.reg (VO.l (LO.mv (.r rfl)) rfl<|VO.l (LO.len S40 (.r rfl) rfl) rfl<|VO.l (LO.mv (.r rfl)) rfl<|VO.nil ?_)
        refine VE.seqN ?_
        refine VC.block ?_
        refine VC.loopK (α := Nat × (List Int) × (Option Addr) × Nat) 0 (fun gx => [(12, .slice gx.2.2.1 gx.2.1.length gx.2.2.2), (68, .int .i64 (gx.1 : Nat))]) [(5,_), (10,_), (66,_), (67,_)] (fun gx => [own 3 1 gx.2.2.1 gx.2.2.2 (gx.2.1.map iC)]) (fun gx => gx.1 ≤ ls.length ∧ BfOk (gW G) (gH G) y.v ls gx.1 gx.2.1) (fun gx => ls.length - gx.1) (0, [], none, 0) (by exact ⟨Nat.zero_le _, fun _ => rfl, fun h => absurd h (Nat.lt_irrefl _)⟩) (.cons rfl (.cons rfl (.cons rfl (.cons rfl (.cons rfl (.cons rfl .nil)))))) (fun _ h => (h.ownNil 3 1)) ?_
        rintro ⟨i, ob, pb, cb⟩ ⟨hi, hbf⟩
        show VC _ _ _ _ _ ([(12, .slice pb ob.length cb), (68, .int .i64 (i : Nat))] ++ _) ([own 3 1 pb cb (ob.map iC)] ++ _) _ _
        dsimp only at hi hbf
        refine VC.seq ?_
        refine VC.reg (VO.l (LO.lt (.r rfl) (.r rfl)) rfl<|VO.nil ?_)
        refine VE.seqN ?_
        refine VC.seq ?_
        refine VC.cond rfl (fun h69 => ?_) (fun h69 => ?_)
        ·
          obtain ⟨tx, htx⟩ := get_ex (l := tr.rs) (n := i) (by omega)
          have hli := lv_at hlk (i := i) (by omega)
          have htxl := tree_row_len htr0 htx
          refine VC.skip (VE.seqN ?_)
          refine VC.seq ?_
          refine VC.block ?_
          refine VC.seq ?_
          refine VC.reg (VO.l (LO.mv (.r rfl)) rfl<|VO.l (LO.ixs S40 N3 hlv.some (.r rfl) (.r rfl) rfl (by omega)) rfl<|VO.l (LO.ld O3 (.r rfl) (fun w hw => cells_part (off := 0) ((hlv.at (j := i) (by omega)) w hw) ⟨_, rfl⟩)) rfl<|VO.l (LO.as (.r rfl)) rfl<|VO.l (LO.as (.r rfl)) rfl<|VO.nil ?_)
          refine VE.seqN ?_
          refine VC.seq ?_
          refine VC.reg (VO.l (LO.lda (vs := [_,_,_,_,_,_]) A26 (.r rfl) (cells_keep (sub_cells (off := 0) hfF ⟨_, rfl⟩)) rfl) rfl<|VO.l (LO.mv (.r rfl)) rfl<|VO.h rfl<|HO.callx (xs := [_,_]) (vs := [_,_]) C17 ⟨(.r rfl), (.r rfl), trivial⟩ (fun w2 hw => Areas_k G y.v y.p y.c (ls.getD i 0) w2 (hsF.keep w2 hw) hy hli.1 (by omega)) fun ar har => VO.h rfl<|HO.lo (LO.mv (.r rfl))<|VO.h rfl<|HO.lo (LO.ex (.r rfl) rfl)<|VO.h rfl<|HO.lo (LO.ex (.r rfl) rfl)<|VO.h rfl<|HO.lo (LO.as (.r rfl))<|VO.h rfl<|HO.lo (LO.as (.r rfl))<|VO.nil ?_)
          refine VE.seqN ?_
          refine VC.seq ?_
          refine VC.reg (VO.l (LO.lda (vs := [_,_,_,_,_,_]) A26 (.r rfl) (cells_keep (sub_cells (off := 0) hfF ⟨_, rfl⟩)) rfl) rfl<|VO.l (LO.mv (.r rfl)) rfl<|VO.h rfl<|HO.callx (xs := [_,_]) (vs := [_,_]) C36 ⟨(.r rfl), (.r rfl), trivial⟩ (fun w2 hw => owners_k G y.v y.p y.c (ls.getD i 0) ar w2 hy har (ArRd.of_res (of := ofL (gW G) (gH G) (mayB y.v (ls.getD i 0))) (L := [_]) (selK [0,1,2,3,4,5,6,7,8] rfl rfl _ hw) har)) fun z hz => VO.h rfl<|HO.lo (LO.mv (.r rfl))<|VO.h rfl<|HO.lo (LO.ex (.r rfl) rfl)<|VO.h rfl<|HO.lo (LO.ex (.r rfl) rfl)<|VO.h rfl<|HO.lo (LO.as (.r rfl))<|VO.h rfl<|HO.lo (LO.as (.r rfl))<|VO.nil ?_)
          refine VE.seqN ?_
          refine VC.seq ?_
          refine VC.seq ?_
          refine VC.reg (VO.l (LO.mv (.r rfl)) rfl<|VO.l (LO.ne (.r rfl) (.r rfl)) rfl<|VO.l (LO.mv (.r rfl)) rfl<|VO.lg rfl rfl (GD.f _) (fun hg => LO.mv (.r rfl)) rfl<|VO.lg rfl rfl (GD.f _) (fun hg => LO.not (.g hg rfl)) rfl<|VO.l (LO.pkO (.r rfl) (.r rfl) rfl rfl) rfl<|VO.l (LO.mv (.r rfl)) rfl<|VO.lg rfl rfl (GD.f _) (fun hg => LO.mv (.r rfl)) rfl<|VO.lg rfl rfl (GD.f _) (fun hg => LO.mv (.r rfl)) rfl<|VO.lg rfl rfl (GD.f _) (fun hg => LO.ixs S41 N40 htr.1.sm (.g hg rfl) (.g hg rfl) rfl (by omega)) rfl<|VO.lg rfl rfl (GD.f _) (fun hg => LO.ld O40 (.g hg rfl) (fun w hw => cells_part (off := 0) ((fun w3 h3 => RR.cell (htr.keep w3 h3) htx) w hw) ⟨_, rfl⟩)) rfl<|VO.lg rfl rfl (GD.f _) (fun hg => LO.len S40 (.g hg rfl) rfl) rfl<|VO.lg rfl rfl (GD.f _) (fun hg => LO.mv (.r rfl)) rfl<|VO.lg rfl rfl (GD.f _) (fun hg => LO.len S29 (.g hg rfl) rfl) rfl<|VO.lg rfl rfl (GD.f _) (fun hg => LO.ne (.g hg rfl) (.g hg rfl)) rfl<|VO.l (LO.pkO (.r rfl) (.r rfl) rfl rfl) rfl<|VO.nil ?_)
          refine VE.seqN ?_
          refine VC.cond rfl (fun h100 => ?_) (fun h100 => ?_)
          ·
            (exfalso; (have hnl := ar_len har; rcases h100 with z | z; all_goals first | omega | simp at z))
          ·
            refine VC.skip (VE.seqN ?_)
            refine VC.seq ?_
            refine VC.seq ?_
            refine VC.res (L' := [own 3 1 z.p z.c (z.l.map iC)] ++ [_,_,_,_,_,_,_,_,_]) (selK [0,1,2,3,4,5,6,7,8,9] rfl rfl) ?_
            refine VC.rebaseO fun w2 hst2 => ?_
            have hkA : ∀ {L : List Res} {w3 : World}, St ⟨w2, fpL [own 3 1 z.p z.c (z.l.map iC)]⟩ L w3 → ArRd w3 ar ∧ RO 1 iC w3 pb ob ∧ RR 1 iC w3 tr.p tr.rs := fun h => have z := St.rightOf (St.fz hst2 h); ⟨ArRd.of_res (of := ofL (gW G) (gH G) (mayB y.v (ls.getD i 0))) (L := [_]) (selK [0,1,2,3,4,5,6,7,8] rfl rfl _ z) har, RO.of_own z 8 rfl, htr.keep _ (St.fz hst2 h)⟩
            have hz2 := St.rightOf hst2
            have hA2 : ArRd w2 ar := ArRd.of_res (of := ofL (gW G) (gH G) (mayB y.v (ls.getD i 0))) (L := [_]) (selK [0,1,2,3,4,5,6,7,8] rfl rfl _ hz2) har
            have hB2 : RO 1 iC w2 pb ob := RO.of_own hz2 8 rfl
            have htr2 := htr.keep _ hst2
            refine VC.reg (VO.l (LO.mv (.r rfl)) rfl<|VO.l (LO.len S29 (.r rfl) rfl) rfl<|VO.l (LO.mv (.r rfl)) rfl<|VO.nil ?_)
            refine VE.seqN ?_
            refine VC.block ?_
            refine VC.loopK (α := Nat) 0 (fun gx => [(103, .int .i64 (gx : Nat))]) [(5,_), (10,_), (12,_), (13,_), (17,_), (66,_), (67,_), (68,_), (101,_), (102,_)] (fun gx => []) (fun gx => gx ≤ ar.l.length) (fun gx => ar.l.length - gx) 0 (by exact Nat.zero_le _) (.cons rfl (.cons rfl (.cons rfl (.cons rfl (.cons rfl (.cons rfl (.cons rfl (.cons rfl (.cons rfl (.cons rfl (.cons rfl .nil))))))))))) (fun _ h => h) ?_
            rintro k hk0
            refine VC.seq ?_
            refine VC.reg (VO.l (LO.lt (.r rfl) (.r rfl)) rfl<|VO.nil ?_)
            refine VE.seqN ?_
            refine VC.seq ?_
            refine VC.cond rfl (fun h104 => ?_) (fun h104 => ?_)
            ·
              obtain ⟨aa, haa⟩ := get_ex (l := ar.l) (n := k) (by omega)
              have hap := ar_part har haa
              have hapl := hap.2.2.2
              have hnl := ar_len har
              have hnb := ar_le har
              refine VC.skip (VE.seqN ?_)
              refine VC.seq ?_
              refine VC.block ?_
              refine VC.seq ?_
              refine VC.reg (VO.l (LO.mv (.r rfl)) rfl<|VO.l (LO.ixs S29 N73 hA2.ar.sm (.r rfl) (.r rfl) rfl (by omega)) rfl<|VO.l (LO.lda (vs := [_,_,_,_,_,_,_,_]) A73 (.r rfl) (fun w hw => cells_part (off := 0) ((fun w3 h3 => RO.cel (hkA h3).1.ar haa) w hw) ⟨_, rfl⟩) rfl) rfl<|VO.h rfl<|HO.alloc (C := #[_,_,_,_,_,_,_,_]) Z73 rfl fun b19 => VO.l (LO.as (.r rfl)) rfl<|VO.h0<|HO.st 0 (vs := [_,_,_,_,_,_,_,_]) (C' := [_,_,_,_,_,_,_,_]) (L' := [_,_]) N73 rfl rfl rfl rfl rfl rfl rfl rfl<|VO.nil ?_)
              refine VE.seqN ?_
              refine VC.seq ?_
              refine VC.reg (VO.l (LO.fa (r := 0) F73_0 (.r rfl) rfl) rfl<|VO.l (LO.ld O40 (.r rfl) (fun _ hw => cells_at hw 0 rfl ⟨_, rfl⟩)) rfl<|VO.l (LO.len S40 (.r rfl) rfl) rfl<|VO.l (LO.mv (.r rfl)) rfl<|VO.nil ?_)
              refine VE.seqN ?_
              refine VC.block ?_
              refine VC.loopK (α := Nat) 0 (fun gx => [(111, .int .i64 (gx : Nat))]) [(5,_), (10,_), (12,_), (13,_), (17,_), (19,_), (66,_), (67,_), (68,_), (101,_), (102,_), (103,_), (109,_), (110,_)] (fun gx => []) (fun gx => gx ≤ aa.px.l.length) (fun gx => aa.px.l.length - gx) 0 (by exact Nat.zero_le _) (.cons rfl (.cons rfl (.cons rfl (.cons rfl (.cons rfl (.cons rfl (.cons rfl (.cons rfl (.cons rfl (.cons rfl (.cons rfl (.cons rfl (.cons rfl (.cons rfl (.cons rfl .nil))))))))))))))) (fun _ h => h) ?_
              rintro m hm
              refine VC.seq ?_
              refine VC.reg (VO.l (LO.lt (.r rfl) (.r rfl)) rfl<|VO.nil ?_)
              refine VE.seqN ?_
              refine VC.seq ?_
              refine VC.cond rfl (fun h112 => ?_) (fun h112 => ?_)
              ·
                obtain ⟨p, hpm⟩ := get_ex (l := aa.px.l) (n := m) (by omega)
                have hpl := hap.2.2.1 p (List.mem_of_getElem? hpm)
                refine VC.skip (VE.seqN ?_)
                refine VC.seq ?_
                refine VC.block ?_
                refine VC.seq ?_
                refine VC.reg (VO.l (LO.ixs S40 N3 (hA2.px aa (List.mem_of_getElem? haa)).sm (.r rfl) (.r rfl) rfl (by omega)) rfl<|VO.l (LO.ld O3 (.r rfl) (fun w hw => cells_part (off := 0) ((fun w3 h3 => RO.cel ((hkA h3).1.px aa (List.mem_of_getElem? haa)) hpm) w hw) ⟨_, rfl⟩)) rfl<|VO.l (LO.as (.r rfl)) rfl<|VO.nil ?_)
                refine VE.seqN ?_
                refine VC.seq ?_
                refine VC.draw mixed (LL.l (LO.mv (.r rfl)) rfl<|LL.l (LO.eq (.r rfl) (.r rfl)) rfl<|LL.l (LO.mv (.r rfl)) rfl<|LL.lg rfl rfl (GD.t _) (fun hg => LO.mv (.r rfl)) rfl<|LL.lg rfl rfl (GD.t _) (fun hg => LO.mv (.r rfl)) rfl<|LL.lg rfl rfl (GD.t _) (fun hg => LO.ixs S41 N40 htr2.1.sm (.g hg rfl) (.g hg rfl) rfl (by omega)) rfl<|LL.lg rfl rfl (GD.t _) (fun hg => LO.ld O40 (.g hg rfl) (fun w hw => cells_part (off := 0) ((fun w3 h3 => RR.cell (hkA h3).2.2 htx) w hw) ⟨_, rfl⟩)) rfl<|LL.lg rfl rfl (GD.t _) (fun hg => LO.mv (.r rfl)) rfl<|LL.lg rfl rfl (GD.t _) (fun hg => LO.ixs S40 N3 (RR.row htr2 htx).sm (.g hg rfl) (.g hg rfl) rfl (by omega)) rfl<|LL.lg rfl rfl (GD.t _) (fun hg => LO.ld O3 (.g hg rfl) (fun w hw => cells_part (off := 0) ((fun w3 h3 => RO.cel (RR.row (hkA h3).2.2 htx) (getD_m1 (n := k) (by omega))) w hw) ⟨_, rfl⟩)) rfl<|LL.lg rfl rfl (GD.t _) (fun hg => LO.ne (.g hg rfl) (.r rfl)) rfl<|LL.l (LO.pkA (.r rfl) rfl rfl (.r rfl)) rfl<|LL.l (LO.mv (.r rfl)) rfl<|LL.lg rfl rfl (GD.f _) (fun hg => LO.mv (.r rfl)) rfl<|LL.lg rfl rfl (GD.f _) (fun hg => LO.gt (.g hg rfl) (.r rfl)) rfl<|LL.lg rfl rfl (GD.f _) (fun hg => LO.mv (.g hg rfl)) rfl<|LL.lg rfl rfl (GD.nt _ _) (fun hg => LO.mv (.r rfl)) rfl<|LL.lg rfl rfl (GD.nt _ _) (fun hg => LO.mv (.r rfl)) rfl<|LL.lg rfl rfl (GD.nt _ _) (fun hg => LO.ixs S41 N40 htr2.1.sm (.g hg rfl) (.g hg rfl) rfl (by omega)) rfl<|LL.lg rfl rfl (GD.nt _ _) (fun hg => LO.ld O40 (.g hg rfl) (fun w hw => cells_part (off := 0) ((fun w3 h3 => RR.cell (hkA h3).2.2 htx) w hw) ⟨_, rfl⟩)) rfl<|LL.lg rfl rfl (GD.nt _ _) (fun hg => LO.mv (.r rfl)) rfl<|LL.lg rfl rfl (GD.nt _ _) (fun hg => LO.ixs S40 N3 (RR.row htr2 htx).sm (.g hg rfl) (.g hg rfl) rfl (by omega)) rfl<|LL.lg rfl rfl (GD.nt _ _) (fun hg => LO.ld O3 (.g hg rfl) (fun w hw => cells_part (off := 0) ((fun w3 h3 => RO.cel (RR.row (hkA h3).2.2 htx) (getD_m1 (n := k) (by omega))) w hw) ⟨_, rfl⟩)) rfl<|LL.lg rfl rfl (GD.nt _ _) (fun hg => LO.lt (.g hg rfl) (.r rfl)) rfl<|LL.lg rfl rfl (GD.nt _ _) (fun hg => LO.mv (.g hg rfl)) rfl<|LL.lg rfl rfl (GD.nf _ _) (fun hg => LO.mv (.r rfl)) rfl<|LL.lg rfl rfl (GD.nf _ _) (fun hg => LO.mv (.r rfl)) rfl<|LL.lg rfl rfl (GD.nf _ _) (fun hg => LO.ixs S40 N3 hB2.sm (.g hg rfl) (.g hg rfl) rfl (by have hq := hg; simp at hq; have hq2 := (hbf.pos hq.1.2).len; omega)) rfl<|LL.lg rfl rfl (GD.nf _ _) (fun hg => LO.ld O3 (.g hg rfl) (fun w hw => cells_part (off := 0) ((fun w3 h3 => RO.cel (hkA h3).2.1 (getD_m1 (n := p) (by have hq := hg; simp at hq; have hq2 := (hbf.pos hq.1.2).len; omega))) w hw) ⟨_, rfl⟩)) rfl<|LL.lg rfl rfl (GD.nf _ _) (fun hg => LO.mv (.r rfl)) rfl<|LL.lg rfl rfl (GD.nf _ _) (fun hg => LO.mv (.r rfl)) rfl<|LL.lg rfl rfl (GD.nf _ _) (fun hg => LO.ixs S41 N40 htr2.1.sm (.g hg rfl) (.g hg rfl) rfl (by omega)) rfl<|LL.lg rfl rfl (GD.nf _ _) (fun hg => LO.ld O40 (.g hg rfl) (fun w hw => cells_part (off := 0) ((fun w3 h3 => RR.cell (hkA h3).2.2 htx) w hw) ⟨_, rfl⟩)) rfl<|LL.lg rfl rfl (GD.nf _ _) (fun hg => LO.mv (.r rfl)) rfl<|LL.lg rfl rfl (GD.nf _ _) (fun hg => LO.ixs S40 N3 (RR.row htr2 htx).sm (.g hg rfl) (.g hg rfl) rfl (by omega)) rfl<|LL.lg rfl rfl (GD.nf _ _) (fun hg => LO.ld O3 (.g hg rfl) (fun w hw => cells_part (off := 0) ((fun w3 h3 => RO.cel (RR.row (hkA h3).2.2 htx) (getD_m1 (n := k) (by omega))) w hw) ⟨_, rfl⟩)) rfl<|LL.lg rfl rfl (GD.nf _ _) (fun hg => LO.ne (.g hg rfl) (.g hg rfl)) rfl<|LL.lg rfl rfl (GD.nt _ _) (fun hg => LO.pkO (.g hg rfl) (.r rfl) rfl (and_e hg)) rfl<|LL.lg rfl rfl (GD.f _) (fun hg => LO.pkA (.g hg rfl) rfl (and_e hg) (.r rfl)) rfl<|LL.l (LO.pkO (.r rfl) (.r rfl) rfl rfl) rfl<|LL.nil) (by kernel_rfl) ?_
                refine VE.seqN ?_
                refine VC.cond rfl (fun h154 => ?_) (fun h154 => ?_)
                ·
                  (exfalso; exact nest_end htr0 htx hap.1 hpm (by omega) hlk hbf h154)
                ·
                  refine VC.skip (VE.inN (VE.seqN ?_))
                  refine VC.reg (VO.l (LO.add (.r rfl) (.r rfl) (wi (by omega) (by omega))) rfl<|VO.l (LO.mv (.r rfl)) rfl<|VO.nil ?_)
                  refine VE.thenN fun a w ha hw => ⟨m + 1, (by omega), (by omega), ha.sub (.cons rfl (.cons rfl (.cons rfl (.cons rfl (.cons rfl (.cons rfl (.cons rfl (.cons rfl (.cons rfl (.cons rfl (.cons rfl (.cons rfl (.cons rfl (.cons rfl (.cons rfl .nil))))))))))))))), hw⟩
              ·
                refine VC.exit (VE.thenX (VE.thenX (VE.inX (VE.inN (VE.seqN ?_)))))
                refine VC.reg (VO.l (LO.add (.r rfl) (.r rfl) (wi (by omega) (by omega))) rfl<|VO.l (LO.mv (.r rfl)) rfl<|VO.nil ?_)
                refine VE.thenN fun a w ha hw => ⟨k + 1, (by omega), (by omega), ha.sub (.cons rfl (.cons rfl (.cons rfl (.cons rfl (.cons rfl (.cons rfl (.cons rfl (.cons rfl (.cons rfl (.cons rfl (.cons rfl .nil))))))))))), hw.sel [1] rfl⟩
            ·
              refine VC.exit (VE.thenX (VE.thenX (VE.inX (VE.seqN ?_))))
              refine VC.reg (VO.l (LO.mv (.r rfl)) rfl<|VO.l (LO.as (.r rfl)) rfl<|VO.nil ?_)
              refine VE.inN (VE.seqN ?_)
              refine VC.reg (VO.l (LO.add (.r rfl) (.r rfl) (wi (by omega) (by omega))) rfl<|VO.l (LO.mv (.r rfl)) rfl<|VO.nil ?_)
              refine VE.thenN fun a w ha hw => ⟨(i + 1, z.l, z.p, z.c), ⟨by dsimp only; omega, BfOk.next hz⟩, (by dsimp only; omega), ha.sub (.cons rfl (.cons rfl (.cons rfl (.cons rfl (.cons rfl (.cons rfl .nil)))))), (by exact selK (L1 := [_]) [0] rfl rfl _ (St.fz hst2 hw))⟩
        ·
          refine VC.exit (VE.thenX (VE.thenX (VE.inX (VE.seqN ?_))))
          refine VC.seq ?_
          refine VC.reg (VO.l (LO.call (xs := []) (vs := []) C16 trivial (fun w2 _ => works_c w2)) rfl<|VO.l (LO.as (.r rfl)) rfl<|VO.nil ?_)
          refine VE.seqN ?_
          refine VC.ret (VE.res (vs := [_]) rfl ⟨rfl, trivial⟩ (fun w hw => ?_))
          exact ⟨rfl, St.based hst1 hw⟩

end Go.Proofs.Ytgemekpofpoopaa

namespace Go.Proofs.Ytgemekpofpoopaa
open Go.SL Go.Proofs Go.Cast Go.Cell
set_option linter.unusedVariables false


theorem K5 : Try.prog.cellsOf 5 = 1 := by kernel_rfl
theorem kb_u8 {n : Int} (h : kb .u8 n) : 0 ≤ n ∧ n ≤ 255 := by simpa [kb, IntKind.min, IntKind.max, IntKind.signed, IntKind.bits] using h
section
variable {H : Type} {enc : TypeId × Value → H} {W : World}
theorem rd5 : RD enc Try.prog W 5 fun cs => ∃ n : Nat, cs = uC n ∧ n ≤ 255 := fun n cs x hx => by
  obtain ⟨m, rfl, hm⟩ := RD.int Try.underlying5 _ _ _ hx
  have := kb_u8 hm
  refine ⟨m.toNat, ?_, by omega⟩
  show _ = [Value.int .u8 ((m.toNat : Nat) : Int)]
  rw [Int.toNat_of_nonneg this.1]
theorem rd61 : RD enc Try.prog W 61 fun cs => ∃ (p : Option Addr) (cap : Nat) (l : List Nat), cs = [.slice p l.length cap] ∧ RO 1 uC W p l ∧ (∀ n, n ∈ l → n ≤ 255) ∧ l.length ≤ 9223372036854775807 := fun n cs x hx => by
  obtain ⟨p, cap, rows, rfl, h1, h2, h3⟩ := RD.slice Try.underlying61 K5 (by decide) rd5 _ _ _ hx
  obtain ⟨l, rfl, h5⟩ := rows_map (f := uC) (Q := fun n => n ≤ 255) (fun r hr => (h3 r hr).2)
  exact ⟨p, cap, l, by simp, h2, h5, by simpa using h1⟩
theorem rd63 : RD enc Try.prog W 63 fun cs => ∃ x : MapA, cs = x.cells ∧ MapI W x ∧ MapK x := fun n cs x hx => by
  obtain ⟨css, rfl, hlen,_, hp⟩ := trod_parts Try.underlying63 (zs := [1,1,1,1]) (by kernel_rfl) rfl (by kernel_rfl) hx
  match css, hlen with
  | [c0, c1, c2, c3],_ =>
    obtain ⟨_,_, h0⟩ := hp 0 _ c0 rfl rfl
    obtain ⟨_,_, h1⟩ := hp 1 _ c1 rfl rfl
    obtain ⟨_,_, h2⟩ := hp 2 _ c2 rfl rfl
    obtain ⟨_,_, h3⟩ := hp 3 _ c3 rfl rfl
    obtain ⟨a, rfl, ha⟩ := rd5 _ _ _ h0
    obtain ⟨b, rfl, hb⟩ := rd5 _ _ _ h1
    obtain ⟨p, c, l, rfl, h4, h5, h6⟩ := rd61 _ _ _ h2
    obtain ⟨q, d, m, rfl, h7, h8, h9⟩ := rd61 _ _ _ h3
    exact ⟨⟨a, b, p, c, l, q, d, m⟩, rfl, ⟨h4, h7⟩, ⟨ha, hb, h5, h8, h6, h9⟩⟩
end

end Go.Proofs.Ytgemekpofpoopaa
