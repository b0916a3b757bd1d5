/-
  The chapter's examples hold.
  CellNil, walked.
  Hulls of moves.
  Maps of the statements.
  Colors.
  Fields within others.
  Members.
  CellOpen, walked.
  Owners.
  Parts of the truth, sums, kernels: plain.
  Narrower maps: plain.
  CellTruth, walked.
  Fields that moved, fields around, events that hold two areas.
  CellHulls, walked.
  What moves together: plain.
-/
import Derived.Test.YtgemekpofpoopaaKDRI06

set_option linter.unusedSimpArgs false
namespace Go.Proofs.Ytgemekpofpoopaa
open Go.SL Go.Proofs Go.Cast Go.Cell
set_option linter.unusedVariables false

theorem C56 : IsFn Try.prog 56 := ⟨_, Try.func56, by decide, rfl⟩
theorem C17 : IsFn Try.prog 17 := ⟨_, Try.func17, by decide, rfl⟩
theorem C26 : IsFn Try.prog 26 := ⟨_, Try.func26, by decide, rfl⟩
theorem EA71 : FlatA Try.prog 71 2 := ⟨⟨_, Try.underlying71, rfl⟩, by kernel_rfl, by kernel_rfl⟩
theorem C20 : IsFn Try.prog 20 := ⟨_, Try.func20, by decide, rfl⟩
theorem C22 : IsFn Try.prog 22 := ⟨_, Try.func22, by decide, rfl⟩
theorem C24 : IsFn Try.prog 24 := ⟨_, Try.func24, by decide, rfl⟩
theorem C27 : IsFn Try.prog 27 := ⟨_, Try.func27, by decide, rfl⟩
theorem C30 : IsFn Try.prog 30 := ⟨_, Try.func30, by decide, rfl⟩
theorem EA85 : FlatA Try.prog 85 2 := ⟨⟨_, Try.underlying85, rfl⟩, by kernel_rfl, by kernel_rfl⟩
theorem C47 : IsFn Try.prog 47 := ⟨_, Try.func47, by decide, rfl⟩
theorem C48 : IsFn Try.prog 48 := ⟨_, Try.func48, by decide, rfl⟩
theorem C49 : IsFn Try.prog 49 := ⟨_, Try.func49, by decide, rfl⟩
theorem F109_0 : FieldAt Try.prog 109 0 0 := ⟨_,_, Try.underlying109, rfl, rfl, 0, by kernel_rfl⟩
theorem C50 : IsFn Try.prog 50 := ⟨_, Try.func50, by decide, rfl⟩
theorem EA105 : FlatA Try.prog 105 9 := ⟨⟨_, Try.underlying105, rfl⟩, by kernel_rfl, by kernel_rfl⟩


theorem rowF_c (b : Nat) (w : World) (h : Ints w (some ⟨b, 0, none⟩) [5,5,2,5,5,5,0,1]) : Calls Try.prog (56) #[.slice (some ⟨b, 0, none⟩) 8 8] w fun e w' => ∃ y : SlY, True ∧ e = .returned (fieldV xG y.p xF.length y.c) ∧ St (bs w) [own 71 2 y.p y.c (xF.map Span.cells)] w' := row_c [5,5,2,5,5,5,0,1] _ 8 w h (by decide)
theorem rowH_c (b : Nat) (w : World) (h : Ints w (some ⟨b, 0, none⟩) [0,1,5,5,2,5,5,5]) : Calls Try.prog (56) #[.slice (some ⟨b, 0, none⟩) 8 8] w fun e w' => ∃ y : SlY, True ∧ e = .returned (fieldV xG y.p xH.length y.c) ∧ St (bs w) [own 71 2 y.p y.c (xH.map Span.cells)] w' := row_c [0,1,5,5,2,5,5,5] _ 8 w h (by decide)
theorem xJoin2_c (p : Option Addr) (c : Nat) (w : World) (hv : Spans w p xF) : Calls Try.prog (20) #[fieldV xG p xF.length c, .int .i64 5, .int .i64 0, .int .i64 2] w fun e w' => e = .returned (.tuple #[.int .i64 3, .int .i64 0]) ∧ St (bs w) [] w' := by
  have z := Joined_ok xG xF p c 5 0 2 w hv xP2
  rw [xJ2] at z; exact z
theorem xJoin3_c (p : Option Addr) (c : Nat) (w : World) (hv : Spans w p xF) : Calls Try.prog (20) #[fieldV xG p xF.length c, .int .i64 5, .int .i64 0, .int .i64 3] w fun e w' => e = .returned (.tuple #[.int .i64 2, .int .i64 0]) ∧ St (bs w) [] w' := by
  have z := Joined_ok xG xF p c 5 0 3 w hv xP3
  rw [xJ3] at z; exact z
theorem xGap2_c (p : Option Addr) (c : Nat) (w : World) (hv : Spans w p xF) : Calls Try.prog (22) #[fieldV xG p xF.length c, .int .i64 5, .int .i64 0, .int .i64 2] w fun e w' => e = .returned (.tuple #[.int .i64 1, .int .i64 0]) ∧ St (bs w) [] w' :=
  (Gap_ok xG xF p c 5 0 2 w hv xP2).mono fun e w' ⟨z, h1, h2, h3⟩ => ⟨by rw [h2, xGap2 h1], h3⟩
theorem xGap3_c (p : Option Addr) (c : Nat) (w : World) (hv : Spans w p xF) : Calls Try.prog (22) #[fieldV xG p xF.length c, .int .i64 5, .int .i64 0, .int .i64 3] w fun e w' => e = .returned (.tuple #[.int .i64 (-1), .int .i64 0]) ∧ St (bs w) [] w' :=
  (Gap_ok xG xF p c 5 0 3 w hv xP3).mono fun e w' ⟨z, h1, h2, h3⟩ => ⟨by rw [h2, xGap3 h1], h3⟩
structure XtY where
  p : Option Addr
  c : Nat
  p1 : Option Addr
  c1 : Nat
  p2 : Option Addr
  c2 : Nat
theorem xTree_c (p : Option Addr) (c b : Nat) (w : World) (hv : Spans w p xF) (hl : Ints w (some ⟨b, 0, none⟩) [1,5]) : Calls Try.prog (24) #[fieldV xG p xF.length c, .slice (some ⟨b, 0, none⟩) 2 2] w fun e w' => ∃ y : XtY, True ∧ e = .returned (.tuple #[.slice y.p 2 y.c, .int .i64 0]) ∧ St (bs w) [own 40 1 y.p y.c (([⟨y.p1, y.c1, [-1]⟩, ⟨y.p2, y.c2, [0]⟩] : List (RowA Int)).map rowC), bagR 3 1 iC [⟨y.p1, y.c1, [-1]⟩, ⟨y.p2, y.c2, [0]⟩]] w' :=
  (Tree_ok xG xF p c [1,5] _ 2 w hv hl xTreeE).mono fun e w' ⟨y, h1, h2, h3⟩ => by
    rw [xTree] at h1
    obtain ⟨p1, c1, p2, c2, e1⟩ := row_list2 h1
    rw [e1] at h2 h3
    exact ⟨⟨y.p, y.c, p1, c1, p2, c2⟩, trivial, h2, h3⟩
structure XeY where
  p : Option Addr
  c : Nat
  fp : Option Addr
  fc : Nat
  tp : Option Addr
  tc : Nat
def XeY.e (y : XeY) : EvR := ⟨4, y.fp, y.fc, [0], y.tp, y.tc, [0]⟩
theorem ev_list {l : List EvR} {e : EvM} (h : l.map EvR.m = [e]) : ∃ fp fc tp tc, l = [⟨e.kd, fp, fc, e.f, tp, tc, e.t⟩] := by
  rcases l with _ | ⟨a,_ | ⟨b, r⟩⟩
  · cases h
  · obtain ⟨kd, fp, fc, f, tp, tc, t⟩ := a
    have h := (List.cons.inj h).1
    subst h; exact ⟨fp, fc, tp, tc, rfl⟩
  · cases (List.cons.inj h).2
theorem xMatch_c (p : Option Addr) (c : Nat) (q : Option Addr) (d : Nat) (w : World) (hv : Spans w p xF) (hu : Spans w q xH) : Calls Try.prog (27) #[fieldV xG p xF.length c, fieldV xG q xH.length d, .int .i64 5, .int .i64 1] w fun e w' => ∃ y : XeY, True ∧ e = .returned (.tuple #[.slice y.p 1 y.c, .int .i64 0]) ∧ St (bs w) [own 81 3 y.p y.c ([y.e].map EvR.cells), bagD ([y.e].map EvR.fR), bagD ([y.e].map EvR.tR)] w' :=
  (Match_ok xG xF p c xG xH q d 5 1 w hv hu xPair).mono fun e w' ⟨y, h1, h2, h3⟩ => by
    rw [xNf, xNh] at h1
    obtain ⟨fp, fc, tp, tc, e1⟩ := ev_list (xEv h1)
    obtain ⟨l, yp, yc⟩ := y
    subst e1
    exact ⟨⟨yp, yc, fp, fc, tp, tc⟩, trivial, h2, h3⟩
def xMv : List Mv := [⟨-1, -1⟩, ⟨0, -1⟩, ⟨1, -1⟩, ⟨-1,0⟩, ⟨1,0⟩, ⟨-1,1⟩, ⟨0,1⟩, ⟨1,1⟩]
theorem xMoves_c (p : Option Addr) (c : Nat) (q : Option Addr) (d : Nat) (w : World) (hv : Spans w p xF) (hu : Spans w q xH) : Calls Try.prog (30) #[fieldV xG p xF.length c, fieldV xG q xH.length d, .int .i64 5, .int .i64 1, .int .i64 0, .int .i64 0] w fun e w' => ∃ y : SlY, True ∧ e = .returned (.tuple #[.slice y.p 8 y.c, .int .i64 0]) ∧ St (bs w) [own 85 2 y.p y.c (xMv.map Mv.cells)] w' :=
  (Moves_ok xG xF p c xG xH q d 5 0 0 1 w hv hu xMoveE).mono fun e w' ⟨y, h1, h2, h3⟩ => by
    rw [xMoves] at h2 h3
    exact ⟨y, trivial, h2, h3⟩
structure XaY where
  p : Option Addr
  c : Nat
  pp : Option Addr
  pc : Nat
  kp : Option Addr
  kc : Nat
  p1 : Option Addr
  c1 : Nat
  p2 : Option Addr
  c2 : Nat
def XaY.a (y : XaY) : AreaR := ⟨⟨y.pp, y.pc, [0,1,2]⟩, y.kp, y.kc, [⟨y.p1, y.c1, [0]⟩, ⟨y.p2, y.c2, [2]⟩], ⟨0,2,0,0,10,15⟩⟩
structure XaI (w : World) (y : XaY) : Prop where
  ar : RO 8 AreaR.cells w y.p [y.a]
  px : Ints w y.pp [0,1,2]
  kr : RR 1 iC w y.kp [⟨y.p1, y.c1, [0]⟩, ⟨y.p2, y.c2, [2]⟩]
theorem rr_nat {w : World} {p : Option Addr} {rs : List (RowA Nat)} (h : RR 1 nC w p rs) : RR 1 iC w p (rs.map fun r => (⟨r.p, r.c, r.l.map fun n : Nat => (n : Int)⟩ : RowA Int)) := by
  refine ⟨?_, fun x hx => ?_⟩
  · have h1 := h.1
    unfold RO at h1 ⊢
    rw [List.map_map]
    have e : (rowC ∘ fun r : RowA Nat => (⟨r.p, r.c, r.l.map fun n : Nat => (n : Int)⟩ : RowA Int)) = rowC := by
      funext r; show [Value.slice r.p (r.l.map _).length r.c] = _; rw [List.length_map]; rfl
    rw [e]; exact h1
  · obtain ⟨r, hr, rfl⟩ := List.mem_map.1 hx
    have := h.2 r hr
    exact ⟨by show (r.l.map _).length ≤ r.c; rw [List.length_map]; exact this.1, ints_nat this.2⟩
structure XaF (y : ArY) (z : XaY) : Prop where
  ar : ArP (gW xG) (gH xG) xF 5 y
  l : y.l = [z.a]
  p : y.p = z.p
theorem xAreas_c (p : Option Addr) (c : Nat) (w : World) (hv : Spans w p xF) : Calls Try.prog (17) #[fieldV xG p xF.length c, .int .i64 5] w fun e w' => ∃ y : ArY × XaY, XaF y.1 y.2 ∧ e = .returned (.tuple #[.slice y.2.p 1 y.2.c, .int .i64 0]) ∧ St (bs w) (y.1.R (ofL (gW xG) (gH xG) (mayB xF 5))) w' :=
  (Areas_ok xG xF p c 5 w hv xF_open).mono fun e w' ⟨y, h1, h2, h3⟩ => by
    obtain ⟨pp, pc, kp, kc, p1, c1, p2, c2, hl⟩ := exAr h1 xAreas
    rw [hl] at h2
    exact ⟨⟨y, ⟨y.p, y.c, pp, pc, kp, kc, p1, c1, p2, c2⟩⟩, ⟨h1, hl, rfl⟩, h2, h3⟩
theorem XaI.of {y : ArY} {z : XaY} {β : Bs} {L : List Res} {w : World} (h : XaF y z) (hw : St β (y.R (ofL (gW xG) (gH xG) (mayB xF 5)) ++ L) w) : XaI w z := by
  have hS := SpI.of_res hw h.ar 0 1 3 7 rfl rfl rfl rfl
  have hR : RR 1 nC w y.pr y.rs := RR.of_own hw 5 6 rfl rfl
  have hl := h.l
  refine ⟨?_, ?_, ?_⟩
  · have := hS.ar; rw [hl, h.p] at this; exact this
  · exact ints_nat (hR.2 z.a.px (by rw [← h.ar.px, hl]; exact List.mem_singleton.2 rfl)).2
  · exact rr_nat (hS.kr z.a (by rw [hl]; exact List.mem_singleton.2 rfl))
theorem XaI.keep {w0 : World} {y : XaY} (h : XaI w0 y) : ∀ {L : List Res} (w : World), St (bs w0) L w → XaI w y := fun w hw => ⟨h.ar.keep w hw, h.px.keep w hw, h.kr.keep w hw⟩
theorem rr_lit2 {w : World} {b1 b2 b3 : Nat} {x y : Int} (h1 : Ints w (some ⟨b1,0, none⟩) [x]) (h2 : Ints w (some ⟨b2,0, none⟩) [y]) (h3 : Cells w ⟨b3,0, none⟩ [.slice (some ⟨b1,0, none⟩) 1 1, .slice (some ⟨b2,0, none⟩) 1 1]) : RR 1 iC w (some ⟨b3,0, none⟩) [⟨some ⟨b1,0, none⟩, 1, [x]⟩, ⟨some ⟨b2,0, none⟩, 1, [y]⟩] := by
  refine ⟨RO.ofC (fun _ => rfl) h3, fun r hr => ?_⟩
  rcases List.mem_cons.1 hr with rfl | hr
  · exact ⟨Nat.le_refl _, h1⟩
  · have hr := List.mem_singleton.1 hr; subst hr; exact ⟨Nat.le_refl _, h2⟩
theorem two_rows {a b : RowA Int} (ha : a.l.length = 1) (hb : b.l.length = 1) : ∀ x, x ∈ [a, b] → x.l.length ≤ 1000000 := fun x hx => by
  rcases List.mem_cons.1 hx with rfl | hx
  · omega
  · have hx := List.mem_singleton.1 hx; subst hx; omega
abbrev xBk (bm : Nat) : BkH := ⟨xG, 5,1, bm⟩
theorem xBook : bookE xG 5 1 = 0 := by kernel_rfl
theorem xAdd0 (bm : Nat) : addE (xBk bm) (-1) 0 10 xG xF = 0 := rfl
theorem xAdd1 (bm : Nat) : addE (xBk bm) 10 1 20 xG xH = 0 := rfl
theorem xLate (bm n : Nat) : addE (xBk bm) 20 n 20 xG xH = 17 := rfl
theorem xLate_c (b bm : Nat) (q : BkQ) (pt : Option Addr) (nt ct : Nat) (kd : Nat → Int) (p : Option Addr) (c : Nat) (w : World) (hb : Cells w ⟨b, 0, none⟩ (bkC (xBk bm) 20 q pt nt ct kd)) (hv : Spans w p xH) : Calls Try.prog (48) #[.pointer (some ⟨b, 0, none⟩), .int .i64 20, fieldV xG p xH.length c] w fun e w' => e = .returned (.tuple #[.slice none 0 0, .int .i64 17]) ∧ St (bs w) [] w' := by
  have z := Add_e b (xBk bm) 20 q pt nt ct kd 20 xG xH p c w hb hv (by rw [xLate]; decide)
  rw [xLate] at z; exact z
structure XkY where
  p : Option Addr
  c : Nat
  ap : Option Addr
  ac : Nat
  pp : Option Addr
  pc : Nat
  cp : Option Addr
  cc : Nat
def XkY.t (y : XkY) : TkR := ⟨1,0, y.ap, y.ac, [0,0], 0, y.pp, y.pc, [], y.cp, y.cc, []⟩
theorem xk_list {tk : List TkR} (h : tk.map TkR.m = [⟨1,0, [0,0], 0, [], []⟩]) : ∃ ap ac pp pc cp cc, tk = [⟨1,0, ap, ac, [0,0], 0, pp, pc, [], cp, cc, []⟩] := by
  obtain ⟨t, rfl, hm⟩ := tk_list h
  obtain ⟨bg, fr, ap, ac, ar, en, pp, pc, pa, cp, cc, ch⟩ := t
  cases hm
  exact ⟨ap, ac, pp, pc, cp, cc, rfl⟩
theorem xTracks_c (b : Nat) (h : BkH) (la : Int) (q : BkQ) (pt : Option Addr) (ct : Nat) (kd : Nat → Int) (tk : List TkR) (w : World) (hb : Cells w ⟨b, 0, none⟩ (bkC h la q pt tk.length ct kd)) (htk : RO 6 TkR.cells w pt tk) (hti : ∀ t, t ∈ tk → TkI w t) (hm : tk.map TkR.m = [⟨1,0, [0,0], 0, [], []⟩]) : Calls Try.prog (49) #[.pointer (some ⟨b, 0, none⟩)] w fun e w' => ∃ y : XkY, True ∧ e = .returned (.slice y.p 1 y.c) ∧ St (bs w) [own 109 6 y.p y.c ([y.t].map TkR.cells), bagD ([y.t].map TkR.aR), bagD ([y.t].map TkR.pR), bagD ([y.t].map TkR.cR)] w' :=
  (Tracks_ok b h la q pt ct kd tk w hb htk hti (fun t ht => by
    obtain ⟨_,_,_,_,_,_, rfl⟩ := xk_list hm
    have := List.mem_singleton.1 ht; subst this
    exact ⟨(show 2 ≤ 1000000000 by decide), (show 0 ≤ 1000000000 by decide), (show 0 ≤ 1000000000 by decide)⟩) (by obtain ⟨_,_,_,_,_,_, rfl⟩ := xk_list hm; exact (show 1 ≤ 1000000 by decide))).mono fun e w' ⟨y, h1, h2, h3⟩ => by
    rw [hm] at h1
    obtain ⟨l, yp, yc⟩ := y
    obtain ⟨ap, ac, pp, pc, cp, cc, rfl⟩ := xk_list h1
    exact ⟨⟨yp, yc, ap, ac, pp, pc, cp, cc⟩, trivial, h2, h3⟩
theorem xTally_c (b bm : Nat) (la : Int) (pm : Option Addr) (cm : Nat) (ys : List ArY) (pt : Option Addr) (ct : Nat) (kd : Nat → Int) (tk : List TkR) (of : Nat × Nat → Option Nat) (w : World) (hb : Cells w ⟨b, 0, none⟩ (bkC (xBk bm) la ⟨pm, ys.length, cm⟩ pt tk.length ct kd)) (ho : (mapR plV niV bm (ofI of)).inv w) (hys : ys.length = 2) (hm : tk.map TkR.m = [⟨1,0, [0,0], 0, [], []⟩]) (hk : ∀ a, a ∈ [((0 : Int), (0 : Int)), (1,0)] ↔ (ofI of a).isSome = true) (hkd : kd = kdF (fun _ => 0) [⟨4, [0], [0]⟩]) :
    Calls Try.prog (50) #[.pointer (some ⟨b, 0, none⟩)] w fun e w' => e = .returned (.agg #[.int .i64 2, .int .i64 2, .int .i64 1, .int .i64 0, .int .i64 0, .int .i64 1, .int .i64 0, .int .i64 0, .int .i64 0]) ∧ St (bs w) [] w' := by
  have z := Tally_ok b (xBk bm) la ⟨pm, ys.length, cm⟩ pt ct kd tk w hb of ho [((0 : Int), (0 : Int)), (1,0)] (by decide) hk
  obtain ⟨_,_,_,_,_,_, rfl⟩ := xk_list hm
  subst hkd
  rw [hys] at z
  exact z

set_option maxRecDepth 20000 in
set_option maxHeartbeats 16000000 in
theorem works_c (w : World) :
  Calls Try.prog 16 #[] w fun e w' => e = .returned (.bool true) ∧ St (bs w) [] w' := by
  refine enter (vs := []) (env := []) Try.func16 rfl rfl rfl rfl ?_
  refine VC.seq ?_
  refine VC.reg (VO.l (LO.as (.r rfl)) rfl<|VO.nil ?_)
  refine VE.seqN ?_
  refine VC.seq ?_
  refine VC.reg (VO.h rfl<|HO.bs (ps := [(_,_), (_,_), (_,_), (_,_), (_,_), (_,_), (_,_), (_,_)]) (vs := [(_,_), (_,_), (_,_), (_,_), (_,_), (_,_), (_,_), (_,_)]) (Z := [_,_,_,_,_,_,_,_]) (C := [_,_,_,_,_,_,_,_]) S40 Z3 N3 ⟨(.r rfl), (.r rfl), (.r rfl), (.r rfl), (.r rfl), (.r rfl), (.r rfl), (.r rfl), trivial⟩ rfl rfl rfl rfl ⟨_, [_], [_,_,_,_,_,_,_,_], rfl, rfl, rfl, rfl, ⟨_, [_], [_,_,_,_,_,_,_,_], rfl, rfl, rfl, rfl, ⟨_, [_], [_,_,_,_,_,_,_,_], rfl, rfl, rfl, rfl, ⟨_, [_], [_,_,_,_,_,_,_,_], rfl, rfl, rfl, rfl, ⟨_, [_], [_,_,_,_,_,_,_,_], rfl, rfl, rfl, rfl, ⟨_, [_], [_,_,_,_,_,_,_,_], rfl, rfl, rfl, rfl, ⟨_, [_], [_,_,_,_,_,_,_,_], rfl, rfl, rfl, rfl, ⟨_, [_], [_,_,_,_,_,_,_,_], rfl, rfl, rfl, rfl, rfl⟩⟩⟩⟩⟩⟩⟩⟩ fun b1 => VO.h rfl<|HO.callx (xs := [_]) (vs := [_]) C56 ⟨(.r rfl), trivial⟩ (fun w2 hw => rowF_c b1 w2 (ints_lit _ (cells_inv (hw.inv 0 _ rfl)))) fun f1 _ => VO.h rfl<|HO.bs (ps := [(_,_), (_,_), (_,_), (_,_), (_,_), (_,_), (_,_), (_,_)]) (vs := [(_,_), (_,_), (_,_), (_,_), (_,_), (_,_), (_,_), (_,_)]) (Z := [_,_,_,_,_,_,_,_]) (C := [_,_,_,_,_,_,_,_]) S40 Z3 N3 ⟨(.r rfl), (.r rfl), (.r rfl), (.r rfl), (.r rfl), (.r rfl), (.r rfl), (.r rfl), trivial⟩ rfl rfl rfl rfl ⟨_, [_], [_,_,_,_,_,_,_,_], rfl, rfl, rfl, rfl, ⟨_, [_], [_,_,_,_,_,_,_,_], rfl, rfl, rfl, rfl, ⟨_, [_], [_,_,_,_,_,_,_,_], rfl, rfl, rfl, rfl, ⟨_, [_], [_,_,_,_,_,_,_,_], rfl, rfl, rfl, rfl, ⟨_, [_], [_,_,_,_,_,_,_,_], rfl, rfl, rfl, rfl, ⟨_, [_], [_,_,_,_,_,_,_,_], rfl, rfl, rfl, rfl, ⟨_, [_], [_,_,_,_,_,_,_,_], rfl, rfl, rfl, rfl, ⟨_, [_], [_,_,_,_,_,_,_,_], rfl, rfl, rfl, rfl, rfl⟩⟩⟩⟩⟩⟩⟩⟩ fun b3 => VO.h rfl<|HO.callx (xs := [_]) (vs := [_]) C56 ⟨(.r rfl), trivial⟩ (fun w2 hw => rowH_c b3 w2 (ints_lit _ (cells_inv (hw.inv 0 _ rfl)))) fun f2 _ => VO.h rfl<|HO.alloc (C := #[_,_,_,_,_,_]) Z26 rfl fun b5 => VO.h rfl<|HO.alloc (C := #[_,_,_,_,_,_]) Z26 rfl fun b6 => VO.h0<|HO.st 1 (vs := [_,_,_,_,_,_]) (C' := [_,_,_,_,_,_]) (L' := [_,_,_,_,_,_]) N26 rfl rfl rfl rfl rfl rfl rfl rfl<|VO.h0<|HO.st 0 (vs := [_,_,_,_,_,_]) (C' := [_,_,_,_,_,_]) (L' := [_,_,_,_,_,_]) N26 rfl rfl rfl rfl rfl rfl rfl rfl<|VO.nil ?_)
  refine VE.seqN ?_
  refine VC.seq ?_
  refine VC.rebase fun w1 hst1 => ?_
  have hf1 : Cells w1 ⟨b5,0, none⟩ [.int .i64 xG.x, .int .i64 xG.y, .int .i64 xG.size, .int .i64 xG.wide, .int .i64 xG.high, .slice f1.p xF.length f1.c] := cells_inv (hst1.inv 1 _ rfl)
  have hsF : Spans w1 f1.p xF := RO.of_own hst1 4 rfl
  have hf2 : Cells w1 ⟨b6,0, none⟩ [.int .i64 xG.x, .int .i64 xG.y, .int .i64 xG.size, .int .i64 xG.wide, .int .i64 xG.high, .slice f2.p xH.length f2.c] := cells_inv (hst1.inv 0 _ rfl)
  have hsH : Spans w1 f2.p xH := RO.of_own hst1 2 rfl
  refine VC.reg (VO.l (LO.lda (vs := [_,_,_,_,_,_]) A26 (.r rfl) (cells_keep (sub_cells (off := 0) hf1 ⟨_, rfl⟩)) rfl) rfl<|VO.h rfl<|HO.callx (xs := [_,_]) (vs := [_,_]) C17 ⟨(.r rfl), (.r rfl), trivial⟩ (fun w2 hw => xAreas_c f1.p f1.c w2 (hsF.keep w2 hw)) fun yaa hyaf => VO.h rfl<|HO.lo (LO.mv (.r rfl))<|VO.h rfl<|HO.lo (LO.ex (.r rfl) rfl)<|VO.h rfl<|HO.lo (LO.ex (.r rfl) rfl)<|VO.h rfl<|HO.lo (LO.as (.r rfl))<|VO.h rfl<|HO.lo (LO.as (.r rfl))<|VO.nil ?_)
  refine VE.seqN ?_
  refine VC.seq ?_
  refine VC.seq ?_
  obtain ⟨yy, ya⟩ := yaa
  dsimp only at hyaf
  refine VC.rebase fun w2 hst2 => ?_
  have hya0 : XaI w2 ya := XaI.of (L := []) hyaf (selK [0,1,2,3,4,5,6,7] rfl rfl _ hst2)
  have hya : ∀ {L : List Res} (w : World), St (bs w2) L w → XaI w ya := fun w hw => hya0.keep w hw
  have hf1 := cells_keep hf1 _ hst2
  have hf2 := cells_keep hf2 _ hst2
  have hsF := hsF.keep _ hst2
  have hsH := hsH.keep _ hst2
  refine VC.reg (VO.l (LO.mv (.r rfl)) rfl<|VO.l (LO.ne (.r rfl) (.r rfl)) rfl<|VO.l (LO.mv (.r rfl)) rfl<|VO.lg rfl rfl (GD.f _) (fun hg => LO.mv (.r rfl)) rfl<|VO.lg rfl rfl (GD.f _) (fun hg => LO.len S29 (.g hg rfl) rfl) rfl<|VO.lg rfl rfl (GD.f _) (fun hg => LO.ne (.g hg rfl) (.r rfl)) rfl<|VO.l (LO.pkO (.r rfl) (.r rfl) rfl rfl) rfl<|VO.l (LO.mv (.r rfl)) rfl<|VO.lg rfl rfl (GD.f _) (fun hg => LO.mv (.r rfl)) rfl<|VO.lg rfl rfl (GD.f _) (fun hg => LO.ixs S29 N73 hya0.ar.sm (.g hg rfl) (.r rfl) (j := 0) rfl Nat.zero_lt_one) rfl<|VO.lg rfl rfl (GD.f _) (fun hg => LO.fa F73_0 (.g hg rfl) rfl) rfl<|VO.lg rfl rfl (GD.f _) (fun hg => LO.ld O40 (.g hg rfl) (fun w hw => cells_part (off := 0) ((fun w3 h3 => RO.cel (hya w3 h3).ar (show [ya.a][0]? = some ya.a from rfl)) w hw) ⟨_, rfl⟩)) rfl<|VO.bc (x := 33) rfl (fun hg3_7 => (by exfalso; exact absurd hg3_7 (by decide))) (fun hg3_7 => VO.gT rfl rfl (congrArg Value.bool hg3_7) rfl<|HO.bs (ps := [(_,_), (_,_), (_,_)]) (vs := [(_,_), (_,_), (_,_)]) (Z := [_,_,_]) (C := [_,_,_]) S40 Z3 N3 ⟨(.r rfl), (.r rfl), (.r rfl), trivial⟩ rfl rfl rfl rfl ⟨_, [_], [_,_,_], rfl, rfl, rfl, rfl, ⟨_, [_], [_,_,_], rfl, rfl, rfl, rfl, ⟨_, [_], [_,_,_], rfl, rfl, rfl, rfl, rfl⟩⟩⟩ fun b17 => VO.gT rfl rfl (congrArg Value.bool hg3_7) rfl<|HO.lo (LO.call (xs := [_,_]) (vs := [_,_]) C40 ⟨(.g (by rw [hg3_7]; rfl) rfl), (.r rfl), trivial⟩ (fun w2 hw => numbers_c [0,1,2] [0,1,2] ya.pp ya.pc (some ⟨b17,0, none⟩) 3 w2 (hya w2 hw).px (ints_lit [0,1,2] (cells_inv (hw.inv 0 _ rfl))) (by decide)))<|VO.gT rfl rfl (congrArg Value.bool hg3_7) rfl<|HO.lo (LO.not (.r rfl))<|VO.h rfl<|HO.lo (LO.pkF (.r rfl) hg3_7 (.r rfl))<|VO.h rfl<|HO.lo (LO.mv (.r rfl))<|VO.lg rfl rfl (GD.f _) (fun hg => LO.mv (.r rfl)) rfl<|VO.lg rfl rfl (GD.f _) (fun hg => LO.ixs S29 N73 hya0.ar.sm (.g hg rfl) (.r rfl) (j := 0) rfl Nat.zero_lt_one) rfl<|VO.lg rfl rfl (GD.f _) (fun hg => LO.fa F73_1 (.g hg rfl) rfl) rfl<|VO.lg rfl rfl (GD.f _) (fun hg => LO.ld O41 (.g hg rfl) (fun w hw => cells_part (off := 1) ((fun w3 h3 => RO.cel (hya w3 h3).ar (show [ya.a][0]? = some ya.a from rfl)) w hw) ⟨_, rfl⟩)) rfl<|VO.bc (x := 42) rfl (fun hg3_16 => (by exfalso; exact absurd hg3_16 (by decide))) (fun hg3_16 => VO.gT rfl rfl (congrArg Value.bool hg3_16) rfl<|HO.bs (ps := [(_,_)]) (vs := [(_,_)]) (Z := [_]) (C := [_]) S40 Z3 N3 ⟨(.r rfl), trivial⟩ rfl rfl rfl rfl ⟨_, [_], [_], rfl, rfl, rfl, rfl, rfl⟩ fun b18 => VO.gT rfl rfl (congrArg Value.bool hg3_16) rfl<|HO.bs (ps := [(_,_)]) (vs := [(_,_)]) (Z := [_]) (C := [_]) S40 Z3 N3 ⟨(.r rfl), trivial⟩ rfl rfl rfl rfl ⟨_, [_], [_], rfl, rfl, rfl, rfl, rfl⟩ fun b19 => VO.gT rfl rfl (congrArg Value.bool hg3_16) rfl<|HO.bs (ps := [(_,_), (_,_)]) (vs := [(_,_), (_,_)]) (Z := [_,_]) (C := [_,_]) S41 Z40 N40 ⟨(.r rfl), (.r rfl), trivial⟩ rfl rfl rfl rfl ⟨_, [_], [_,_], rfl, rfl, rfl, rfl, ⟨_, [_], [_,_], rfl, rfl, rfl, rfl, rfl⟩⟩ fun b20 => VO.gT rfl rfl (congrArg Value.bool hg3_16) rfl<|HO.lo (LO.call (xs := [_,_]) (vs := [_,_]) C26 ⟨(.g (by rw [hg3_16]; rfl) rfl), (.r rfl), trivial⟩ (fun w2 hw => lists_c [⟨ya.p1, ya.c1, [0]⟩, ⟨ya.p2, ya.c2, [2]⟩] [⟨some ⟨b18,0, none⟩, 1, [0]⟩, ⟨some ⟨b19,0, none⟩, 1, [2]⟩] ya.kp ya.kc (some ⟨b20,0, none⟩) 2 w2 (hya w2 hw).kr (rr_lit2 (ints_lit [0] (cells_inv (hw.inv 2 _ rfl))) (ints_lit [2] (cells_inv (hw.inv 1 _ rfl))) (cells_inv (hw.inv 0 _ rfl))) (show 2 ≤ 1000000 by decide) (two_rows rfl rfl)))<|VO.gT rfl rfl (congrArg Value.bool hg3_16) rfl<|HO.lo (LO.not (.r rfl))<|VO.h rfl<|HO.lo (LO.pkF (.r rfl) hg3_16 (.r rfl))<|VO.h rfl<|HO.lo (LO.mv (.r rfl))<|VO.lg rfl rfl (GD.f _) (fun hg => LO.mv (.r rfl)) rfl<|VO.lg rfl rfl (GD.f _) (fun hg => LO.ixs S29 N73 hya0.ar.sm (.g hg rfl) (.r rfl) (j := 0) rfl Nat.zero_lt_one) rfl<|VO.lg rfl rfl (GD.f _) (fun hg => LO.fa F73_2 (.g hg rfl) rfl) rfl<|VO.lg rfl rfl (GD.f _) (fun hg => LO.lda (vs := [_,_]) A71 (.g hg rfl) (fun w hw => cells_part (off := 2) ((fun w3 h3 => RO.cel (hya w3 h3).ar (show [ya.a][0]? = some ya.a from rfl)) w hw) ⟨_, rfl⟩) rfl) rfl<|VO.lg rfl rfl (GD.f _) (fun hg => LO.bd (ps := [(_,_), (_,_)]) (vs := [(_,_), (_,_)]) (C := [_,_]) B71  ⟨(.r rfl), (.r rfl), trivial⟩ rfl ⟨_, [_], [_,_], rfl, rfl, rfl, rfl, ⟨_, [_], [_,_], rfl, rfl, rfl, rfl, rfl⟩⟩) rfl<|VO.lg rfl rfl (GD.f _) (fun hg => LO.neA («as» := [_,_]) (bs := [_,_]) EA71 (.g hg rfl) (.g hg rfl) rfl rfl) rfl<|VO.h rfl<|HO.lo (LO.pkO (.r rfl) (.r rfl) rfl rfl)<|VO.h rfl<|HO.lo (LO.mv (.r rfl))<|VO.lg rfl rfl (GD.f _) (fun hg => LO.mv (.r rfl)) rfl<|VO.lg rfl rfl (GD.f _) (fun hg => LO.ixs S29 N73 hya0.ar.sm (.g hg rfl) (.r rfl) (j := 0) rfl Nat.zero_lt_one) rfl<|VO.lg rfl rfl (GD.f _) (fun hg => LO.fa F73_4 (.g hg rfl) rfl) rfl<|VO.lg rfl rfl (GD.f _) (fun hg => LO.lda (vs := [_,_]) A71 (.g hg rfl) (fun w hw => cells_part (off := 6) ((fun w3 h3 => RO.cel (hya w3 h3).ar (show [ya.a][0]? = some ya.a from rfl)) w hw) ⟨_, rfl⟩) rfl) rfl<|VO.lg rfl rfl (GD.f _) (fun hg => LO.bd (ps := [(_,_), (_,_)]) (vs := [(_,_), (_,_)]) (C := [_,_]) B71  ⟨(.r rfl), (.r rfl), trivial⟩ rfl ⟨_, [_], [_,_], rfl, rfl, rfl, rfl, ⟨_, [_], [_,_], rfl, rfl, rfl, rfl, rfl⟩⟩) rfl<|VO.lg rfl rfl (GD.f _) (fun hg => LO.neA («as» := [_,_]) (bs := [_,_]) EA71 (.g hg rfl) (.g hg rfl) rfl rfl) rfl<|VO.h rfl<|HO.lo (LO.pkO (.r rfl) (.r rfl) rfl rfl)<|VO.nil ?_)))
  refine VE.seqN ?_
  refine VC.cond rfl (fun h68 => ?_) (fun h68 => ?_)
  ·
    (exfalso; rcases h68 with (z | z) | z <;> exact z rfl)
  ·
    refine VC.skip (VE.seqN ?_)
    refine VC.seq ?_
    refine VC.perm [] rfl ?_
    show VC _ _ _ _ _ _ [] _ _
    refine VC.reg (VO.l (LO.lda (vs := [_,_,_,_,_,_]) A26 (.r rfl) (cells_keep (sub_cells (off := 0) hf1 ⟨_, rfl⟩)) rfl) rfl<|VO.l (LO.call (xs := [_,_,_,_]) (vs := [_,_,_,_]) C20 ⟨(.r rfl), (.r rfl), (.r rfl), (.r rfl), trivial⟩ (fun w2 hw => xJoin2_c f1.p f1.c w2 (hsF.keep w2 hw))) rfl<|VO.l (LO.mv (.r rfl)) rfl<|VO.l (LO.ex (.r rfl) rfl) rfl<|VO.l (LO.ex (.r rfl) rfl) rfl<|VO.l (LO.as (.r rfl)) rfl<|VO.l (LO.as (.r rfl)) rfl<|VO.nil ?_)
    refine VE.seqN ?_
    refine VC.seq ?_
    refine VC.reg (VO.l (LO.lda (vs := [_,_,_,_,_,_]) A26 (.r rfl) (cells_keep (sub_cells (off := 0) hf1 ⟨_, rfl⟩)) rfl) rfl<|VO.l (LO.call (xs := [_,_,_,_]) (vs := [_,_,_,_]) C20 ⟨(.r rfl), (.r rfl), (.r rfl), (.r rfl), trivial⟩ (fun w2 hw => xJoin3_c f1.p f1.c w2 (hsF.keep w2 hw))) rfl<|VO.l (LO.mv (.r rfl)) rfl<|VO.l (LO.ex (.r rfl) rfl) rfl<|VO.l (LO.ex (.r rfl) rfl) rfl<|VO.l (LO.as (.r rfl)) rfl<|VO.l (LO.as (.r rfl)) rfl<|VO.nil ?_)
    refine VE.seqN ?_
    refine VC.seq ?_
    refine VC.reg (VO.l (LO.lda (vs := [_,_,_,_,_,_]) A26 (.r rfl) (cells_keep (sub_cells (off := 0) hf1 ⟨_, rfl⟩)) rfl) rfl<|VO.l (LO.call (xs := [_,_,_,_]) (vs := [_,_,_,_]) C22 ⟨(.r rfl), (.r rfl), (.r rfl), (.r rfl), trivial⟩ (fun w2 hw => xGap2_c f1.p f1.c w2 (hsF.keep w2 hw))) rfl<|VO.l (LO.mv (.r rfl)) rfl<|VO.l (LO.ex (.r rfl) rfl) rfl<|VO.l (LO.ex (.r rfl) rfl) rfl<|VO.l (LO.as (.r rfl)) rfl<|VO.l (LO.as (.r rfl)) rfl<|VO.nil ?_)
    refine VE.seqN ?_
    refine VC.seq ?_
    refine VC.reg (VO.l (LO.lda (vs := [_,_,_,_,_,_]) A26 (.r rfl) (cells_keep (sub_cells (off := 0) hf1 ⟨_, rfl⟩)) rfl) rfl<|VO.l (LO.call (xs := [_,_,_,_]) (vs := [_,_,_,_]) C22 ⟨(.r rfl), (.r rfl), (.r rfl), (.r rfl), trivial⟩ (fun w2 hw => xGap3_c f1.p f1.c w2 (hsF.keep w2 hw))) rfl<|VO.l (LO.mv (.r rfl)) rfl<|VO.l (LO.ex (.r rfl) rfl) rfl<|VO.l (LO.ex (.r rfl) rfl) rfl<|VO.l (LO.as (.r rfl)) rfl<|VO.l (LO.as (.r rfl)) rfl<|VO.nil ?_)
    refine VE.seqN ?_
    refine VC.seq ?_
    refine VC.seq ?_
    refine VC.reg (VO.l (LO.mv (.r rfl)) rfl<|VO.l (LO.ne (.r rfl) (.r rfl)) rfl<|VO.l (LO.mv (.r rfl)) rfl<|VO.lg rfl rfl (GD.f _) (fun hg => LO.mv (.r rfl)) rfl<|VO.lg rfl rfl (GD.f _) (fun hg => LO.ne (.g hg rfl) (.r rfl)) rfl<|VO.l (LO.pkO (.r rfl) (.r rfl) rfl rfl) rfl<|VO.l (LO.mv (.r rfl)) rfl<|VO.lg rfl rfl (GD.f _) (fun hg => LO.mv (.r rfl)) rfl<|VO.lg rfl rfl (GD.f _) (fun hg => LO.ne (.g hg rfl) (.r rfl)) rfl<|VO.l (LO.pkO (.r rfl) (.r rfl) rfl rfl) rfl<|VO.l (LO.mv (.r rfl)) rfl<|VO.lg rfl rfl (GD.f _) (fun hg => LO.mv (.r rfl)) rfl<|VO.lg rfl rfl (GD.f _) (fun hg => LO.ne (.g hg rfl) (.r rfl)) rfl<|VO.l (LO.pkO (.r rfl) (.r rfl) rfl rfl) rfl<|VO.l (LO.mv (.r rfl)) rfl<|VO.lg rfl rfl (GD.f _) (fun hg => LO.mv (.r rfl)) rfl<|VO.lg rfl rfl (GD.f _) (fun hg => LO.ne (.g hg rfl) (.r rfl)) rfl<|VO.l (LO.pkO (.r rfl) (.r rfl) rfl rfl) rfl<|VO.l (LO.mv (.r rfl)) rfl<|VO.lg rfl rfl (GD.f _) (fun hg => LO.mv (.r rfl)) rfl<|VO.lg rfl rfl (GD.f _) (fun hg => LO.ne (.g hg rfl) (.r rfl)) rfl<|VO.l (LO.pkO (.r rfl) (.r rfl) rfl rfl) rfl<|VO.l (LO.mv (.r rfl)) rfl<|VO.lg rfl rfl (GD.f _) (fun hg => LO.mv (.r rfl)) rfl<|VO.lg rfl rfl (GD.f _) (fun hg => LO.ne (.g hg rfl) (.r rfl)) rfl<|VO.l (LO.pkO (.r rfl) (.r rfl) rfl rfl) rfl<|VO.l (LO.mv (.r rfl)) rfl<|VO.lg rfl rfl (GD.f _) (fun hg => LO.mv (.r rfl)) rfl<|VO.lg rfl rfl (GD.f _) (fun hg => LO.ne (.g hg rfl) (.r rfl)) rfl<|VO.l (LO.pkO (.r rfl) (.r rfl) rfl rfl) rfl<|VO.nil ?_)
    refine VE.seqN ?_
    refine VC.cond rfl (fun h118 => ?_) (fun h118 => ?_)
    ·
      (exfalso; exact absurd h118 (by decide))
    ·
      refine VC.skip (VE.seqN ?_)
      refine VC.seq ?_
      refine VC.reg (VO.l (LO.lda (vs := [_,_,_,_,_,_]) A26 (.r rfl) (cells_keep (sub_cells (off := 0) hf1 ⟨_, rfl⟩)) rfl) rfl<|VO.h rfl<|HO.bs (ps := [(_,_), (_,_)]) (vs := [(_,_), (_,_)]) (Z := [_,_]) (C := [_,_]) S40 Z3 N3 ⟨(.r rfl), (.r rfl), trivial⟩ rfl rfl rfl rfl ⟨_, [_], [_,_], rfl, rfl, rfl, rfl, ⟨_, [_], [_,_], rfl, rfl, rfl, rfl, rfl⟩⟩ fun b21 => VO.h rfl<|HO.callx (xs := [_,_]) (vs := [_,_]) C24 ⟨(.r rfl), (.r rfl), trivial⟩ (fun w2 hw => xTree_c f1.p f1.c b21 w2 (hsF.keep w2 hw) (ints_lit [1,5] (cells_inv (hw.inv 0 _ rfl)))) fun yt _ => VO.h rfl<|HO.lo (LO.mv (.r rfl))<|VO.h rfl<|HO.lo (LO.ex (.r rfl) rfl)<|VO.h rfl<|HO.lo (LO.ex (.r rfl) rfl)<|VO.h rfl<|HO.lo (LO.as (.r rfl))<|VO.h rfl<|HO.lo (LO.as (.r rfl))<|VO.nil ?_)
      refine VE.seqN ?_
      refine VC.seq ?_
      refine VC.reg (VO.l (LO.lda (vs := [_,_,_,_,_,_]) A26 (.r rfl) (cells_keep (sub_cells (off := 0) hf1 ⟨_, rfl⟩)) rfl) rfl<|VO.l (LO.lda (vs := [_,_,_,_,_,_]) A26 (.r rfl) (cells_keep (sub_cells (off := 0) hf2 ⟨_, rfl⟩)) rfl) rfl<|VO.h rfl<|HO.callx (xs := [_,_,_,_]) (vs := [_,_,_,_]) C27 ⟨(.r rfl), (.r rfl), (.r rfl), (.r rfl), trivial⟩ (fun w2 hw => xMatch_c f1.p f1.c f2.p f2.c w2 (hsF.keep w2 hw) (hsH.keep w2 hw)) fun ye _ => VO.h rfl<|HO.lo (LO.mv (.r rfl))<|VO.h rfl<|HO.lo (LO.ex (.r rfl) rfl)<|VO.h rfl<|HO.lo (LO.ex (.r rfl) rfl)<|VO.h rfl<|HO.lo (LO.as (.r rfl))<|VO.h rfl<|HO.lo (LO.as (.r rfl))<|VO.nil ?_)
      refine VE.seqN ?_
      refine VC.seq ?_
      refine VC.reg (VO.l (LO.lda (vs := [_,_,_,_,_,_]) A26 (.r rfl) (cells_keep (sub_cells (off := 0) hf1 ⟨_, rfl⟩)) rfl) rfl<|VO.l (LO.lda (vs := [_,_,_,_,_,_]) A26 (.r rfl) (cells_keep (sub_cells (off := 0) hf2 ⟨_, rfl⟩)) rfl) rfl<|VO.h rfl<|HO.callx (xs := [_,_,_,_,_,_]) (vs := [_,_,_,_,_,_]) C30 ⟨(.r rfl), (.r rfl), (.r rfl), (.r rfl), (.r rfl), (.r rfl), trivial⟩ (fun w2 hw => xMoves_c f1.p f1.c f2.p f2.c w2 (hsF.keep w2 hw) (hsH.keep w2 hw)) fun ym _ => VO.h rfl<|HO.lo (LO.mv (.r rfl))<|VO.h rfl<|HO.lo (LO.ex (.r rfl) rfl)<|VO.h rfl<|HO.lo (LO.ex (.r rfl) rfl)<|VO.h rfl<|HO.lo (LO.as (.r rfl))<|VO.h rfl<|HO.lo (LO.as (.r rfl))<|VO.nil ?_)
      refine VE.seqN ?_
      refine VC.seq ?_
      refine VC.seq ?_
      refine VC.reg (VO.l (LO.mv (.r rfl)) rfl<|VO.l (LO.ne (.r rfl) (.r rfl)) rfl<|VO.l (LO.mv (.r rfl)) rfl<|VO.lg rfl rfl (GD.f _) (fun hg => LO.mv (.r rfl)) rfl<|VO.lg rfl rfl (GD.f _) (fun hg => LO.ne (.g hg rfl) (.r rfl)) rfl<|VO.l (LO.pkO (.r rfl) (.r rfl) rfl rfl) rfl<|VO.l (LO.mv (.r rfl)) rfl<|VO.lg rfl rfl (GD.f _) (fun hg => LO.mv (.r rfl)) rfl<|VO.lg rfl rfl (GD.f _) (fun hg => LO.ne (.g hg rfl) (.r rfl)) rfl<|VO.l (LO.pkO (.r rfl) (.r rfl) rfl rfl) rfl<|VO.l (LO.mv (.r rfl)) rfl<|VO.lg rfl rfl (GD.f _) (fun hg => LO.mv (.r rfl)) rfl<|VO.bc (x := 147) rfl (fun hg14_10 => (by exfalso; exact absurd hg14_10 (by decide))) (fun hg14_10 => VO.gT rfl rfl (congrArg Value.bool hg14_10) rfl<|HO.bs (ps := [(_,_)]) (vs := [(_,_)]) (Z := [_]) (C := [_]) S40 Z3 N3 ⟨(.r rfl), trivial⟩ rfl rfl rfl rfl ⟨_, [_], [_], rfl, rfl, rfl, rfl, rfl⟩ fun b28 => VO.gT rfl rfl (congrArg Value.bool hg14_10) rfl<|HO.bs (ps := [(_,_)]) (vs := [(_,_)]) (Z := [_]) (C := [_]) S40 Z3 N3 ⟨(.r rfl), trivial⟩ rfl rfl rfl rfl ⟨_, [_], [_], rfl, rfl, rfl, rfl, rfl⟩ fun b29 => VO.gT rfl rfl (congrArg Value.bool hg14_10) rfl<|HO.bs (ps := [(_,_), (_,_)]) (vs := [(_,_), (_,_)]) (Z := [_,_]) (C := [_,_]) S41 Z40 N40 ⟨(.r rfl), (.r rfl), trivial⟩ rfl rfl rfl rfl ⟨_, [_], [_,_], rfl, rfl, rfl, rfl, ⟨_, [_], [_,_], rfl, rfl, rfl, rfl, rfl⟩⟩ fun b30 => VO.gT rfl rfl (congrArg Value.bool hg14_10) rfl<|HO.lo (LO.call (xs := [_,_]) (vs := [_,_]) C26 ⟨(.g (by rw [hg14_10]; rfl) rfl), (.r rfl), trivial⟩ (fun w2 hw => lists_c [⟨yt.p1, yt.c1, [-1]⟩, ⟨yt.p2, yt.c2, [0]⟩] [⟨some ⟨b28,0, none⟩, 1, [-1]⟩, ⟨some ⟨b29,0, none⟩, 1, [0]⟩] yt.p yt.c (some ⟨b30,0, none⟩) 2 w2 (RR.of_own hw 7 8 rfl rfl) (rr_lit2 (ints_lit [-1] (cells_inv (hw.inv 2 _ rfl))) (ints_lit [0] (cells_inv (hw.inv 1 _ rfl))) (cells_inv (hw.inv 0 _ rfl))) (show 2 ≤ 1000000 by decide) (two_rows rfl rfl)))<|VO.gT rfl rfl (congrArg Value.bool hg14_10) rfl<|HO.lo (LO.not (.r rfl))<|VO.h rfl<|HO.lo (LO.pkF (.r rfl) hg14_10 (.r rfl))<|VO.h rfl<|HO.lo (LO.mv (.r rfl))<|VO.lg rfl rfl (GD.f _) (fun hg => LO.mv (.r rfl)) rfl<|VO.lg rfl rfl (GD.f _) (fun hg => LO.len S46 (.g hg rfl) rfl) rfl<|VO.lg rfl rfl (GD.f _) (fun hg => LO.ne (.g hg rfl) (.r rfl)) rfl<|VO.h rfl<|HO.lo (LO.pkO (.r rfl) (.r rfl) rfl rfl)<|VO.h rfl<|HO.lo (LO.mv (.r rfl))<|VO.lg rfl rfl (GD.f _) (fun hg => LO.mv (.r rfl)) rfl<|VO.lg rfl rfl (GD.f _) (fun hg => LO.ixo S46 N81 (fun _ hw => (own_rows hw 4 rfl).some (by rfl)) (.g hg rfl) (.r rfl) (j := 0) rfl Nat.zero_lt_one) rfl<|VO.lg rfl rfl (GD.f _) (fun hg => LO.fa F81_0 (.g hg rfl) rfl) rfl<|VO.lg rfl rfl (GD.f _) (fun hg => LO.ld O3 (.g hg rfl) (fun w hw => cells_part (off := 0) (own_cell hw 4 rfl (show [ye.e][0]? = some ye.e from rfl)) ⟨_, rfl⟩)) rfl<|VO.lg rfl rfl (GD.f _) (fun hg => LO.ne (.g hg rfl) (.r rfl)) rfl<|VO.h rfl<|HO.lo (LO.pkO (.r rfl) (.r rfl) rfl rfl)<|VO.h rfl<|HO.lo (LO.mv (.r rfl))<|VO.lg rfl rfl (GD.f _) (fun hg => LO.mv (.r rfl)) rfl<|VO.lg rfl rfl (GD.f _) (fun hg => LO.len S53 (.g hg rfl) rfl) rfl<|VO.lg rfl rfl (GD.f _) (fun hg => LO.ne (.g hg rfl) (.r rfl)) rfl<|VO.h rfl<|HO.lo (LO.pkO (.r rfl) (.r rfl) rfl rfl)<|VO.h rfl<|HO.lo (LO.mv (.r rfl))<|VO.lg rfl rfl (GD.f _) (fun hg => LO.mv (.r rfl)) rfl<|VO.lg rfl rfl (GD.f _) (fun hg => LO.ixo S53 N85 (fun _ hw => (own_rows hw 3 rfl).some (by rfl)) (.g hg rfl) (.r rfl) (j := 3) rfl (by decide)) rfl<|VO.lg rfl rfl (GD.f _) (fun hg => LO.lda (vs := [_,_]) A85 (.g hg rfl) (fun w hw => cells_part (off := 0) (own_cell hw 3 rfl (show xMv[3]? = some _ from rfl)) ⟨_, rfl⟩) rfl) rfl<|VO.lg rfl rfl (GD.f _) (fun hg => LO.bd (ps := [(_,_)]) (vs := [(_,_)]) (C := [_,_]) B85  ⟨(.r rfl), trivial⟩ rfl ⟨_, [_], [_,_], rfl, rfl, rfl, rfl, rfl⟩) rfl<|VO.lg rfl rfl (GD.f _) (fun hg => LO.neA («as» := [_,_]) (bs := [_,_]) EA85 (.g hg rfl) (.g hg rfl) rfl rfl) rfl<|VO.h rfl<|HO.lo (LO.pkO (.r rfl) (.r rfl) rfl rfl)<|VO.h rfl<|HO.lo (LO.mv (.r rfl))<|VO.lg rfl rfl (GD.f _) (fun hg => LO.mv (.r rfl)) rfl<|VO.lg rfl rfl (GD.f _) (fun hg => LO.ixo S53 N85 (fun _ hw => (own_rows hw 3 rfl).some (by rfl)) (.g hg rfl) (.r rfl) (j := 4) rfl (by decide)) rfl<|VO.lg rfl rfl (GD.f _) (fun hg => LO.lda (vs := [_,_]) A85 (.g hg rfl) (fun w hw => cells_part (off := 0) (own_cell hw 3 rfl (show xMv[4]? = some _ from rfl)) ⟨_, rfl⟩) rfl) rfl<|VO.lg rfl rfl (GD.f _) (fun hg => LO.bd (ps := [(_,_)]) (vs := [(_,_)]) (C := [_,_]) B85  ⟨(.r rfl), trivial⟩ rfl ⟨_, [_], [_,_], rfl, rfl, rfl, rfl, rfl⟩) rfl<|VO.lg rfl rfl (GD.f _) (fun hg => LO.neA («as» := [_,_]) (bs := [_,_]) EA85 (.g hg rfl) (.g hg rfl) rfl rfl) rfl<|VO.h rfl<|HO.lo (LO.pkO (.r rfl) (.r rfl) rfl rfl)<|VO.nil ?_))
      refine VE.seqN ?_
      refine VC.cond rfl (fun h185 => ?_) (fun h185 => ?_)
      ·
        (exfalso; rcases h185 with ((((z | z) | z) | z) | z) | z <;> exact z rfl)
      ·
        refine VC.skip (VE.seqN ?_)
        refine VC.seq ?_
        refine VC.perm [] rfl ?_
        show VC _ _ _ _ _ _ [] _ _
        refine VC.reg (VO.l (LO.fa (r := 0) F26_0 (.r rfl) rfl) rfl<|VO.l (LO.lda (vs := [_,_,_,_,_]) A23 (.r rfl) (cells_keep (sub_cells (off := 0) hf1 ⟨_, rfl⟩)) rfl) rfl<|VO.h rfl<|HO.callx (xs := [_,_,_]) (vs := [_,_,_]) C47 ⟨(.r rfl), (.r rfl), (.r rfl), trivial⟩ (fun w2 hw => NewBook_ok xG 5 1 w2 xBook) fun yb _ => VO.h rfl<|HO.lo (LO.mv (.r rfl))<|VO.h rfl<|HO.lo (LO.ex (.r rfl) rfl)<|VO.h rfl<|HO.lo (LO.ex (.r rfl) rfl)<|VO.h rfl<|HO.lo (LO.as (.r rfl))<|VO.h rfl<|HO.lo (LO.as (.r rfl))<|VO.nil ?_)
        refine VE.seqN ?_
        refine VC.seq ?_
        refine VC.seq ?_
        refine VC.reg (VO.l (LO.mv (.r rfl)) rfl<|VO.l (LO.ne (.r rfl) (.r rfl)) rfl<|VO.nil ?_)
        refine VE.seqN ?_
        refine VC.cond rfl (fun h193 => ?_) (fun h193 => ?_)
        ·
          (exfalso; exact absurd h193 (by decide))
        ·
          refine VC.skip (VE.seqN ?_)
          refine VC.seq ?_
          refine VC.res (fun w hw => St.bagD (Rs := []) (St.bagD (Rs := []) ((St.bagD (Rs := []) ((hw.ownNil 109 6)) ).ownNil 154 7))) ?_
          refine VC.reg (VO.l (LO.mv (.r rfl)) rfl<|VO.l (LO.lda (vs := [_,_,_,_,_,_]) A26 (.r rfl) (cells_keep (sub_cells (off := 0) hf1 ⟨_, rfl⟩)) rfl) rfl<|VO.h rfl<|HO.callP (first := []) (cap := []) (xs := [_,_,_]) (vs := [_,_,_]) [_,_,_,_,_,_,_] [] (selK (L1 := [_,_,_,_,_,_,_] ++ []) [5,4,3,6,2,0,1] rfl rfl) (.r rfl) C48 ⟨(.r rfl), (.r rfl), (.r rfl), trivial⟩ (fun w2 hw hh => Add_0 yb.1 (xBk yb.2) (-1) none 0 none 0 (fun _ => 0) [] (fun _ => none) 10 xF f1.p f1.c w2 hh (fun hs => hsF.keep _ (St.fz (R := bkF yb.1 (xBk yb.2) (-1) none 0 [] none 0 (fun _ => 0) [] (fun _ => none)) (rest := []) (selK (L1 := [_,_,_,_,_,_,_]) [5,4,3,6,2,0,1] rfl rfl _ hw) hs)) (xAdd0 _) (show (1 : Int) ≤ 5 ∧ (5 : Int) ≤ 1073741824 by decide) (by decide)) fun ad had => VO.h rfl<|HO.lo (LO.mv (.r rfl))<|VO.h rfl<|HO.lo (LO.ex (.r rfl) rfl)<|VO.h rfl<|HO.lo (LO.ex (.r rfl) rfl)<|VO.h rfl<|HO.lo (LO.as (.r rfl))<|VO.nil ?_)
          have hadn : ad.yN.l.length = 1 := by rw [← ar_len had.1]; exact xNf
          have hadl : ad.tk.length ≤ 800000 := by have z := had.2.2; rw [hadn] at z; exact Nat.le_trans z (by decide)
          refine VE.seqN ?_
          refine VC.seq ?_
          refine VC.reg (VO.l (LO.mv (.r rfl)) rfl<|VO.l (LO.lda (vs := [_,_,_,_,_,_]) A26 (.r rfl) (cells_keep (sub_cells (off := 0) hf2 ⟨_, rfl⟩)) rfl) rfl<|VO.h rfl<|HO.callP (first := []) (cap := []) (xs := [_,_,_]) (vs := [_,_,_]) [_,_,_,_,_,_,_] [_,_,_,_,_,_,_,_] (selK (L1 := [_,_,_,_,_,_,_] ++ [_,_,_,_,_,_,_,_]) [0,1,2,3,4,5,6,7,8,9,10,11,12,13,14] rfl rfl) (.r rfl) C48 ⟨(.r rfl), (.r rfl), (.r rfl), trivial⟩ (fun w2 hw hh => Add_1 yb.1 (xBk yb.2) 10 ad.pm ad.cm [ad.yN] ad.pt ad.ct (fun _ => 0) ad.tk ad.of 20 xH f2.p f2.c w2 hh (fun hs => hsH.keep _ (St.fz (R := bkF yb.1 (xBk yb.2) 10 ad.pm ad.cm [ad.yN] ad.pt ad.ct (fun _ => 0) ad.tk ad.of) (rest := [_,_,_,_,_,_,_,_]) (selK (L1 := [_,_,_,_,_,_,_,_,_,_,_,_,_,_,_]) [0,1,2,3,4,5,6,7,8,9,10,11,12,13,14] rfl rfl _ hw) hs)) (xAdd1 _) (show (1 : Int) ≤ 5 ∧ (5 : Int) ≤ 1073741824 by decide) hadl 0 1 rfl (show 1 ≤ 48 by decide) ad.yN rfl xF had.1 (fun hs => SpI.of_res (St.rightOf (St.fz (R := bkF yb.1 (xBk yb.2) 10 ad.pm ad.cm [ad.yN] ad.pt ad.ct (fun _ => 0) ad.tk ad.of) (rest := [_,_,_,_,_,_,_,_]) (selK (L1 := [_,_,_,_,_,_,_,_,_,_,_,_,_,_,_]) [0,1,2,3,4,5,6,7,8,9,10,11,12,13,14] rfl rfl _ hw) hs)) had.1 0 1 3 7 rfl rfl rfl rfl) [[]] [ad.yN.l.length] (book0 had.2.1) rfl rfl rfl (by decide) (fun _ => by decide)) fun ae hae => VO.h rfl<|HO.lo (LO.mv (.r rfl))<|VO.h rfl<|HO.lo (LO.ex (.r rfl) rfl)<|VO.h rfl<|HO.lo (LO.ex (.r rfl) rfl)<|VO.h rfl<|HO.lo (LO.as (.r rfl))<|VO.nil ?_)
          have haen : ae.yN.l.length = 1 := by rw [← ar_len hae.ar]; exact xNh
          have hes : ae.ev.l.map EvR.m = [⟨4, [0], [0]⟩] := by have z := hae.ev; rw [hadn, haen] at z; exact xEv z
          have hkd := hae.kd
          rw [hes] at hkd
          have hb0 := had.2.1
          rw [hadn] at hb0
          have hb1 := hae.trk
          rw [hes, haen] at hb1
          obtain ⟨htkm, hks⟩ := exB1 hb0 hb1
          refine VE.seqN ?_
          refine VC.seq ?_
          refine VC.reg (VO.l (LO.mv (.r rfl)) rfl<|VO.l (LO.lda (vs := [_,_,_,_,_,_]) A26 (.r rfl) (cells_keep (sub_cells (off := 0) hf2 ⟨_, rfl⟩)) rfl) rfl<|VO.l (LO.call (xs := [_,_,_]) (vs := [_,_,_]) C48 ⟨(.r rfl), (.r rfl), (.r rfl), trivial⟩ (fun w2 hw => xLate_c yb.1 yb.2 _ _ _ _ _ f2.p f2.c w2 (cells_inv (hw.inv 0 _ rfl)) (hsH.keep w2 hw))) rfl<|VO.l (LO.mv (.r rfl)) rfl<|VO.l (LO.ex (.r rfl) rfl) rfl<|VO.l (LO.ex (.r rfl) rfl) rfl<|VO.l (LO.as (.r rfl)) rfl<|VO.nil ?_)
          refine VE.seqN ?_
          refine VC.seq ?_
          refine VC.reg (VO.l (LO.mv (.r rfl)) rfl<|VO.h rfl<|HO.callx (xs := [_]) (vs := [_]) C49 ⟨(.r rfl), trivial⟩ (fun w2 hw => xTracks_c yb.1 _ _ _ _ _ _ ae.tk w2 (cells_inv (hw.inv 0 _ rfl)) (RO.of_own hw 1 rfl) (fun t ht => ⟨(RO.of_bag (E := 3) (z := 1) (P := TkR.ap) (C := TkR.ac) (X := TkR.ar) (f := nC) hw 2 rfl ht), (RO.of_bag (E := 3) (z := 1) (P := TkR.pp) (C := TkR.pc) (X := TkR.pa) (f := nC) hw 5 rfl ht), (RO.of_bag (E := 3) (z := 1) (P := TkR.cp) (C := TkR.cc) (X := TkR.ch) (f := nC) hw 6 rfl ht)⟩) htkm) fun yk _ => VO.l (LO.as (.r rfl)) rfl<|VO.nil ?_)
          refine VE.seqN ?_
          refine VC.seq ?_
          refine VC.reg (VO.l (LO.mv (.r rfl)) rfl<|VO.l (LO.eq (.r rfl) (.r rfl)) rfl<|VO.l (LO.mv (.r rfl)) rfl<|VO.lg rfl rfl (GD.t _) (fun hg => LO.mv (.r rfl)) rfl<|VO.lg rfl rfl (GD.t _) (fun hg => LO.eq (.g hg rfl) (.r rfl)) rfl<|VO.l (LO.pkA (.r rfl) rfl rfl (.r rfl)) rfl<|VO.l (LO.mv (.r rfl)) rfl<|VO.lg rfl rfl (GD.t _) (fun hg => LO.mv (.r rfl)) rfl<|VO.lg rfl rfl (GD.t _) (fun hg => LO.eq (.g hg rfl) (.r rfl)) rfl<|VO.l (LO.pkA (.r rfl) rfl rfl (.r rfl)) rfl<|VO.l (LO.mv (.r rfl)) rfl<|VO.lg rfl rfl (GD.t _) (fun hg => LO.mv (.r rfl)) rfl<|VO.lg rfl rfl (GD.t _) (fun hg => LO.len S102 (.g hg rfl) rfl) rfl<|VO.lg rfl rfl (GD.t _) (fun hg => LO.eq (.g hg rfl) (.r rfl)) rfl<|VO.l (LO.pkA (.r rfl) rfl rfl (.r rfl)) rfl<|VO.l (LO.mv (.r rfl)) rfl<|VO.lg rfl rfl (GD.t _) (fun hg => LO.mv (.r rfl)) rfl<|VO.lg rfl rfl (GD.t _) (fun hg => LO.ixo S102 N109 (fun _ hw => (own_rows hw 0 rfl).some (by rfl)) (.g hg rfl) (.r rfl) (j := 0) rfl Nat.zero_lt_one) rfl<|VO.lg rfl rfl (GD.t _) (fun hg => LO.fa F109_0 (.g hg rfl) rfl) rfl<|VO.lg rfl rfl (GD.t _) (fun hg => LO.ld O3 (.g hg rfl) (fun w hw => cells_part (off := 0) (own_cell hw 0 rfl (show [yk.t][0]? = some yk.t from rfl)) ⟨_, rfl⟩)) rfl<|VO.lg rfl rfl (GD.t _) (fun hg => LO.eq (.g hg rfl) (.r rfl)) rfl<|VO.l (LO.pkA (.r rfl) rfl rfl (.r rfl)) rfl<|VO.l (LO.mv (.r rfl)) rfl<|VO.lg rfl rfl (GD.t _) (fun hg => LO.mv (.r rfl)) rfl<|VO.lg rfl rfl (GD.t _) (fun hg => LO.ixo S102 N109 (fun _ hw => (own_rows hw 0 rfl).some (by rfl)) (.g hg rfl) (.r rfl) (j := 0) rfl Nat.zero_lt_one) rfl<|VO.lg rfl rfl (GD.t _) (fun hg => LO.fa F109_3 (.g hg rfl) rfl) rfl<|VO.lg rfl rfl (GD.t _) (fun hg => LO.ld O3 (.g hg rfl) (fun w hw => cells_part (off := 3) (own_cell hw 0 rfl (show [yk.t][0]? = some yk.t from rfl)) ⟨_, rfl⟩)) rfl<|VO.lg rfl rfl (GD.t _) (fun hg => LO.eq (.g hg rfl) (.r rfl)) rfl<|VO.l (LO.pkA (.r rfl) rfl rfl (.r rfl)) rfl<|VO.l (LO.mv (.r rfl)) rfl<|VO.lg rfl rfl (GD.t _) (fun hg => LO.mv (.r rfl)) rfl<|VO.lg rfl rfl (GD.t _) (fun hg => LO.ixo S102 N109 (fun _ hw => (own_rows hw 0 rfl).some (by rfl)) (.g hg rfl) (.r rfl) (j := 0) rfl Nat.zero_lt_one) rfl<|VO.lg rfl rfl (GD.t _) (fun hg => LO.fa F109_2 (.g hg rfl) rfl) rfl<|VO.lg rfl rfl (GD.t _) (fun hg => LO.ld O40 (.g hg rfl) (fun w hw => cells_part (off := 2) (own_cell hw 0 rfl (show [yk.t][0]? = some yk.t from rfl)) ⟨_, rfl⟩)) rfl<|VO.bc (x := 243) rfl (fun hg23_29 => VO.gT rfl rfl (congrArg Value.bool hg23_29) rfl<|HO.bs (ps := [(_,_), (_,_)]) (vs := [(_,_), (_,_)]) (Z := [_,_]) (C := [_,_]) S40 Z3 N3 ⟨(.r rfl), (.r rfl), trivial⟩ rfl rfl rfl rfl ⟨_, [_], [_,_], rfl, rfl, rfl, rfl, ⟨_, [_], [_,_], rfl, rfl, rfl, rfl, rfl⟩⟩ fun b75 => VO.gT rfl rfl (congrArg Value.bool hg23_29) rfl<|HO.lo (LO.call (xs := [_,_]) (vs := [_,_]) C40 ⟨(.g hg23_29 rfl), (.r rfl), trivial⟩ (fun w2 hw => numbers_c [0,0] [0,0] yk.ap yk.ac (some ⟨b75,0, none⟩) 2 w2 (ints_nat (RO.of_bag (E := 3) (z := 1) (P := TkR.ap) (C := TkR.ac) (X := TkR.ar) (f := nC) (x := yk.t) hw 2 rfl (List.mem_singleton.2 rfl))) (ints_lit [0,0] (cells_inv (hw.inv 0 _ rfl))) (by decide)))<|VO.h rfl<|HO.lo (LO.pkT (.r rfl) hg23_29 (.r rfl))<|VO.h rfl<|HO.lo (LO.mv (.r rfl))<|VO.lg rfl rfl (GD.t _) (fun hg => LO.mv (.r rfl)) rfl<|VO.lg rfl rfl (GD.t _) (fun hg => LO.call (xs := [_]) (vs := [_]) C50 ⟨(.g hg rfl), trivial⟩ (fun w2 hw => xTally_c yb.1 yb.2 _ _ _ ([ad.yN] ++ [ae.yN]) _ _ _ ae.tk ae.of w2 (cells_inv (hw.inv 5 _ rfl)) (hw.inv 8 _ rfl) rfl htkm hks hkd)) rfl<|VO.lg rfl rfl (GD.t _) (fun hg => LO.bd (ps := [(_,_), (_,_), (_,_), (_,_)]) (vs := [(_,_), (_,_), (_,_), (_,_)]) (C := [_,_,_,_,_,_,_,_,_]) B105  ⟨(.r rfl), (.r rfl), (.r rfl), (.r rfl), trivial⟩ rfl ⟨_, [_], [_,_,_,_,_,_,_,_,_], rfl, rfl, rfl, rfl, ⟨_, [_], [_,_,_,_,_,_,_,_,_], rfl, rfl, rfl, rfl, ⟨_, [_], [_,_,_,_,_,_,_,_,_], rfl, rfl, rfl, rfl, ⟨_, [_], [_,_,_,_,_,_,_,_,_], rfl, rfl, rfl, rfl, rfl⟩⟩⟩⟩) rfl<|VO.lg rfl rfl (GD.t _) (fun hg => LO.eqA («as» := [_,_,_,_,_,_,_,_,_]) (bs := [_,_,_,_,_,_,_,_,_]) EA105 (.g hg rfl) (.g hg rfl) rfl rfl) rfl<|VO.h rfl<|HO.lo (LO.pkA (.r rfl) rfl rfl (.r rfl))<|VO.h rfl<|HO.lo (LO.as (.r rfl))<|VO.nil ?_) (fun hg23_29 => (by exfalso; exact absurd (hg23_29.symm.trans (show _ = true from rfl)) (by decide))))
          refine VE.seqN ?_
          refine VC.ret (VE.res (vs := [_]) rfl ⟨rfl, trivial⟩ (fun w hw => ?_))
          exact ⟨rfl, (hst1.call (hst2.call hw)).nil⟩

end Go.Proofs.Ytgemekpofpoopaa

namespace Go.Proofs.Ytgemekpofpoopaa
open Go.SL Go.Proofs Go.Cast Go.Cell
set_option linter.unusedVariables false

theorem C16 : IsFn Try.prog 16 := ⟨_, Try.func16, by decide, rfl⟩
end Go.Proofs.Ytgemekpofpoopaa

namespace Go.Proofs.Ytgemekpofpoopaa
open Go.SL Go.Proofs Go.Cast Go.Cell
set_option linter.unusedVariables false

theorem C85 : IsFn Try.prog 85 := ⟨_, Try.func85, by decide, rfl⟩
theorem C87 : IsFn Try.prog 87 := ⟨_, Try.func87, by decide, rfl⟩
theorem C86 : IsFn Try.prog 86 := ⟨_, Try.func86, by decide, rfl⟩
theorem C88 : IsFn Try.prog 88 := ⟨_, Try.func88, by decide, rfl⟩
theorem C89 : IsFn Try.prog 89 := ⟨_, Try.func89, by decide, rfl⟩
def ordI (a b : Int) : Int := if a < b then -1 else if b < a then 1 else 0
theorem ord_lt {a b : Int} : ordI a b < 0 ↔ a < b := by unfold ordI; split; · omega
                                                        · split <;> omega
theorem ord_gt {a b : Int} : 0 < ordI a b ↔ b < a := by unfold ordI; split; · omega
                                                        · split <;> omega
def headM (f : Mv → Int) (l : List Mv) : Int := match l with | [] => 0 | m :: _ => f m
def loTo (f : Mv → Int) (l : List Mv) (k : Nat) : Int := (l.take k).foldl (fun a m => min a (f m)) (headM f l)
def hiTo (f : Mv → Int) (l : List Mv) (k : Nat) : Int := (l.take k).foldl (fun a m => max a (f m)) (headM f l)
def loM (f : Mv → Int) (l : List Mv) : Int := loTo f l l.length
def hiM (f : Mv → Int) (l : List Mv) : Int := hiTo f l l.length
theorem loTo_succ {f : Mv → Int} {l : List Mv} {k : Nat} {m : Mv} (h : l[k]? = some m) : loTo f l (k + 1) = min (loTo f l k) (f m) := by
  obtain ⟨hk, rfl⟩ := List.getElem?_eq_some_iff.1 h
  unfold loTo; rw [List.take_succ_eq_append_getElem hk, List.foldl_append]; rfl
theorem hiTo_succ {f : Mv → Int} {l : List Mv} {k : Nat} {m : Mv} (h : l[k]? = some m) : hiTo f l (k + 1) = max (hiTo f l k) (f m) := by
  obtain ⟨hk, rfl⟩ := List.getElem?_eq_some_iff.1 h
  unfold hiTo; rw [List.take_succ_eq_append_getElem hk, List.foldl_append]; rfl
theorem head_get {f : Mv → Int} {l : List Mv} {m : Mv} (h : l[0]? = some m) : headM f l = f m := by cases l with | nil => cases h | cons a l => cases h; rfl
theorem loTo_le {f : Mv → Int} {l : List Mv} : ∀ {k : Nat}, k ≤ l.length → (∀ i m, i < k → l[i]? = some m → loTo f l k ≤ f m) ∧ loTo f l k ≤ headM f l ∧ ((∃ m, m ∈ l ∧ loTo f l k = f m) ∨ loTo f l k = headM f l)
  | 0,_ => ⟨fun i m h => absurd h (Nat.not_lt_zero _), Int.le_refl _, .inr rfl⟩
  | k + 1, hk => by
    obtain ⟨h1, h2, h3⟩ := loTo_le (f := f) (l := l) (k := k) (by omega)
    obtain ⟨m, hm⟩ := get_ex (l := l) (n := k) (by omega)
    rw [loTo_succ hm]
    refine ⟨fun i x hi hx => ?_, by omega, ?_⟩
    · rcases Nat.lt_succ_iff_lt_or_eq.1 hi with q | rfl
      · have := h1 i x q hx; omega
      · rw [hm] at hx; cases hx; omega
    · by_cases q : f m < loTo f l k
      · exact .inl ⟨m, List.mem_of_getElem? hm, by omega⟩
      · rw [show min (loTo f l k) (f m) = loTo f l k by omega]; exact h3
theorem hiTo_le {f : Mv → Int} {l : List Mv} : ∀ {k : Nat}, k ≤ l.length → (∀ i m, i < k → l[i]? = some m → f m ≤ hiTo f l k) ∧ headM f l ≤ hiTo f l k ∧ ((∃ m, m ∈ l ∧ hiTo f l k = f m) ∨ hiTo f l k = headM f l)
  | 0,_ => ⟨fun i m h => absurd h (Nat.not_lt_zero _), Int.le_refl _, .inr rfl⟩
  | k + 1, hk => by
    obtain ⟨h1, h2, h3⟩ := hiTo_le (f := f) (l := l) (k := k) (by omega)
    obtain ⟨m, hm⟩ := get_ex (l := l) (n := k) (by omega)
    rw [hiTo_succ hm]
    refine ⟨fun i x hi hx => ?_, by omega, ?_⟩
    · rcases Nat.lt_succ_iff_lt_or_eq.1 hi with q | rfl
      · have := h1 i x q hx; omega
      · rw [hm] at hx; cases hx; omega
    · by_cases q : hiTo f l k < f m
      · exact .inl ⟨m, List.mem_of_getElem? hm, by omega⟩
      · rw [show max (hiTo f l k) (f m) = hiTo f l k by omega]; exact h3
theorem lo_of {f : Mv → Int} {l : List Mv} {m : Mv} (hm : m ∈ l) (h : ∀ i x, i < l.length → l[i]? = some x → f m ≤ f x) : f m = loM f l := by
  obtain ⟨h1, h2, h3⟩ := loTo_le (f := f) (l := l) (Nat.le_refl _)
  obtain ⟨i, hi, e⟩ := List.mem_iff_getElem.1 hm
  have a := h1 i m hi (by rw [List.getElem?_eq_getElem hi, e])
  unfold loM
  rcases h3 with ⟨x, hx, e2⟩ | e2
  · obtain ⟨j, hj, e3⟩ := List.mem_iff_getElem.1 hx
    have := h j x hj (by rw [List.getElem?_eq_getElem hj, e3]); omega
  · obtain ⟨x, hx⟩ := get_ex (l := l) (n := 0) (by omega)
    have := h 0 x (by omega) hx
    rw [head_get hx] at e2; omega
theorem hi_of {f : Mv → Int} {l : List Mv} {m : Mv} (hm : m ∈ l) (h : ∀ i x, i < l.length → l[i]? = some x → f x ≤ f m) : f m = hiM f l := by
  obtain ⟨h1, h2, h3⟩ := hiTo_le (f := f) (l := l) (Nat.le_refl _)
  obtain ⟨i, hi, e⟩ := List.mem_iff_getElem.1 hm
  have a := h1 i m hi (by rw [List.getElem?_eq_getElem hi, e])
  unfold hiM
  rcases h3 with ⟨x, hx, e2⟩ | e2
  · obtain ⟨j, hj, e3⟩ := List.mem_iff_getElem.1 hx
    have := h j x hj (by rw [List.getElem?_eq_getElem hj, e3]); omega
  · obtain ⟨x, hx⟩ := get_ex (l := l) (n := 0) (by omega)
    have := h 0 x (by omega) hx
    rw [head_get hx] at e2; omega
abbrev mvV (m : Mv) : Value := .agg #[.int .i64 m.x, .int .i64 m.y]
theorem step_P {P : Nat → Mv → Prop} {l : List Mv} {i : Nat} {x : Mv} (h : ∀ k y, k < i → l[k]? = some y → P k y) (hx : l[i]? = some x) (hp : P i x) : ∀ k y, k < i + 1 → l[k]? = some y → P k y := fun k y hk hy => by
  rcases Nat.lt_succ_iff_lt_or_eq.1 hk with q | rfl
  · exact h k y q hy
  · rw [hx] at hy; cases hy; exact hp
theorem one_P {P : Nat → Mv → Prop} {l : List Mv} {x : Mv} (hx : l[0]? = some x) (hp : P 0 x) : ∀ k y, k < 1 → l[k]? = some y → P k y := fun k y hk hy => by
  have hk : k = 0 := by omega
  subst hk
  rw [hx] at hy; cases hy; exact hp
def hullE (l : List Mv) : Int := if l = [] then 18 else 0
abbrev hullV (l : List Mv) : Value := .tuple #[.agg #[.int .i64 (loM Mv.x l), .int .i64 (hiM Mv.x l)], .agg #[.int .i64 (loM Mv.y l), .int .i64 (hiM Mv.y l)], .int .i64 (hullE l)]
theorem hull_nil {l : List Mv} (h : (l.length : Int) = 0) : l = [] := List.length_eq_zero_iff.1 (by omega)
theorem hullE_ne {l : List Mv} (h : ¬ (l.length : Int) = 0) : hullE l = 0 := by unfold hullE; rw [if_neg (fun e => h (by rw [e]; rfl))]

set_option maxRecDepth 20000 in
theorem order_c (a b : Int) (w : World) :
  Calls Try.prog 86 #[.int .i64 a, .int .i64 b] w fun e w' => e = .returned (.int .i64 (ordI a b)) ∧ St (bs w) [] w' := by
  refine enter (vs := [_,_]) (env := [(0,_), (1,_)]) Try.func86 rfl rfl rfl rfl ?_
  refine VC.seq ?_
  refine VC.reg (VO.l (LO.as (.r rfl)) rfl<|VO.nil ?_)
  refine VE.seqN ?_
  refine VC.seq ?_
  refine VC.block ?_
  refine VC.seq ?_
  refine VC.reg (VO.l (LO.mv (.r rfl)) rfl<|VO.l (LO.mv (.r rfl)) rfl<|VO.l (LO.lt (.r rfl) (.r rfl)) rfl<|VO.l (LO.as (.r rfl)) rfl<|VO.nil ?_)
  refine VE.seqN ?_
  refine VC.cond rfl (fun h5 => ?_) (fun h5 => ?_)
  ·
    refine VC.seq ?_
    refine VC.reg (VO.l (LO.as (.r rfl)) rfl<|VO.nil ?_)
    refine VE.seqN ?_
    refine VC.ret (VE.inR (VE.thenR (VE.res (vs := [_]) rfl ⟨rfl, trivial⟩ (fun w hw => ?_))))
    refine ⟨congrArg (fun z => Ending.returned (.int .i64 z)) ?_, hw.nil⟩
    unfold ordI
    first | rw [if_pos h5] | rw [if_neg h5, if_pos h9] | rw [if_neg h5, if_neg h9]
  ·
    refine VC.seq ?_
    refine VC.reg (VO.l (LO.mv (.r rfl)) rfl<|VO.l (LO.mv (.r rfl)) rfl<|VO.l (LO.gt (.r rfl) (.r rfl)) rfl<|VO.l (LO.as (.r rfl)) rfl<|VO.nil ?_)
    refine VE.seqN ?_
    refine VC.cond rfl (fun h9 => ?_) (fun h9 => ?_)
    ·
      refine VC.seq ?_
      refine VC.reg (VO.l (LO.as (.r rfl)) rfl<|VO.nil ?_)
      refine VE.seqN ?_
      refine VC.ret (VE.inR (VE.thenR (VE.res (vs := [_]) rfl ⟨rfl, trivial⟩ (fun w hw => ?_))))
      refine ⟨congrArg (fun z => Ending.returned (.int .i64 z)) ?_, hw.nil⟩
      unfold ordI
      first | rw [if_pos h5] | rw [if_neg h5, if_pos h9] | rw [if_neg h5, if_neg h9]
    ·
      refine VC.skip (VE.inN (VE.seqN ?_))
      refine VC.seq ?_
      refine VC.reg (VO.l (LO.as (.r rfl)) rfl<|VO.nil ?_)
      refine VE.seqN ?_
      refine VC.ret (VE.res (vs := [_]) rfl ⟨rfl, trivial⟩ (fun w hw => ?_))
      refine ⟨congrArg (fun z => Ending.returned (.int .i64 z)) ?_, hw.nil⟩
      unfold ordI
      first | rw [if_pos h5] | rw [if_neg h5, if_pos h9] | rw [if_neg h5, if_neg h9]

set_option maxRecDepth 20000 in
theorem byX_c (m n : Mv) (w : World) :
  Calls Try.prog 85 #[mvV m, mvV n] w fun e w' => e = .returned (.int .i64 (ordI m.x n.x)) ∧ St (bs w) [] w' := by
  refine enter (vs := [_,_]) (env := [(0,_), (1,_)]) Try.func85 rfl rfl rfl rfl ?_
  refine VC.seq ?_
  refine VC.reg (VO.h rfl<|HO.box (C := #[_,_]) rfl rfl fun b1 => VO.h rfl<|HO.box (C := #[_,_]) rfl rfl fun b2 => VO.l (LO.as (.r rfl)) rfl<|VO.nil ?_)
  refine VE.seqN ?_
  refine VC.seq ?_
  refine VC.reg (VO.l (LO.fa (r := 0) F85_0 (.r rfl) rfl) rfl<|VO.l (LO.ld O3 (.r rfl) (fun _ hw => cells_at hw 1 rfl ⟨_, rfl⟩)) rfl<|VO.l (LO.fa (r := 0) F85_0 (.r rfl) rfl) rfl<|VO.l (LO.ld O3 (.r rfl) (fun _ hw => cells_at hw 0 rfl ⟨_, rfl⟩)) rfl<|VO.l (LO.call (xs := [_,_]) (vs := [_,_]) C86 ⟨(.r rfl), (.r rfl), trivial⟩ (fun w2 _ => order_c _ _ w2)) rfl<|VO.l (LO.as (.r rfl)) rfl<|VO.nil ?_)
  refine VE.seqN ?_
  refine VC.ret (VE.res (vs := [_]) rfl ⟨rfl, trivial⟩ (fun w hw => ?_))
  exact ⟨rfl, hw.nil⟩

set_option maxRecDepth 20000 in
theorem byY_c (m n : Mv) (w : World) :
  Calls Try.prog 87 #[mvV m, mvV n] w fun e w' => e = .returned (.int .i64 (ordI m.y n.y)) ∧ St (bs w) [] w' := by
  refine enter (vs := [_,_]) (env := [(0,_), (1,_)]) Try.func87 rfl rfl rfl rfl ?_
  refine VC.seq ?_
  refine VC.reg (VO.h rfl<|HO.box (C := #[_,_]) rfl rfl fun b1 => VO.h rfl<|HO.box (C := #[_,_]) rfl rfl fun b2 => VO.l (LO.as (.r rfl)) rfl<|VO.nil ?_)
  refine VE.seqN ?_
  refine VC.seq ?_
  refine VC.reg (VO.l (LO.fa (r := 1) F85_1 (.r rfl) rfl) rfl<|VO.l (LO.ld O3 (.r rfl) (fun _ hw => cells_at hw 1 rfl ⟨_, rfl⟩)) rfl<|VO.l (LO.fa (r := 1) F85_1 (.r rfl) rfl) rfl<|VO.l (LO.ld O3 (.r rfl) (fun _ hw => cells_at hw 0 rfl ⟨_, rfl⟩)) rfl<|VO.l (LO.call (xs := [_,_]) (vs := [_,_]) C86 ⟨(.r rfl), (.r rfl), trivial⟩ (fun w2 _ => order_c _ _ w2)) rfl<|VO.l (LO.as (.r rfl)) rfl<|VO.nil ?_)
  refine VE.seqN ?_
  refine VC.ret (VE.res (vs := [_]) rfl ⟨rfl, trivial⟩ (fun w hw => ?_))
  exact ⟨rfl, hw.nil⟩

set_option maxRecDepth 20000 in
theorem MinFunc_c (f : Mv → Int) (fq : FuncId) (l : List Mv) (p : Option Addr) (c : Nat) (w : World) (hl : RO 2 Mv.cells w p l) (hn : 0 < l.length) (hn2 : l.length ≤ 1000) (hf : IsFn Try.prog fq) (hq : ∀ {L : List Res} (w2 : World) (m n : Mv), St (bs w) L w2 → Calls Try.prog fq #[mvV m, mvV n] w2 fun e w' => e = .returned (.int .i64 (ordI (f m) (f n))) ∧ St (bs w2) [] w') :
  Calls Try.prog 88 #[.slice p l.length c, .func (.func fq) #[] #[]] w fun e w' => ∃ m : Mv, (m ∈ l ∧ ∀ i x, i < l.length → l[i]? = some x → f m ≤ f x) ∧ e = .returned (mvV m) ∧ St (bs w) [] w' := by
  obtain ⟨m0, h0x⟩ := get_ex (l := l) (n := 0) (by omega)
  refine enter (vs := [_,_]) (env := [(0,_), (1,_)]) Try.func88 rfl rfl rfl rfl ?_
  refine VC.seq ?_
  refine VC.reg (VO.h rfl<|HO.alloc (C := #[_,_]) Z85 rfl fun b1 => VO.nil ?_)
  refine VE.seqN ?_
  refine VC.seq ?_
  refine VC.seq ?_
  refine VC.reg (VO.l (LO.mv (.r rfl)) rfl<|VO.l (LO.len S53 (.r rfl) rfl) rfl<|VO.l (LO.lt (.r rfl) (.r rfl)) rfl<|VO.nil ?_)
  refine VE.seqN ?_
  refine VC.cond rfl (fun h9 => ?_) (fun h9 => ?_)
  ·
    (exfalso; omega)
  ·
    refine VC.skip (VE.seqN ?_)
    refine VC.seq ?_
    refine VC.reg (VO.l (LO.mv (.r rfl)) rfl<|VO.l (LO.ixs S53 N85 hl.sm (.r rfl) (.r rfl) (j := 0) rfl (by omega)) rfl<|VO.l (LO.lda (vs := [_,_]) A85 (.r rfl) (fun w hw => cells_part (off := 0) ((fun w3 h3 => RO.cel (hl.keep w3 h3) h0x) w hw) ⟨_, rfl⟩) rfl) rfl<|VO.h rfl<|HO.alloc (C := #[_,_]) Z85 rfl fun b2 => VO.h0<|HO.st 0 (vs := [_,_]) (C' := [_,_]) (L' := [_,_]) N85 rfl rfl rfl rfl rfl rfl rfl rfl<|VO.nil ?_)
    refine VE.seqN ?_
    refine VC.seq ?_
    refine VC.seq ?_
    refine VC.reg (VO.l (LO.as (.r rfl)) rfl<|VO.nil ?_)
    refine VE.seqN ?_
    refine VC.block ?_
    refine VC.loopK (α := Nat × Mv) 1 (fun gx => [(6, .int .i64 (gx.1 : Nat))]) [(0,_), (1,_), (4,_), (5,_)] (fun gx => [blk b2 (.cells #[.int .i64 gx.2.x, .int .i64 gx.2.y] 85)]) (fun gx => (1 ≤ gx.1 ∧ gx.1 ≤ l.length) ∧ gx.2 ∈ l ∧ ∀ k y, k < gx.1 → l[k]? = some y → f gx.2 ≤ f y) (fun gx => l.length - gx.1) (1, m0) (by exact ⟨⟨Nat.le_refl _, hn⟩, List.mem_of_getElem? h0x, one_P (P := fun _ y => f m0 ≤ f y) h0x (Int.le_refl _)⟩) (.cons rfl (.cons rfl (.cons rfl (.cons rfl (.cons rfl .nil))))) (fun _ h => h) ?_
    rintro ⟨i, m⟩ ⟨hi, hm, hz⟩
    show VC _ _ _ _ _ ([(6, .int .i64 (i : Nat))] ++ _) ([blk b2 (.cells #[.int .i64 m.x, .int .i64 m.y] 85)] ++ _) _ _
    dsimp only at hi hm hz
    refine VC.seq ?_
    refine VC.seq ?_
    refine VC.reg (VO.l (LO.mv (.r rfl)) rfl<|VO.l (LO.mv (.r rfl)) rfl<|VO.l (LO.len S53 (.r rfl) rfl) rfl<|VO.l (LO.lt (.r rfl) (.r rfl)) rfl<|VO.nil ?_)
    refine VE.seqN ?_
    refine VC.cond rfl (fun h17 => ?_) (fun h17 => ?_)
    ·
      obtain ⟨x, hx⟩ := get_ex (l := l) (n := i) (by omega)
      refine VC.skip (VE.seqN ?_)
      refine VC.seq ?_
      refine VC.block ?_
      refine VC.seq ?_
      refine VC.draw mixed (LL.l (LO.mv (.r rfl)) rfl<|LL.l (LO.mv (.r rfl)) rfl<|LL.l (LO.mv (.r rfl)) rfl<|LL.l (LO.ixs S53 N85 hl.sm (.r rfl) (.r rfl) rfl (by omega)) rfl<|LL.l (LO.lda (vs := [_,_]) A85 (.r rfl) (fun w hw => cells_part (off := 0) ((fun w3 h3 => RO.cel (hl.keep w3 h3) hx) w hw) ⟨_, rfl⟩) rfl) rfl<|LL.l (LO.lda (vs := [_,_]) A85 (.r rfl) (fun _ hw => cells_at hw 0 rfl ⟨_, rfl⟩) rfl) rfl<|LL.l (LO.callv (first := []) (cap := []) (xs := [_,_]) (vs := [_,_]) (.r rfl) hf ⟨.r rfl, .r rfl, trivial⟩ (fun w2 hw2 => hq w2 x m hw2)) rfl<|LL.l (LO.lt (.r rfl) (.r rfl)) rfl<|LL.nil) (by kernel_rfl) ?_
      refine VE.seqN ?_
      refine VC.cond rfl (fun h27 => ?_) (fun h27 => ?_)
      ·
        refine VC.reg (VO.l (LO.mv (.r rfl)) rfl<|VO.l (LO.mv (.r rfl)) rfl<|VO.l (LO.ixs S53 N85 hl.sm (.r rfl) (.r rfl) rfl (by omega)) rfl<|VO.l (LO.lda (vs := [_,_]) A85 (.r rfl) (fun w hw => cells_part (off := 0) ((fun w3 h3 => RO.cel (hl.keep w3 h3) hx) w hw) ⟨_, rfl⟩) rfl) rfl<|VO.h0<|HO.st 0 (vs := [_,_]) (C' := [_,_]) (L' := [_,_]) N85 rfl rfl rfl rfl rfl rfl rfl rfl<|VO.nil ?_)
        refine VE.inN (VE.seqN ?_)
        refine VC.reg (VO.l (LO.mv (.r rfl)) rfl<|VO.l (LO.add (.r rfl) (.r rfl) (wi (by omega) (by omega))) rfl<|VO.l (LO.as (.r rfl)) rfl<|VO.nil ?_)
        refine VE.thenN fun a w ha hw => ⟨(i + 1, x), ⟨by dsimp only; omega, List.mem_of_getElem? hx, step_P (P := fun _ y => f x ≤ f y) (fun k y hk hy => by have := hz k y hk hy; have := ord_lt.1 h27; omega) hx (Int.le_refl _)⟩, (by dsimp only; omega), ha.sub (.cons rfl (.cons rfl (.cons rfl (.cons rfl (.cons rfl .nil))))), hw⟩
      ·
        refine VC.skip (VE.inN (VE.seqN ?_))
        refine VC.reg (VO.l (LO.mv (.r rfl)) rfl<|VO.l (LO.add (.r rfl) (.r rfl) (wi (by omega) (by omega))) rfl<|VO.l (LO.as (.r rfl)) rfl<|VO.nil ?_)
        refine VE.thenN fun a w ha hw => ⟨(i + 1, m), ⟨by dsimp only; omega, hm, step_P (P := fun _ y => f m ≤ f y) hz hx (Int.not_lt.1 fun z => h27 (ord_lt.2 z))⟩, (by dsimp only; omega), ha.sub (.cons rfl (.cons rfl (.cons rfl (.cons rfl (.cons rfl .nil))))), hw⟩
    ·
      refine VC.exit (VE.thenX (VE.thenX (VE.inX (VE.seqN ?_))))
      refine VC.seq ?_
      refine VC.reg (VO.l (LO.lda (vs := [_,_]) A85 (.r rfl) (fun _ hw => cells_at hw 0 rfl ⟨_, rfl⟩) rfl) rfl<|VO.h0<|HO.st 1 (vs := [_,_]) (C' := [_,_]) (L' := [_,_]) N85 rfl rfl rfl rfl rfl rfl rfl rfl<|VO.nil ?_)
      refine VE.seqN ?_
      refine VC.ret (VE.res (vs := [_]) rfl ⟨RV.agg (vs := [_,_]) A85 rfl (cells_blk 1 rfl ⟨_, rfl⟩) rfl, trivial⟩ (fun w hw => ?_))
      exact ⟨m, ⟨hm, fun k y hk hy => hz k y (by omega) hy⟩, rfl, hw.nil⟩

set_option maxRecDepth 20000 in
theorem MaxFunc_c (f : Mv → Int) (fq : FuncId) (l : List Mv) (p : Option Addr) (c : Nat) (w : World) (hl : RO 2 Mv.cells w p l) (hn : 0 < l.length) (hn2 : l.length ≤ 1000) (hf : IsFn Try.prog fq) (hq : ∀ {L : List Res} (w2 : World) (m n : Mv), St (bs w) L w2 → Calls Try.prog fq #[mvV m, mvV n] w2 fun e w' => e = .returned (.int .i64 (ordI (f m) (f n))) ∧ St (bs w2) [] w') :
  Calls Try.prog 89 #[.slice p l.length c, .func (.func fq) #[] #[]] w fun e w' => ∃ m : Mv, (m ∈ l ∧ ∀ i x, i < l.length → l[i]? = some x → f x ≤ f m) ∧ e = .returned (mvV m) ∧ St (bs w) [] w' := by
  obtain ⟨m0, h0x⟩ := get_ex (l := l) (n := 0) (by omega)
  refine enter (vs := [_,_]) (env := [(0,_), (1,_)]) Try.func89 rfl rfl rfl rfl ?_
  refine VC.seq ?_
  refine VC.reg (VO.h rfl<|HO.alloc (C := #[_,_]) Z85 rfl fun b1 => VO.nil ?_)
  refine VE.seqN ?_
  refine VC.seq ?_
  refine VC.seq ?_
  refine VC.reg (VO.l (LO.mv (.r rfl)) rfl<|VO.l (LO.len S53 (.r rfl) rfl) rfl<|VO.l (LO.lt (.r rfl) (.r rfl)) rfl<|VO.nil ?_)
  refine VE.seqN ?_
  refine VC.cond rfl (fun h9 => ?_) (fun h9 => ?_)
  ·
    (exfalso; omega)
  ·
    refine VC.skip (VE.seqN ?_)
    refine VC.seq ?_
    refine VC.reg (VO.l (LO.mv (.r rfl)) rfl<|VO.l (LO.ixs S53 N85 hl.sm (.r rfl) (.r rfl) (j := 0) rfl (by omega)) rfl<|VO.l (LO.lda (vs := [_,_]) A85 (.r rfl) (fun w hw => cells_part (off := 0) ((fun w3 h3 => RO.cel (hl.keep w3 h3) h0x) w hw) ⟨_, rfl⟩) rfl) rfl<|VO.h rfl<|HO.alloc (C := #[_,_]) Z85 rfl fun b2 => VO.h0<|HO.st 0 (vs := [_,_]) (C' := [_,_]) (L' := [_,_]) N85 rfl rfl rfl rfl rfl rfl rfl rfl<|VO.nil ?_)
    refine VE.seqN ?_
    refine VC.seq ?_
    refine VC.seq ?_
    refine VC.reg (VO.l (LO.as (.r rfl)) rfl<|VO.nil ?_)
    refine VE.seqN ?_
    refine VC.block ?_
    refine VC.loopK (α := Nat × Mv) 1 (fun gx => [(6, .int .i64 (gx.1 : Nat))]) [(0,_), (1,_), (4,_), (5,_)] (fun gx => [blk b2 (.cells #[.int .i64 gx.2.x, .int .i64 gx.2.y] 85)]) (fun gx => (1 ≤ gx.1 ∧ gx.1 ≤ l.length) ∧ gx.2 ∈ l ∧ ∀ k y, k < gx.1 → l[k]? = some y → f y ≤ f gx.2) (fun gx => l.length - gx.1) (1, m0) (by exact ⟨⟨Nat.le_refl _, hn⟩, List.mem_of_getElem? h0x, one_P (P := fun _ y => f y ≤ f m0) h0x (Int.le_refl _)⟩) (.cons rfl (.cons rfl (.cons rfl (.cons rfl (.cons rfl .nil))))) (fun _ h => h) ?_
    rintro ⟨i, m⟩ ⟨hi, hm, hz⟩
    show VC _ _ _ _ _ ([(6, .int .i64 (i : Nat))] ++ _) ([blk b2 (.cells #[.int .i64 m.x, .int .i64 m.y] 85)] ++ _) _ _
    dsimp only at hi hm hz
    refine VC.seq ?_
    refine VC.seq ?_
    refine VC.reg (VO.l (LO.mv (.r rfl)) rfl<|VO.l (LO.mv (.r rfl)) rfl<|VO.l (LO.len S53 (.r rfl) rfl) rfl<|VO.l (LO.lt (.r rfl) (.r rfl)) rfl<|VO.nil ?_)
    refine VE.seqN ?_
    refine VC.cond rfl (fun h17 => ?_) (fun h17 => ?_)
    ·
      obtain ⟨x, hx⟩ := get_ex (l := l) (n := i) (by omega)
      refine VC.skip (VE.seqN ?_)
      refine VC.seq ?_
      refine VC.block ?_
      refine VC.seq ?_
      refine VC.draw mixed (LL.l (LO.mv (.r rfl)) rfl<|LL.l (LO.mv (.r rfl)) rfl<|LL.l (LO.mv (.r rfl)) rfl<|LL.l (LO.ixs S53 N85 hl.sm (.r rfl) (.r rfl) rfl (by omega)) rfl<|LL.l (LO.lda (vs := [_,_]) A85 (.r rfl) (fun w hw => cells_part (off := 0) ((fun w3 h3 => RO.cel (hl.keep w3 h3) hx) w hw) ⟨_, rfl⟩) rfl) rfl<|LL.l (LO.lda (vs := [_,_]) A85 (.r rfl) (fun _ hw => cells_at hw 0 rfl ⟨_, rfl⟩) rfl) rfl<|LL.l (LO.callv (first := []) (cap := []) (xs := [_,_]) (vs := [_,_]) (.r rfl) hf ⟨.r rfl, .r rfl, trivial⟩ (fun w2 hw2 => hq w2 x m hw2)) rfl<|LL.l (LO.gt (.r rfl) (.r rfl)) rfl<|LL.nil) (by kernel_rfl) ?_
      refine VE.seqN ?_
      refine VC.cond rfl (fun h27 => ?_) (fun h27 => ?_)
      ·
        refine VC.reg (VO.l (LO.mv (.r rfl)) rfl<|VO.l (LO.mv (.r rfl)) rfl<|VO.l (LO.ixs S53 N85 hl.sm (.r rfl) (.r rfl) rfl (by omega)) rfl<|VO.l (LO.lda (vs := [_,_]) A85 (.r rfl) (fun w hw => cells_part (off := 0) ((fun w3 h3 => RO.cel (hl.keep w3 h3) hx) w hw) ⟨_, rfl⟩) rfl) rfl<|VO.h0<|HO.st 0 (vs := [_,_]) (C' := [_,_]) (L' := [_,_]) N85 rfl rfl rfl rfl rfl rfl rfl rfl<|VO.nil ?_)
        refine VE.inN (VE.seqN ?_)
        refine VC.reg (VO.l (LO.mv (.r rfl)) rfl<|VO.l (LO.add (.r rfl) (.r rfl) (wi (by omega) (by omega))) rfl<|VO.l (LO.as (.r rfl)) rfl<|VO.nil ?_)
        refine VE.thenN fun a w ha hw => ⟨(i + 1, x), ⟨by dsimp only; omega, List.mem_of_getElem? hx, step_P (P := fun _ y => f y ≤ f x) (fun k y hk hy => by have := hz k y hk hy; have := ord_gt.1 h27; omega) hx (Int.le_refl _)⟩, (by dsimp only; omega), ha.sub (.cons rfl (.cons rfl (.cons rfl (.cons rfl (.cons rfl .nil))))), hw⟩
      ·
        refine VC.skip (VE.inN (VE.seqN ?_))
        refine VC.reg (VO.l (LO.mv (.r rfl)) rfl<|VO.l (LO.add (.r rfl) (.r rfl) (wi (by omega) (by omega))) rfl<|VO.l (LO.as (.r rfl)) rfl<|VO.nil ?_)
        refine VE.thenN fun a w ha hw => ⟨(i + 1, m), ⟨by dsimp only; omega, hm, step_P (P := fun _ y => f y ≤ f m) hz hx (Int.not_lt.1 fun z => h27 (ord_gt.2 z))⟩, (by dsimp only; omega), ha.sub (.cons rfl (.cons rfl (.cons rfl (.cons rfl (.cons rfl .nil))))), hw⟩
    ·
      refine VC.exit (VE.thenX (VE.thenX (VE.inX (VE.seqN ?_))))
      refine VC.seq ?_
      refine VC.reg (VO.l (LO.lda (vs := [_,_]) A85 (.r rfl) (fun _ hw => cells_at hw 0 rfl ⟨_, rfl⟩) rfl) rfl<|VO.h0<|HO.st 1 (vs := [_,_]) (C' := [_,_]) (L' := [_,_]) N85 rfl rfl rfl rfl rfl rfl rfl rfl<|VO.nil ?_)
      refine VE.seqN ?_
      refine VC.ret (VE.res (vs := [_]) rfl ⟨RV.agg (vs := [_,_]) A85 rfl (cells_blk 1 rfl ⟨_, rfl⟩) rfl, trivial⟩ (fun w hw => ?_))
      exact ⟨m, ⟨hm, fun k y hk hy => hz k y (by omega) hy⟩, rfl, hw.nil⟩

set_option maxRecDepth 20000 in
theorem Hull_c (l : List Mv) (p : Option Addr) (c : Nat) (w : World) (hl : RO 2 Mv.cells w p l) (hn : l.length ≤ 1000) :
  Calls Try.prog 42 #[.slice p l.length c] w fun e w' => e = .returned (hullV l) ∧ St (bs w) [] w' := by
  refine enter (vs := [_]) (env := [(0,_)]) Try.func42 rfl rfl rfl rfl ?_
  refine VC.seq ?_
  refine VC.reg (VO.h rfl<|HO.alloc (C := #[_,_]) Z71 rfl fun b1 => VO.h rfl<|HO.alloc (C := #[_,_]) Z71 rfl fun b2 => VO.l (LO.as (.r rfl)) rfl<|VO.nil ?_)
  refine VE.seqN ?_
  refine VC.seq ?_
  refine VC.seq ?_
  refine VC.reg (VO.l (LO.mv (.r rfl)) rfl<|VO.l (LO.len S53 (.r rfl) rfl) rfl<|VO.l (LO.eq (.r rfl) (.r rfl)) rfl<|VO.nil ?_)
  refine VE.seqN ?_
  refine VC.cond rfl (fun h9 => ?_) (fun h9 => ?_)
  ·
    refine VC.seq ?_
    refine VC.reg (VO.l (LO.bd (ps := []) (vs := []) (C := [_,_]) B71  trivial rfl rfl) rfl<|VO.l (LO.bd (ps := []) (vs := []) (C := [_,_]) B71  trivial rfl rfl) rfl<|VO.h0<|HO.st 1 (vs := [_,_]) (C' := [_,_]) (L' := [_,_]) N71 rfl rfl rfl rfl rfl rfl rfl rfl<|VO.h0<|HO.st 0 (vs := [_,_]) (C' := [_,_]) (L' := [_,_]) N71 rfl rfl rfl rfl rfl rfl rfl rfl<|VO.l (LO.as (.r rfl)) rfl<|VO.nil ?_)
    refine VE.seqN ?_
    refine VC.ret (VE.thenR (VE.res (vs := [_,_,_]) rfl ⟨RV.agg (vs := [_,_]) A71 rfl (cells_blk 1 rfl ⟨_, rfl⟩) rfl, RV.agg (vs := [_,_]) A71 rfl (cells_blk 0 rfl ⟨_, rfl⟩) rfl, rfl, trivial⟩ (fun w hw => ?_)))
    have hz := hull_nil h9
    subst hz
    exact ⟨rfl, hw.nil⟩
  ·
    refine VC.skip (VE.seqN ?_)
    refine VC.seq ?_
    refine VC.reg (VO.l (LO.as (.r rfl)) rfl<|VO.nil ?_)
    refine VE.seqN ?_
    refine VC.seq ?_
    refine VC.reg (VO.l (LO.as (.r rfl)) rfl<|VO.nil ?_)
    refine VE.seqN ?_
    refine VC.seq ?_
    refine VC.reg (VO.l (LO.mv (.r rfl)) rfl<|VO.l (LO.mv (.r rfl)) rfl<|VO.h rfl<|HO.callx (xs := [_,_]) (vs := [_,_]) C88 ⟨(.r rfl), (.r rfl), trivial⟩ (fun w2 hw => MinFunc_c Mv.x 85 l p c w2 (hl.keep w2 hw) (by omega) hn C85 (fun w3 m n h3 => byX_c m n w3)) fun m1 hm1 => VO.h rfl<|HO.lo (LO.fd1 (F := _) Try.underlying85 rfl rfl O3 (.r rfl) rfl)<|VO.l (LO.mv (.r rfl)) rfl<|VO.l (LO.mv (.r rfl)) rfl<|VO.h rfl<|HO.callx (xs := [_,_]) (vs := [_,_]) C89 ⟨(.r rfl), (.r rfl), trivial⟩ (fun w2 hw => MaxFunc_c Mv.x 85 l p c w2 (hl.keep w2 hw) (by omega) hn C85 (fun w3 m n h3 => byX_c m n w3)) fun m2 hm2 => VO.h rfl<|HO.lo (LO.fd1 (F := _) Try.underlying85 rfl rfl O3 (.r rfl) rfl)<|VO.h rfl<|HO.lo (LO.bd (ps := [(_,_), (_,_)]) (vs := [(_,_), (_,_)]) (C := [_,_]) B71  ⟨(.r rfl), (.r rfl), trivial⟩ rfl ⟨_, [_], [_,_], rfl, rfl, rfl, rfl, ⟨_, [_], [_,_], rfl, rfl, rfl, rfl, rfl⟩⟩)<|VO.h0<|HO.st 1 (vs := [_,_]) (C' := [_,_]) (L' := [_,_]) N71 rfl rfl rfl rfl rfl rfl rfl rfl<|VO.nil ?_)
    refine VE.seqN ?_
    refine VC.seq ?_
    refine VC.reg (VO.l (LO.mv (.r rfl)) rfl<|VO.l (LO.mv (.r rfl)) rfl<|VO.h rfl<|HO.callx (xs := [_,_]) (vs := [_,_]) C88 ⟨(.r rfl), (.r rfl), trivial⟩ (fun w2 hw => MinFunc_c Mv.y 87 l p c w2 (hl.keep w2 hw) (by omega) hn C87 (fun w3 m n h3 => byY_c m n w3)) fun m3 hm3 => VO.h rfl<|HO.lo (LO.fd1 (F := _) Try.underlying85 rfl rfl O3 (.r rfl) rfl)<|VO.l (LO.mv (.r rfl)) rfl<|VO.l (LO.mv (.r rfl)) rfl<|VO.h rfl<|HO.callx (xs := [_,_]) (vs := [_,_]) C89 ⟨(.r rfl), (.r rfl), trivial⟩ (fun w2 hw => MaxFunc_c Mv.y 87 l p c w2 (hl.keep w2 hw) (by omega) hn C87 (fun w3 m n h3 => byY_c m n w3)) fun m4 hm4 => VO.h rfl<|HO.lo (LO.fd1 (F := _) Try.underlying85 rfl rfl O3 (.r rfl) rfl)<|VO.h rfl<|HO.lo (LO.bd (ps := [(_,_), (_,_)]) (vs := [(_,_), (_,_)]) (C := [_,_]) B71  ⟨(.r rfl), (.r rfl), trivial⟩ rfl ⟨_, [_], [_,_], rfl, rfl, rfl, rfl, ⟨_, [_], [_,_], rfl, rfl, rfl, rfl, rfl⟩⟩)<|VO.h0<|HO.st 0 (vs := [_,_]) (C' := [_,_]) (L' := [_,_]) N71 rfl rfl rfl rfl rfl rfl rfl rfl<|VO.nil ?_)
    refine VE.seqN ?_
    refine VC.seq ?_
    refine VC.drawH [[0,1], [0], []] [some 0, some 1, none, none, some 2] mixed (by kernel_rfl) rfl (LX.l (fun _ hJ => LO.lda (vs := [_,_]) A71 (.r rfl) (fun _ hw => cells_at (hJ _ hw) 1 rfl ⟨_, rfl⟩) rfl) rfl<|LX.l (fun _ hJ => LO.lda (vs := [_,_]) A71 (.r rfl) (fun _ hw => cells_at (hJ _ hw) 0 rfl ⟨_, rfl⟩) rfl) rfl<|LX.s<|LX.s<|LX.l (fun _ hJ => LO.as (.r rfl)) rfl<|LX.nil) (HX.s<|HX.s<|HX.h0<|HO.st 1 (vs := [_,_]) (C' := [_,_]) (L' := [_,_]) N71 rfl rfl rfl rfl rfl rfl rfl rfl<|⟨fun _ hw => hw.sel [0] rfl, HX.h0<|HO.st 0 (vs := [_,_]) (C' := [_,_]) (L' := [_,_]) N71 rfl rfl rfl rfl rfl rfl rfl rfl<|⟨fun _ hw => hw.sel [] rfl, HX.s<|HX.nil ?_⟩⟩)
    refine VE.seqN ?_
    refine VC.ret (VE.res (vs := [_,_,_]) rfl ⟨RV.agg (vs := [_,_]) A71 rfl (cells_blk 1 rfl ⟨_, rfl⟩) rfl, RV.agg (vs := [_,_]) A71 rfl (cells_blk 0 rfl ⟨_, rfl⟩) rfl, rfl, trivial⟩ (fun w hw => ?_))
    refine ⟨?_, hw.nil⟩
    show Ending.returned _ = Ending.returned (hullV l)
    unfold hullV
    rw [← lo_of hm1.1 hm1.2, ← hi_of hm2.1 hm2.2, ← lo_of hm3.1 hm3.2, ← hi_of hm4.1 hm4.2, hullE_ne h9]
    rfl

end Go.Proofs.Ytgemekpofpoopaa

namespace Go.Proofs.Ytgemekpofpoopaa
open Go.SL Go.Proofs Go.Cast Go.Cell
set_option linter.unusedVariables false

theorem F63_0 : FieldAt Try.prog 63 0 0 := ⟨_,_, Try.underlying63, rfl, rfl, 0, by kernel_rfl⟩
theorem O5 : IsOne Try.prog 5 := ⟨⟨_, Try.underlying5, rfl⟩, by kernel_rfl⟩
theorem F63_1 : FieldAt Try.prog 63 1 1 := ⟨_,_, Try.underlying63, rfl, rfl, 0, by kernel_rfl⟩
theorem F63_2 : FieldAt Try.prog 63 2 2 := ⟨_,_, Try.underlying63, rfl, rfl, 0, by kernel_rfl⟩
theorem O61 : IsOne Try.prog 61 := ⟨⟨_, Try.underlying61, rfl⟩, by kernel_rfl⟩
theorem S61 : IsSlice Try.prog 61 5 := Try.underlying61
theorem N5 : (Try.prog.info? 5).map (·.size) = some 1 := by kernel_rfl
theorem F63_3 : FieldAt Try.prog 63 3 3 := ⟨_,_, Try.underlying63, rfl, rfl, 0, by kernel_rfl⟩


abbrev uC (n : Nat) : List Value := [.int .u8 (n : Int)]
structure MapA where
  w : Nat
  h : Nat
  pl : Option Addr
  cl : Nat
  lo : List Nat
  pm : Option Addr
  cm : Nat
  mo : List Nat
def MapA.cells (x : MapA) : List Value := [.int .u8 (x.w : Int), .int .u8 (x.h : Int), .slice x.pl x.lo.length x.cl, .slice x.pm x.mo.length x.cm]
abbrev MapA.V (x : MapA) : Value := .agg #[.int .u8 (x.w : Int), .int .u8 (x.h : Int), .slice x.pl x.lo.length x.cl, .slice x.pm x.mo.length x.cm]
structure MapI (w : World) (x : MapA) : Prop where
  lo : RO 1 uC w x.pl x.lo
  mo : RO 1 uC w x.pm x.mo
structure MapK (x : MapA) : Prop where
  w : x.w ≤ 255
  h : x.h ≤ 255
  lo : ∀ n, n ∈ x.lo → n ≤ 255
  mo : ∀ n, n ∈ x.mo → n ≤ 255
  ll : x.lo.length ≤ 9223372036854775807
  ml : x.mo.length ≤ 9223372036854775807
theorem MapI.keep {w0 : World} {x : MapA} (h : MapI w0 x) : ∀ {L : List Res} (w : World), St (bs w0) L w → MapI w x := fun w hw => ⟨h.lo.keep w hw, h.mo.keep w hw⟩
def vAt (l : List Nat) (m i : Nat) : Nat := if 0 < l.length then l.getD (i % l.length) 0 % m else 0
def mapW (x : MapA) : Nat := 1 + x.w % 6
def mapH (x : MapA) : Nat := 1 + x.h % 6
abbrev mapG (x : MapA) : Grid := ⟨0,0,1000, (mapW x : Int), (mapH x : Int)⟩
def mapAt (x : MapA) (i : Nat) : Span := ⟨((vAt x.lo 40 i : Nat) : Int), ((vAt x.lo 40 i : Nat) : Int) + ((vAt x.mo 30 i : Nat) : Int)⟩
def mapTo (x : MapA) (k : Nat) : List Span := (List.range k).map (mapAt x)
def mapVs (x : MapA) : List Span := mapTo x (mapW x * mapH x)
theorem mapTo_succ {x : MapA} {k : Nat} : mapTo x (k + 1) = mapTo x k ++ [mapAt x k] := by unfold mapTo; rw [List.range_succ, List.map_append]; rfl
theorem mapTo_len {x : MapA} {k : Nat} : (mapTo x k).length = k := by unfold mapTo; simp
theorem map_wh (x : MapA) : 1 ≤ mapW x ∧ mapW x ≤ 6 ∧ 1 ≤ mapH x ∧ mapH x ≤ 6 := by unfold mapW mapH; omega
theorem map_area (x : MapA) : mapW x * mapH x ≤ 36 := by obtain ⟨_, h1,_, h2⟩ := map_wh x; exact Nat.mul_le_mul h1 h2
theorem mod_i {n m : Nat} : ((n : Int)).tmod (m : Int) = ((n % m : Nat) : Int) := rfl
theorem vAt_t {l : List Nat} {m i n : Nat} (hn : l[i % l.length]? = some n) : vAt l m i = n % m := by
  have h : 0 < l.length := by have := (List.getElem?_eq_some_iff.1 hn).1; omega
  unfold vAt; rw [if_pos h, List.getD_eq_getElem?_getD, hn]; rfl
theorem vAt_f {l : List Nat} {m i : Nat} (h : ¬ (0 : Int) < (l.length : Int)) : vAt l m i = 0 := by unfold vAt; rw [if_neg (by omega)]
theorem map_eq {x : MapA} {k : Nat} {ml : List Span} {s : Span} (h : ml = mapTo x k) (e : s = mapAt x k) : ml ++ [s] = mapTo x (k + 1) := by rw [h, e, mapTo_succ]
theorem cv8 {n : Nat} (h : n ≤ 255) : IntKind.wrap .i64 ((n : Nat) : Int) = ((n : Nat) : Int) := wi (by omega) (by omega)

set_option maxRecDepth 20000 in
set_option maxHeartbeats 8000000 in
theorem field_c (x : MapA) (w : World) (hx : MapI w x) (hk : MapK x) :
  Calls Try.prog 33 #[x.V] w fun e w' => ∃ y : SlY, True ∧ e = .returned (fieldV (mapG x) y.p (mapVs x).length y.c) ∧ St (bs w) [own 71 2 y.p y.c ((mapVs x).map Span.cells)] w' := by
  obtain ⟨hw1, hw2, hh1, hh2⟩ := map_wh x
  have har := map_area x
  have hkw := hk.w
  have hkh := hk.h
  have hll := hk.ll
  have hml := hk.ml
  refine enter (vs := [_]) (env := [(0,_)]) Try.func33 rfl rfl rfl rfl ?_
  refine VC.seq ?_
  refine VC.reg (VO.h rfl<|HO.box (C := #[_,_,_,_]) rfl rfl fun b1 => VO.h rfl<|HO.alloc (C := #[_,_,_,_,_,_]) Z26 rfl fun b2 => VO.nil ?_)
  refine VE.seqN ?_
  refine VC.seq ?_
  refine VC.reg (VO.l (LO.fa (r := 0) F63_0 (.r rfl) rfl) rfl<|VO.l (LO.ld O5 (.r rfl) (fun _ hw => cells_at hw 1 rfl ⟨_, rfl⟩)) rfl<|VO.l (LO.cv ⟨_, Try.underlying5⟩ Try.underlying3 (.r rfl) (cv8 hkw)) rfl<|VO.l (LO.eqv (LO.rem (.r rfl) (.r rfl) (by omega)) (congrArg (Value.int .i64) (mod_i (m := 6)))) rfl<|VO.l (LO.eqv (LO.add (.r rfl) (.r rfl) (wi (by omega) (by omega))) (congrArg (Value.int .i64) (show (1 : Int) + ((x.w % 6 : Nat) : Int) = ((mapW x : Nat) : Int) by unfold mapW; push_cast; rfl))) rfl<|VO.l (LO.fa (r := 1) F63_1 (.r rfl) rfl) rfl<|VO.l (LO.ld O5 (.r rfl) (fun _ hw => cells_at hw 1 rfl ⟨_, rfl⟩)) rfl<|VO.l (LO.cv ⟨_, Try.underlying5⟩ Try.underlying3 (.r rfl) (cv8 hkh)) rfl<|VO.l (LO.eqv (LO.rem (.r rfl) (.r rfl) (by omega)) (congrArg (Value.int .i64) (mod_i (m := 6)))) rfl<|VO.l (LO.eqv (LO.add (.r rfl) (.r rfl) (wi (by omega) (by omega))) (congrArg (Value.int .i64) (show (1 : Int) + ((x.h % 6 : Nat) : Int) = ((mapH x : Nat) : Int) by unfold mapH; push_cast; rfl))) rfl<|VO.l (LO.bd (ps := [(_,_), (_,_), (_,_)]) (vs := [(_,_), (_,_), (_,_)]) (C := [_,_,_,_,_]) B23  ⟨(.r rfl), (.r rfl), (.r rfl), trivial⟩ rfl ⟨_, [_], [_,_,_,_,_], rfl, rfl, rfl, rfl, ⟨_, [_], [_,_,_,_,_], rfl, rfl, rfl, rfl, ⟨_, [_], [_,_,_,_,_], rfl, rfl, rfl, rfl, rfl⟩⟩⟩) rfl<|VO.l (LO.bd (ps := [(_,_)]) (vs := [(_,_)]) (C := [_,_,_,_,_,_]) B26  ⟨(.r rfl), trivial⟩ rfl ⟨_, [_,_,_,_,_], [_,_,_,_,_,_], rfl, rfl, rfl, rfl, rfl⟩) rfl<|VO.h rfl<|HO.alloc (C := #[_,_,_,_,_,_]) Z26 rfl fun b3 => VO.h0<|HO.st 0 (vs := [_,_,_,_,_,_]) (C' := [_,_,_,_,_,_]) (L' := [_,_,_]) N26 rfl rfl rfl rfl rfl rfl rfl rfl<|VO.nil ?_)
  refine VE.seqN ?_
  refine VC.seq ?_
  refine VC.seq ?_
  refine VC.reg (VO.l (LO.fa (r := 0) F26_0 (.r rfl) rfl) rfl<|VO.l (LO.fa (r := 3) F23_3 (.r rfl) rfl) rfl<|VO.l (LO.ld O3 (.r rfl) (fun _ hw => cells_at hw 0 rfl ⟨_, rfl⟩)) rfl<|VO.l (LO.fa (r := 0) F26_0 (.r rfl) rfl) rfl<|VO.l (LO.fa (r := 4) F23_4 (.r rfl) rfl) rfl<|VO.l (LO.ld O3 (.r rfl) (fun _ hw => cells_at hw 0 rfl ⟨_, rfl⟩)) rfl<|VO.l (LO.eqv (LO.mul (.r rfl) (.r rfl) (wi (by rw [← Int.natCast_mul]; omega) (by rw [← Int.natCast_mul]; omega))) (congrArg (Value.int .i64) (Int.natCast_mul _ _).symm)) rfl<|VO.l (LO.mv (.r rfl)) rfl<|VO.nil ?_)
  refine VE.seqN ?_
  refine VC.block ?_
  refine VC.loopK (α := Nat × (List Span) × (Option Addr) × Nat) 1 (fun gx => [(25, .int .i64 (gx.1 : Nat))]) [(1,_), (2,_), (3,_), (24,_)] (fun gx => [blk b3 (.cells #[.int .i64 0, .int .i64 0, .int .i64 1000, .int .i64 (mapW x : Int), .int .i64 (mapH x : Int), .slice gx.2.2.1 gx.2.1.length gx.2.2.2] 26), own 71 2 gx.2.2.1 gx.2.2.2 (gx.2.1.map Span.cells)]) (fun gx => gx.1 ≤ mapW x * mapH x ∧ gx.2.1 = mapTo x gx.1) (fun gx => mapW x * mapH x - gx.1) (0, [], none, 0) (by exact ⟨Nat.zero_le _, rfl⟩) (.cons rfl (.cons rfl (.cons rfl (.cons rfl (.cons rfl .nil))))) (fun _ h => ((h.ownNil 71 2)).sel [1,0,2,3] rfl) ?_
  rintro ⟨k, ml, po, co⟩ ⟨hkk, hm⟩
  show VC _ _ _ _ _ ([(25, .int .i64 (k : Nat))] ++ _) ([blk b3 (.cells #[.int .i64 0, .int .i64 0, .int .i64 1000, .int .i64 (mapW x : Int), .int .i64 (mapH x : Int), .slice po ml.length co] 26), own 71 2 po co (ml.map Span.cells)] ++ _) _ _
  dsimp only at hkk hm
  have hmll : ml.length = k := by rw [hm, mapTo_len]
  refine VC.seq ?_
  refine VC.reg (VO.l (LO.lt (.r rfl) (.r rfl)) rfl<|VO.nil ?_)
  refine VE.seqN ?_
  refine VC.seq ?_
  refine VC.cond rfl (fun h26 => ?_) (fun h26 => ?_)
  ·
    refine VC.skip (VE.seqN ?_)
    refine VC.seq ?_
    refine VC.block ?_
    refine VC.seq ?_
    refine VC.reg (VO.l (LO.mv (.r rfl)) rfl<|VO.l (LO.as (.r rfl)) rfl<|VO.nil ?_)
    refine VE.seqN ?_
    refine VC.seq ?_
    refine VC.reg (VO.l (LO.bd (ps := []) (vs := []) (C := [_,_]) B71  trivial rfl rfl) rfl<|VO.h rfl<|HO.alloc (C := #[_,_]) Z71 rfl fun b7 => VO.h0<|HO.st 0 (vs := [_,_]) (C' := [_,_]) (L' := [_,_,_,_,_]) N71 rfl rfl rfl rfl rfl rfl rfl rfl<|VO.nil ?_)
    refine VE.seqN ?_
    refine VC.seq ?_
    refine VC.seq ?_
    refine VC.reg (VO.l (LO.fa (r := 2) F63_2 (.r rfl) rfl) rfl<|VO.l (LO.ld O61 (.r rfl) (fun _ hw => cells_at hw 4 rfl ⟨_, rfl⟩)) rfl<|VO.l (LO.len S61 (.r rfl) rfl) rfl<|VO.l (LO.gt (.r rfl) (.r rfl)) rfl<|VO.nil ?_)
    refine VE.seqN ?_
    refine VC.cond rfl (fun h32 => ?_) (fun h32 => ?_)
    ·
      have hnl : k % x.lo.length < x.lo.length := Nat.mod_lt _ (by omega)
      obtain ⟨nl, hln⟩ := get_ex (l := x.lo) hnl
      have hnl2 := hk.lo nl (List.mem_of_getElem? hln)
      have hz := Int.natCast_nonneg (nl % 40)
      have hzz : nl % 40 < 40 := Nat.mod_lt _ (by omega)
      refine VC.drawH [[0,1,2,3,4], [1,2,3,4]] [some 0, some 0, some 0, some 0, some 0, some 0, some 0, some 0, some 0, some 0, some 0, some 0, none] mixed (by kernel_rfl) rfl (LX.l (fun _ hJ => LO.fa (r := 2) F63_2 (.r rfl) rfl) rfl<|LX.l (fun _ hJ => LO.ld O61 (.r rfl) (fun _ hw => cells_at (hJ _ hw) 4 rfl ⟨_, rfl⟩)) rfl<|LX.l (fun _ hJ => LO.mv (.r rfl)) rfl<|LX.l (fun _ hJ => LO.fa (r := 2) F63_2 (.r rfl) rfl) rfl<|LX.l (fun _ hJ => LO.ld O61 (.r rfl) (fun _ hw => cells_at (hJ _ hw) 4 rfl ⟨_, rfl⟩)) rfl<|LX.l (fun _ hJ => LO.len S61 (.r rfl) rfl) rfl<|LX.l (fun _ hJ => LO.eqv (LO.rem (.r rfl) (.r rfl) (by omega)) (congrArg (Value.int .i64) (mod_i (m := x.lo.length)))) rfl<|LX.l (fun _ hJ => LO.ixs S61 N5 (hx.lo.sm) (.r rfl) (.r rfl) rfl hnl) rfl<|LX.l (fun _ hJ => LO.ld O5 (.r rfl) (fun w hw => cells_part (off := 0) ((fun w3 h3 => RO.cel (hx.keep w3 h3).lo hln) w (hJ _ hw)) ⟨_, rfl⟩)) rfl<|LX.l (fun _ hJ => LO.cv ⟨_, Try.underlying5⟩ Try.underlying3 (.r rfl) (cv8 hnl2)) rfl<|LX.l (fun _ hJ => LO.eqv (LO.rem (.r rfl) (.r rfl) (by omega)) (congrArg (Value.int .i64) (mod_i (m := 40)))) rfl<|LX.l (fun _ hJ => LO.fa (r := 0) F71_0 (.r rfl) rfl) rfl<|LX.s<|LX.nil) (HX.s<|HX.s<|HX.s<|HX.s<|HX.s<|HX.s<|HX.s<|HX.s<|HX.s<|HX.s<|HX.s<|HX.s<|HX.h0<|HO.st 0 (vs := [_]) (C' := [_,_]) (L' := [_,_,_,_,_]) N3 rfl rfl rfl rfl rfl rfl rfl rfl<|⟨fun _ hw => hw.sel [1,2,3,4] rfl, HX.nil ?_⟩)
      refine VE.seqN ?_
      refine VC.seq ?_
      refine VC.reg (VO.l (LO.fa (r := 0) F71_0 (.r rfl) rfl) rfl<|VO.l (LO.ld O3 (.r rfl) (fun _ hw => cells_at hw 0 rfl ⟨_, rfl⟩)) rfl<|VO.l (LO.fa (r := 1) F71_1 (.r rfl) rfl) rfl<|VO.h0<|HO.st 0 (vs := [_]) (C' := [_,_]) (L' := [_,_,_,_,_]) N3 rfl rfl rfl rfl rfl rfl rfl rfl<|VO.nil ?_)
      refine VE.seqN ?_
      refine VC.seq ?_
      refine VC.seq ?_
      refine VC.reg (VO.l (LO.fa (r := 3) F63_3 (.r rfl) rfl) rfl<|VO.l (LO.ld O61 (.r rfl) (fun _ hw => cells_at hw 4 rfl ⟨_, rfl⟩)) rfl<|VO.l (LO.len S61 (.r rfl) rfl) rfl<|VO.l (LO.gt (.r rfl) (.r rfl)) rfl<|VO.nil ?_)
      refine VE.seqN ?_
      refine VC.cond rfl (fun h51 => ?_) (fun h51 => ?_)
      ·
        have hnm : k % x.mo.length < x.mo.length := Nat.mod_lt _ (by omega)
        obtain ⟨nm, hmn⟩ := get_ex (l := x.mo) hnm
        have hnm2 := hk.mo nm (List.mem_of_getElem? hmn)
        have hy : nm % 30 < 30 := Nat.mod_lt _ (by omega)
        refine VC.drawH [[0,1,2,3,4], [1,2,3,4]] [some 0, some 0, some 0, some 0, some 0, some 0, some 0, some 0, some 0, some 0, some 0, some 0, some 0, some 0, some 0, none] mixed (by kernel_rfl) rfl (LX.l (fun _ hJ => LO.fa (r := 1) F71_1 (.r rfl) rfl) rfl<|LX.l (fun _ hJ => LO.ld O3 (.r rfl) (fun _ hw => cells_at (hJ _ hw) 0 rfl ⟨_, rfl⟩)) rfl<|LX.l (fun _ hJ => LO.fa (r := 3) F63_3 (.r rfl) rfl) rfl<|LX.l (fun _ hJ => LO.ld O61 (.r rfl) (fun _ hw => cells_at (hJ _ hw) 4 rfl ⟨_, rfl⟩)) rfl<|LX.l (fun _ hJ => LO.mv (.r rfl)) rfl<|LX.l (fun _ hJ => LO.fa (r := 3) F63_3 (.r rfl) rfl) rfl<|LX.l (fun _ hJ => LO.ld O61 (.r rfl) (fun _ hw => cells_at (hJ _ hw) 4 rfl ⟨_, rfl⟩)) rfl<|LX.l (fun _ hJ => LO.len S61 (.r rfl) rfl) rfl<|LX.l (fun _ hJ => LO.eqv (LO.rem (.r rfl) (.r rfl) (by omega)) (congrArg (Value.int .i64) (mod_i (m := x.mo.length)))) rfl<|LX.l (fun _ hJ => LO.ixs S61 N5 (hx.mo.sm) (.r rfl) (.r rfl) rfl hnm) rfl<|LX.l (fun _ hJ => LO.ld O5 (.r rfl) (fun w hw => cells_part (off := 0) ((fun w3 h3 => RO.cel (hx.keep w3 h3).mo hmn) w (hJ _ hw)) ⟨_, rfl⟩)) rfl<|LX.l (fun _ hJ => LO.cv ⟨_, Try.underlying5⟩ Try.underlying3 (.r rfl) (cv8 hnm2)) rfl<|LX.l (fun _ hJ => LO.eqv (LO.rem (.r rfl) (.r rfl) (by omega)) (congrArg (Value.int .i64) (mod_i (m := 30)))) rfl<|LX.l (fun _ hJ => LO.add (.r rfl) (.r rfl) (wi (by omega) (by omega))) rfl<|LX.l (fun _ hJ => LO.fa (r := 1) F71_1 (.r rfl) rfl) rfl<|LX.s<|LX.nil) (HX.s<|HX.s<|HX.s<|HX.s<|HX.s<|HX.s<|HX.s<|HX.s<|HX.s<|HX.s<|HX.s<|HX.s<|HX.s<|HX.s<|HX.s<|HX.h0<|HO.st 0 (vs := [_]) (C' := [_,_]) (L' := [_,_,_,_,_]) N3 rfl rfl rfl rfl rfl rfl rfl rfl<|⟨fun _ hw => hw.sel [1,2,3,4] rfl, HX.nil ?_⟩)
        refine VE.seqN ?_
        refine VC.reg (VO.l (LO.fa (r := 5) F26_1 (.r rfl) rfl) rfl<|VO.l (LO.ld O24 (.r rfl) (fun _ hw => cells_at hw 1 rfl ⟨_, rfl⟩)) rfl<|VO.l (LO.lda (vs := [_,_]) A71 (.r rfl) (fun _ hw => cells_at hw 0 rfl ⟨_, rfl⟩) rfl) rfl<|VO.h rfl<|HO.bs (ps := [(_,_)]) (vs := [(_,_)]) (Z := [_,_]) (C := [_,_]) S24 Z71 N71 ⟨(.r rfl), trivial⟩ rfl rfl rfl rfl ⟨_, [_,_], [_,_], rfl, rfl, rfl, rfl, rfl⟩ fun b14 => VO.h rfl<|HO.appT ((⟨((nl % 40 : Nat) : Int), ((nl % 40 : Nat) : Int) + ((nm % 30 : Nat) : Int)⟩ : Span)) (f := Span.cells) 3 0 (fun R => [_,_,_, R,_,_]) S24 S24 I71 (.r rfl) (.r rfl) rfl rfl rfl rfl rfl rfl rfl (fun _ => rfl) rfl (by omega) fun p4 c4 => VO.l (LO.fa (r := 5) F26_1 (.r rfl) rfl) rfl<|VO.h0<|HO.st 2 (vs := [_]) (C' := [_,_,_,_,_,_]) (L' := [_,_,_,_,_,_]) N24 rfl rfl rfl rfl rfl rfl rfl rfl<|VO.nil ?_)
        refine VE.inN (VE.seqN ?_)
        refine VC.reg (VO.l (LO.add (.r rfl) (.r rfl) (wi (by omega) (by omega))) rfl<|VO.l (LO.mv (.r rfl)) rfl<|VO.nil ?_)
        refine VE.thenN fun a w ha hw => ⟨(k + 1, ml ++ [(⟨((nl % 40 : Nat) : Int), ((nl % 40 : Nat) : Int) + ((nm % 30 : Nat) : Int)⟩ : Span)], p4, c4), ⟨by dsimp only; omega, map_eq hm (by unfold mapAt; rw [vAt_t hln, vAt_t hmn]; all_goals (first | rfl | simp))⟩, (by dsimp only; omega), ha.sub (.cons rfl (.cons rfl (.cons rfl (.cons rfl (.cons rfl .nil))))), hw.sel [2,3,4,5] rfl⟩
      ·
        refine VC.skip (VE.seqN ?_)
        refine VC.reg (VO.l (LO.fa (r := 5) F26_1 (.r rfl) rfl) rfl<|VO.l (LO.ld O24 (.r rfl) (fun _ hw => cells_at hw 1 rfl ⟨_, rfl⟩)) rfl<|VO.l (LO.lda (vs := [_,_]) A71 (.r rfl) (fun _ hw => cells_at hw 0 rfl ⟨_, rfl⟩) rfl) rfl<|VO.h rfl<|HO.bs (ps := [(_,_)]) (vs := [(_,_)]) (Z := [_,_]) (C := [_,_]) S24 Z71 N71 ⟨(.r rfl), trivial⟩ rfl rfl rfl rfl ⟨_, [_,_], [_,_], rfl, rfl, rfl, rfl, rfl⟩ fun b16 => VO.h rfl<|HO.appT ((⟨((nl % 40 : Nat) : Int), ((nl % 40 : Nat) : Int)⟩ : Span)) (f := Span.cells) 3 0 (fun R => [_,_,_, R,_,_]) S24 S24 I71 (.r rfl) (.r rfl) rfl rfl rfl rfl rfl rfl rfl (fun _ => rfl) rfl (by omega) fun p4 c4 => VO.l (LO.fa (r := 5) F26_1 (.r rfl) rfl) rfl<|VO.h0<|HO.st 2 (vs := [_]) (C' := [_,_,_,_,_,_]) (L' := [_,_,_,_,_,_]) N24 rfl rfl rfl rfl rfl rfl rfl rfl<|VO.nil ?_)
        refine VE.inN (VE.seqN ?_)
        refine VC.reg (VO.l (LO.add (.r rfl) (.r rfl) (wi (by omega) (by omega))) rfl<|VO.l (LO.mv (.r rfl)) rfl<|VO.nil ?_)
        refine VE.thenN fun a w ha hw => ⟨(k + 1, ml ++ [(⟨((nl % 40 : Nat) : Int), ((nl % 40 : Nat) : Int)⟩ : Span)], p4, c4), ⟨by dsimp only; omega, map_eq hm (by unfold mapAt; rw [vAt_t hln, vAt_f h51]; all_goals (first | rfl | simp))⟩, (by dsimp only; omega), ha.sub (.cons rfl (.cons rfl (.cons rfl (.cons rfl (.cons rfl .nil))))), hw.sel [2,3,4,5] rfl⟩
    ·
      refine VC.skip (VE.seqN ?_)
      refine VC.seq ?_
      refine VC.reg (VO.l (LO.fa (r := 0) F71_0 (.r rfl) rfl) rfl<|VO.l (LO.ld O3 (.r rfl) (fun _ hw => cells_at hw 0 rfl ⟨_, rfl⟩)) rfl<|VO.l (LO.fa (r := 1) F71_1 (.r rfl) rfl) rfl<|VO.h0<|HO.st 0 (vs := [_]) (C' := [_,_]) (L' := [_,_,_,_,_]) N3 rfl rfl rfl rfl rfl rfl rfl rfl<|VO.nil ?_)
      refine VE.seqN ?_
      refine VC.seq ?_
      refine VC.seq ?_
      refine VC.reg (VO.l (LO.fa (r := 3) F63_3 (.r rfl) rfl) rfl<|VO.l (LO.ld O61 (.r rfl) (fun _ hw => cells_at hw 4 rfl ⟨_, rfl⟩)) rfl<|VO.l (LO.len S61 (.r rfl) rfl) rfl<|VO.l (LO.gt (.r rfl) (.r rfl)) rfl<|VO.nil ?_)
      refine VE.seqN ?_
      refine VC.cond rfl (fun h51 => ?_) (fun h51 => ?_)
      ·
        have hnm : k % x.mo.length < x.mo.length := Nat.mod_lt _ (by omega)
        obtain ⟨nm, hmn⟩ := get_ex (l := x.mo) hnm
        have hnm2 := hk.mo nm (List.mem_of_getElem? hmn)
        have hy : nm % 30 < 30 := Nat.mod_lt _ (by omega)
        refine VC.drawH [[0,1,2,3,4], [1,2,3,4]] [some 0, some 0, some 0, some 0, some 0, some 0, some 0, some 0, some 0, some 0, some 0, some 0, some 0, some 0, some 0, none] mixed (by kernel_rfl) rfl (LX.l (fun _ hJ => LO.fa (r := 1) F71_1 (.r rfl) rfl) rfl<|LX.l (fun _ hJ => LO.ld O3 (.r rfl) (fun _ hw => cells_at (hJ _ hw) 0 rfl ⟨_, rfl⟩)) rfl<|LX.l (fun _ hJ => LO.fa (r := 3) F63_3 (.r rfl) rfl) rfl<|LX.l (fun _ hJ => LO.ld O61 (.r rfl) (fun _ hw => cells_at (hJ _ hw) 4 rfl ⟨_, rfl⟩)) rfl<|LX.l (fun _ hJ => LO.mv (.r rfl)) rfl<|LX.l (fun _ hJ => LO.fa (r := 3) F63_3 (.r rfl) rfl) rfl<|LX.l (fun _ hJ => LO.ld O61 (.r rfl) (fun _ hw => cells_at (hJ _ hw) 4 rfl ⟨_, rfl⟩)) rfl<|LX.l (fun _ hJ => LO.len S61 (.r rfl) rfl) rfl<|LX.l (fun _ hJ => LO.eqv (LO.rem (.r rfl) (.r rfl) (by omega)) (congrArg (Value.int .i64) (mod_i (m := x.mo.length)))) rfl<|LX.l (fun _ hJ => LO.ixs S61 N5 (hx.mo.sm) (.r rfl) (.r rfl) rfl hnm) rfl<|LX.l (fun _ hJ => LO.ld O5 (.r rfl) (fun w hw => cells_part (off := 0) ((fun w3 h3 => RO.cel (hx.keep w3 h3).mo hmn) w (hJ _ hw)) ⟨_, rfl⟩)) rfl<|LX.l (fun _ hJ => LO.cv ⟨_, Try.underlying5⟩ Try.underlying3 (.r rfl) (cv8 hnm2)) rfl<|LX.l (fun _ hJ => LO.eqv (LO.rem (.r rfl) (.r rfl) (by omega)) (congrArg (Value.int .i64) (mod_i (m := 30)))) rfl<|LX.l (fun _ hJ => LO.add (.r rfl) (.r rfl) (wi (by omega) (by omega))) rfl<|LX.l (fun _ hJ => LO.fa (r := 1) F71_1 (.r rfl) rfl) rfl<|LX.s<|LX.nil) (HX.s<|HX.s<|HX.s<|HX.s<|HX.s<|HX.s<|HX.s<|HX.s<|HX.s<|HX.s<|HX.s<|HX.s<|HX.s<|HX.s<|HX.s<|HX.h0<|HO.st 0 (vs := [_]) (C' := [_,_]) (L' := [_,_,_,_,_]) N3 rfl rfl rfl rfl rfl rfl rfl rfl<|⟨fun _ hw => hw.sel [1,2,3,4] rfl, HX.nil ?_⟩)
        refine VE.seqN ?_
        refine VC.reg (VO.l (LO.fa (r := 5) F26_1 (.r rfl) rfl) rfl<|VO.l (LO.ld O24 (.r rfl) (fun _ hw => cells_at hw 1 rfl ⟨_, rfl⟩)) rfl<|VO.l (LO.lda (vs := [_,_]) A71 (.r rfl) (fun _ hw => cells_at hw 0 rfl ⟨_, rfl⟩) rfl) rfl<|VO.h rfl<|HO.bs (ps := [(_,_)]) (vs := [(_,_)]) (Z := [_,_]) (C := [_,_]) S24 Z71 N71 ⟨(.r rfl), trivial⟩ rfl rfl rfl rfl ⟨_, [_,_], [_,_], rfl, rfl, rfl, rfl, rfl⟩ fun b21 => VO.h rfl<|HO.appT ((⟨0,0 + ((nm % 30 : Nat) : Int)⟩ : Span)) (f := Span.cells) 3 0 (fun R => [_,_,_, R,_,_]) S24 S24 I71 (.r rfl) (.r rfl) rfl rfl rfl rfl rfl rfl rfl (fun _ => rfl) rfl (by omega) fun p4 c4 => VO.l (LO.fa (r := 5) F26_1 (.r rfl) rfl) rfl<|VO.h0<|HO.st 2 (vs := [_]) (C' := [_,_,_,_,_,_]) (L' := [_,_,_,_,_,_]) N24 rfl rfl rfl rfl rfl rfl rfl rfl<|VO.nil ?_)
        refine VE.inN (VE.seqN ?_)
        refine VC.reg (VO.l (LO.add (.r rfl) (.r rfl) (wi (by omega) (by omega))) rfl<|VO.l (LO.mv (.r rfl)) rfl<|VO.nil ?_)
        refine VE.thenN fun a w ha hw => ⟨(k + 1, ml ++ [(⟨0,0 + ((nm % 30 : Nat) : Int)⟩ : Span)], p4, c4), ⟨by dsimp only; omega, map_eq hm (by unfold mapAt; rw [vAt_f h32, vAt_t hmn]; all_goals (first | rfl | simp))⟩, (by dsimp only; omega), ha.sub (.cons rfl (.cons rfl (.cons rfl (.cons rfl (.cons rfl .nil))))), hw.sel [2,3,4,5] rfl⟩
      ·
        refine VC.skip (VE.seqN ?_)
        refine VC.reg (VO.l (LO.fa (r := 5) F26_1 (.r rfl) rfl) rfl<|VO.l (LO.ld O24 (.r rfl) (fun _ hw => cells_at hw 1 rfl ⟨_, rfl⟩)) rfl<|VO.l (LO.lda (vs := [_,_]) A71 (.r rfl) (fun _ hw => cells_at hw 0 rfl ⟨_, rfl⟩) rfl) rfl<|VO.h rfl<|HO.bs (ps := [(_,_)]) (vs := [(_,_)]) (Z := [_,_]) (C := [_,_]) S24 Z71 N71 ⟨(.r rfl), trivial⟩ rfl rfl rfl rfl ⟨_, [_,_], [_,_], rfl, rfl, rfl, rfl, rfl⟩ fun b23 => VO.h rfl<|HO.appT ((⟨0,0⟩ : Span)) (f := Span.cells) 3 0 (fun R => [_,_,_, R,_,_]) S24 S24 I71 (.r rfl) (.r rfl) rfl rfl rfl rfl rfl rfl rfl (fun _ => rfl) rfl (by omega) fun p4 c4 => VO.l (LO.fa (r := 5) F26_1 (.r rfl) rfl) rfl<|VO.h0<|HO.st 2 (vs := [_]) (C' := [_,_,_,_,_,_]) (L' := [_,_,_,_,_,_]) N24 rfl rfl rfl rfl rfl rfl rfl rfl<|VO.nil ?_)
        refine VE.inN (VE.seqN ?_)
        refine VC.reg (VO.l (LO.add (.r rfl) (.r rfl) (wi (by omega) (by omega))) rfl<|VO.l (LO.mv (.r rfl)) rfl<|VO.nil ?_)
        refine VE.thenN fun a w ha hw => ⟨(k + 1, ml ++ [(⟨0,0⟩ : Span)], p4, c4), ⟨by dsimp only; omega, map_eq hm (by unfold mapAt; rw [vAt_f h32, vAt_f h51]; all_goals (first | rfl | simp))⟩, (by dsimp only; omega), ha.sub (.cons rfl (.cons rfl (.cons rfl (.cons rfl (.cons rfl .nil))))), hw.sel [2,3,4,5] rfl⟩
  ·
    refine VC.exit (VE.thenX (VE.thenX (VE.inX (VE.seqN ?_))))
    refine VC.seq ?_
    refine VC.reg (VO.l (LO.lda (vs := [_,_,_,_,_,_]) A26 (.r rfl) (fun _ hw => cells_at hw 0 rfl ⟨_, rfl⟩) rfl) rfl<|VO.h0<|HO.st 2 (vs := [_,_,_,_,_,_]) (C' := [_,_,_,_,_,_]) (L' := [_,_,_,_]) N26 rfl rfl rfl rfl rfl rfl rfl rfl<|VO.nil ?_)
    refine VE.seqN ?_
    refine VC.ret (VE.res (vs := [_]) rfl ⟨RV.agg (vs := [_,_,_,_,_,_]) A26 rfl (cells_blk 2 rfl ⟨_, rfl⟩) rfl, trivial⟩ (fun w hw => ?_))
    have hke : k = mapW x * mapH x := by omega
    subst hke
    subst hm
    exact ⟨⟨po, co⟩, trivial, rfl, selK [1] rfl rfl _ hw⟩

set_option maxRecDepth 20000 in
theorem level_c (n : Nat) (w : World) (hn : n ≤ 255) :
  Calls Try.prog 34 #[.int .u8 (n : Int)] w fun e w' => e = .returned (.int .i64 ((1 + n % 50 : Nat) : Int)) ∧ St (bs w) [] w' := by
  refine enter (vs := [_]) (env := [(0,_)]) Try.func34 rfl rfl rfl rfl ?_
  refine VC.seq ?_
  refine VC.reg (VO.l (LO.as (.r rfl)) rfl<|VO.nil ?_)
  refine VE.seqN ?_
  refine VC.seq ?_
  refine VC.reg (VO.l (LO.mv (.r rfl)) rfl<|VO.l (LO.cv ⟨_, Try.underlying5⟩ Try.underlying3 (.r rfl) (cv8 hn)) rfl<|VO.l (LO.eqv (LO.rem (.r rfl) (.r rfl) (by omega)) (congrArg (Value.int .i64) (mod_i (m := 50)))) rfl<|VO.l (LO.eqv (LO.add (.r rfl) (.r rfl) (wi (by omega) (by omega))) (congrArg (Value.int .i64) (show (1 : Int) + ((n % 50 : Nat) : Int) = ((1 + n % 50 : Nat) : Int) by push_cast; rfl))) rfl<|VO.l (LO.as (.r rfl)) rfl<|VO.nil ?_)
  refine VE.seqN ?_
  refine VC.ret (VE.res (vs := [_]) rfl ⟨rfl, trivial⟩ (fun w hw => ?_))
  exact ⟨rfl, hw.nil⟩

end Go.Proofs.Ytgemekpofpoopaa

namespace Go.Proofs.Ytgemekpofpoopaa
open Go.SL Go.Proofs Go.Cast Go.Cell
set_option linter.unusedVariables false

theorem set_get {ls : List Int} {p q : Nat} {a : Int} (h : p < ls.length) : (ls.set p a).getD q (-1) = if p = q then a else ls.getD q (-1) := getD_set' h
structure PnY where
  p : Option Addr
  c : Nat
  l : List Int
/-- While the pixels of an area are given its number. -/
def owT (n : Nat) (ps : List (List Nat)) (i : Nat) (l : List Nat) (k : Nat) : List Int := (List.range n).map fun q => if q ∈ l.take k then (i : Int) else idxL ps q
theorem owT_len {n : Nat} {ps : List (List Nat)} {i k : Nat} {l : List Nat} : (owT n ps i l k).length = n := by unfold owT; simp
theorem owT_get {n q : Nat} {ps : List (List Nat)} {i k : Nat} {l : List Nat} (h : q < n) : (owT n ps i l k)[q]? = some (if q ∈ l.take k then (i : Int) else idxL ps q) := by unfold owT; rw [List.getElem?_map, List.getElem?_range h]; rfl
theorem owT_zero {n : Nat} {ps : List (List Nat)} {i : Nat} {l : List Nat} : ofP n ps = owT n ps i l 0 := by unfold ofP owT; simp
theorem owT_set {n : Nat} {ps : List (List Nat)} {i k p : Nat} {l : List Nat} (h : l[k]? = some p) (hp : p < n) : (owT n ps i l k).set p (i : Int) = owT n ps i l (k + 1) := by
  obtain ⟨hk, rfl⟩ := List.getElem?_eq_some_iff.1 h
  refine List.ext_getElem? fun q => ?_
  by_cases hq : q < n
  · rw [owT_get hq, List.getElem?_set]
    have hm : q ∈ l.take (k + 1) ↔ q ∈ l.take k ∨ q = l[k] := by rw [List.take_succ_eq_append_getElem hk, List.mem_append, List.mem_singleton]
    by_cases e : l[k] = q
    · rw [if_pos e, if_pos (by rw [owT_len]; exact hp), if_pos (hm.2 (.inr e.symm))]
    · rw [if_neg e, owT_get hq]
      by_cases z : q ∈ l.take k
      · rw [if_pos z, if_pos (hm.2 (.inl z))]
      · rw [if_neg z, if_neg fun y => (hm.1 y).elim z fun y => e y.symm]
  · rw [List.getElem?_eq_none (by rw [List.length_set, owT_len]; omega), List.getElem?_eq_none (by rw [owT_len]; omega)]
theorem owT_done {n i : Nat} {ps : List (List Nat)} {l : List Nat} (h : ps[i]? = some l) (hap : ps.Pairwise fun a b => ∀ x, x ∈ a → x ∉ b) : owT n (ps.take i) i l l.length = ofP n (ps.take (i + 1)) := by
  obtain ⟨hi, rfl⟩ := List.getElem?_eq_some_iff.1 h
  unfold owT ofP
  refine List.map_congr_left fun q _ => ?_
  rw [List.take_length, List.take_succ_eq_append_getElem hi, idx_app, List.length_take, Nat.min_eq_left (Nat.le_of_lt hi)]
  by_cases z : q ∈ ps[i]
  · have : idxL (ps.take i) q = -1 := idx_neg fun m hm hq => by
      obtain ⟨j, hj, rfl⟩ := List.mem_iff_getElem.1 hm
      rw [List.length_take] at hj
      rw [List.getElem_take] at hq
      exact List.pairwise_iff_getElem.1 hap j i (by omega) hi (by omega) q hq z
    rw [if_pos z, if_pos this, if_pos z]
  · rw [if_neg z]
    by_cases y : idxL (ps.take i) q = -1
    · rw [if_pos y, if_neg z, y]
    · rw [if_neg y]
theorem owT_new {i k p : Nat} {ps : List (List Nat)} {l : List Nat} (h : ps[i]? = some l) (hap : ps.Pairwise fun a b => ∀ x, x ∈ a → x ∉ b) (hn : l.Nodup) (hk : l[k]? = some p) : (if p ∈ l.take k then (i : Int) else idxL (ps.take i) p) = -1 := by
  obtain ⟨hi, rfl⟩ := List.getElem?_eq_some_iff.1 h
  obtain ⟨hkl, rfl⟩ := List.getElem?_eq_some_iff.1 hk
  rw [if_neg fun hm => ?_]
  · refine idx_neg fun m hm hq => ?_
    obtain ⟨j, hj, rfl⟩ := List.mem_iff_getElem.1 hm
    rw [List.length_take] at hj
    rw [List.getElem_take] at hq
    exact List.pairwise_iff_getElem.1 hap j i (by omega) hi (by omega) _ hq (List.getElem_mem hkl)
  · obtain ⟨j, hj, e⟩ := List.mem_iff_getElem.1 hm
    rw [List.length_take] at hj
    rw [List.getElem_take] at e
    exact List.pairwise_iff_getElem.1 hn j k (by omega) hkl (by omega) e
/-- What is read of areas, pixels too. -/
structure ArRd (w : World) (y : ArY) : Prop where
  ar : RO 8 AreaR.cells w y.p y.l
  px : ∀ a, a ∈ y.l → RO 1 nC w a.px.p a.px.l
  kr : ∀ a, a ∈ y.l → RR 1 nC w a.kp a.kr
theorem ArRd.keep {w0 : World} {y : ArY} (h : ArRd w0 y) : ∀ {L : List Res} (w : World), St (bs w0) L w → ArRd w y := fun w hw => ⟨h.ar.keep w hw, fun a ha => (h.px a ha).keep w hw, fun a ha => (h.kr a ha).keep w hw⟩
theorem ArRd.of_res {β : Bs} {L : List Res} {w : World} {y : ArY} {of : List Int} {W H : Nat} {vs : List Span} {lv : Int} (hw : St β (y.R of ++ L) w) (hp : ArP W H vs lv y) : ArRd w y := by
  have hS := SpI.of_res (of := of) hw hp 0 1 3 7 rfl rfl rfl rfl
  have hR : RR 1 nC w y.pr y.rs := RR.of_own hw 5 6 rfl rfl
  exact ⟨hS.ar, fun a ha => (hR.2 a.px (by rw [← hp.px]; exact List.mem_map_of_mem ha)).2, hS.kr⟩
theorem ar_part {W H : Nat} {vs : List Span} {lv : Int} {y : ArY} (h : ArP W H vs lv y) {i : Nat} {a : AreaR} (ha : y.l[i]? = some a) : (partsL W H (mayB vs lv))[i]? = some a.px.l ∧ a.px.l.Nodup ∧ (∀ p, p ∈ a.px.l → p < W * H) ∧ a.px.l.length ≤ W * H := by
  obtain ⟨r,_,_, h2,_⟩ := parent_get h ha
  obtain ⟨p, hp,_, e⟩ := mem_partsTo (p := W * H) (List.mem_of_getElem? h2)
  have hall : ∀ q, q ∈ a.px.l → q < W * H := fun q hq => by rw [e] at hq; exact compL_lt hp hq
  have hn : a.px.l.Nodup := by rw [e]; exact (compL_sorted hp).imp fun h => Nat.ne_of_lt h
  refine ⟨h2, hn, hall, ?_⟩
  have := length_le_of_subset (m := List.range (W * H)) hn (fun x hx => List.mem_range.2 (hall x hx))
  simpa using this
theorem fill_end {n : Nat} {ls : List Int} (hl : ls.length = n) (h : ∀ q, q < n → ls.getD q (-1) = -1) : ls = ofP n [] := by
  refine List.ext_getElem? fun q => ?_
  by_cases hq : q < n
  · rw [ofP_get hq, List.getElem?_eq_getElem (by omega)]
    have := h q hq
    rw [List.getD_eq_getElem?_getD, List.getElem?_eq_getElem (by omega)] at this
    exact congrArg some this
  · rw [List.getElem?_eq_none (by omega), List.getElem?_eq_none (by rw [ofP_len]; omega)]
theorem fill_step {n p : Nat} {ls : List Int} (hl : ls.length = n) (hp : p < n) (h : ∀ q, q < p → ls.getD q (-1) = -1) : ∀ q, q < p + 1 → (ls.set p (-1)).getD q (-1) = -1 := fun q hq => by
  rw [set_get (by omega)]
  by_cases e : p = q
  · rw [if_pos e]
  · rw [if_neg e]; exact h q (by omega)

end Go.Proofs.Ytgemekpofpoopaa

namespace Go.Proofs.Ytgemekpofpoopaa
open Go.SL Go.Proofs Go.Cast Go.Cell
set_option linter.unusedVariables false

theorem C83 : IsFn Try.prog 83 := ⟨_, Try.func83, by decide, rfl⟩


def wthLo (vs : List Span) (wh : List Nat) (i : Nat) : Int := (vs.getD i ⟨0,0⟩).lo + ((vAt wh ((vs.getD i ⟨0,0⟩).hi - (vs.getD i ⟨0,0⟩).lo + 1).toNat (2 * i) : Nat) : Int)
def wthAt (vs : List Span) (wh : List Nat) (pt : Bool) (i : Nat) : Span :=
  ⟨wthLo vs wh i, if pt = true then wthLo vs wh i else wthLo vs wh i + ((vAt wh ((vs.getD i ⟨0,0⟩).hi - wthLo vs wh i + 1).toNat (2 * i + 1) : Nat) : Int)⟩
def wthTo (vs : List Span) (wh : List Nat) (pt : Bool) (k : Nat) : List Span := (List.range k).map (wthAt vs wh pt)
def wthM (vs : List Span) (wh : List Nat) (pt : Bool) : List Span := wthTo vs wh pt vs.length
theorem wthTo_succ {vs : List Span} {wh : List Nat} {pt : Bool} {k : Nat} : wthTo vs wh pt (k + 1) = wthTo vs wh pt k ++ [wthAt vs wh pt k] := by unfold wthTo; rw [List.range_succ, List.map_append]; rfl
theorem wthTo_len {vs : List Span} {wh : List Nat} {pt : Bool} {k : Nat} : (wthTo vs wh pt k).length = k := by unfold wthTo; simp
theorem vAt_lt {l : List Nat} {m i : Nat} (h : 0 < m) : vAt l m i < m := by unfold vAt; split <;> first | exact Nat.mod_lt _ h | exact h
theorem wth_in {vs : List Span} {wh : List Nat} {pt : Bool} {i : Nat} (h : (vs.getD i ⟨0,0⟩).lo ≤ (vs.getD i ⟨0,0⟩).hi) : (vs.getD i ⟨0,0⟩).lo ≤ (wthAt vs wh pt i).lo ∧ (wthAt vs wh pt i).lo ≤ (wthAt vs wh pt i).hi ∧ (wthAt vs wh pt i).hi ≤ (vs.getD i ⟨0,0⟩).hi := by
  have h1 := @vAt_lt wh ((vs.getD i ⟨0,0⟩).hi - (vs.getD i ⟨0,0⟩).lo + 1).toNat (2 * i) (by omega)
  have e1 : wthLo vs wh i ≤ (vs.getD i ⟨0,0⟩).hi ∧ (vs.getD i ⟨0,0⟩).lo ≤ wthLo vs wh i := by unfold wthLo; omega
  have h2 := @vAt_lt wh ((vs.getD i ⟨0,0⟩).hi - wthLo vs wh i + 1).toNat (2 * i + 1) (by omega)
  unfold wthAt
  dsimp only
  refine ⟨e1.2, ?_, ?_⟩
  · split <;> omega
  · split <;> omega
theorem wth_eq {vs : List Span} {wh : List Nat} {pt : Bool} {k : Nat} {ml : List Span} {s : Span} (h : ml = wthTo vs wh pt k) (e : s = wthAt vs wh pt k) : ml ++ [s] = wthTo vs wh pt (k + 1) := by rw [h, e, wthTo_succ]
theorem toN {a : Int} (h : 0 ≤ a) : a = ((a.toNat : Nat) : Int) := by omega
theorem mem_at {l : List Int} {n : Int} {i : Nat} (hi : i < l.length) (h : l.getD i 0 = n) : n ∈ l := by
  rw [List.getD_eq_getElem?_getD, List.getElem?_eq_getElem hi] at h
  have h : l[i] = n := h
  rw [← h]; exact List.getElem_mem hi
theorem mem_no {l : List Int} {n : Int} (h : ∀ k, k < l.length → ¬ l.getD k 0 = n) : ¬ n ∈ l := fun hm => by
  obtain ⟨k, hk, e⟩ := List.mem_iff_getElem.1 hm
  refine h k hk ?_
  rw [List.getD_eq_getElem?_getD, List.getElem?_eq_getElem hk]; exact e
set_option maxRecDepth 20000 in
theorem number_c (b : Nat) (wh : List Nat) (p : Option Addr) (c : Nat) (i n : Nat) (w : World) (hb : Cells w ⟨b, 0, none⟩ [.slice p wh.length c]) (hwh : RO 1 uC w p wh) (h8 : ∀ n, n ∈ wh → n ≤ 255) (hn : 0 < n) (hwl : wh.length ≤ 9223372036854775807) :
  Calls Try.prog 83 #[.int .i64 (i : Int), .int .i64 (n : Int), .pointer (some ⟨b, 0, none⟩)] w fun e w' => e = .returned (.int .i64 ((vAt wh n i : Nat) : Int)) ∧ St (bs w) [] w' := by
  refine enter (vs := [_,_,_]) (env := [(0,_), (1,_), (2,_)]) Try.func83 rfl rfl rfl rfl ?_
  refine VC.seq ?_
  refine VC.reg (VO.l (LO.as (.r rfl)) rfl<|VO.nil ?_)
  refine VE.seqN ?_
  refine VC.seq ?_
  refine VC.seq ?_
  refine VC.reg (VO.l (LO.ld O61 (.r rfl) (cells_keep (sub_cells (off := 0) hb ⟨_, rfl⟩))) rfl<|VO.l (LO.len S61 (.r rfl) rfl) rfl<|VO.l (LO.eq (.r rfl) (.r rfl)) rfl<|VO.nil ?_)
  refine VE.seqN ?_
  refine VC.cond rfl (fun h8_ => ?_) (fun h8_ => ?_)
  ·
    refine VC.seq ?_
    refine VC.reg (VO.l (LO.as (.r rfl)) rfl<|VO.nil ?_)
    refine VE.seqN ?_
    refine VC.ret (VE.thenR (VE.res (vs := [_]) rfl ⟨rfl, trivial⟩ (fun w hw => ?_)))
    refine ⟨congrArg (fun z => Ending.returned (.int .i64 z)) ?_, hw.nil⟩
    rw [vAt_f (by omega)]; rfl
  ·
    have hwi : i % wh.length < wh.length := Nat.mod_lt _ (by omega)
    obtain ⟨nw, hwx⟩ := get_ex (l := wh) hwi
    have hw8 := h8 nw (List.mem_of_getElem? hwx)
    refine VC.skip (VE.seqN ?_)
    refine VC.seq ?_
    refine VC.draw mixed (LL.l (LO.ld O61 (.r rfl) (cells_keep (sub_cells (off := 0) hb ⟨_, rfl⟩))) rfl<|LL.l (LO.mv (.r rfl)) rfl<|LL.l (LO.ld O61 (.r rfl) (cells_keep (sub_cells (off := 0) hb ⟨_, rfl⟩))) rfl<|LL.l (LO.len S61 (.r rfl) rfl) rfl<|LL.l (LO.eqv (LO.rem (.r rfl) (.r rfl) (by omega)) (congrArg (Value.int .i64) (mod_i (m := wh.length)))) rfl<|LL.l (LO.ixs S61 N5 hwh.sm (.r rfl) (.r rfl) rfl hwi) rfl<|LL.l (LO.ld O5 (.r rfl) (fun w hw => cells_part (off := 0) ((fun w3 h3 => RO.cel (hwh.keep w3 h3) hwx) w hw) ⟨_, rfl⟩)) rfl<|LL.l (LO.cv ⟨_, Try.underlying5⟩ Try.underlying3 (.r rfl) (cv8 hw8)) rfl<|LL.l (LO.mv (.r rfl)) rfl<|LL.l (LO.eqv (LO.rem (.r rfl) (.r rfl) (by omega)) (congrArg (Value.int .i64) (mod_i (m := n)))) rfl<|LL.l (LO.as (.r rfl)) rfl<|LL.nil) (by kernel_rfl) ?_
    refine VE.seqN ?_
    refine VC.ret (VE.res (vs := [_]) rfl ⟨rfl, trivial⟩ (fun w hw => ?_))
    refine ⟨congrArg (fun z => Ending.returned (.int .i64 z)) ?_, hw.nil⟩
    rw [vAt_t hwx]

set_option maxRecDepth 20000 in
set_option maxHeartbeats 8000000 in
theorem within_c (g : Grid) (vs : List Span) (pv : Option Addr) (cv : Nat) (wh : List Nat) (pw : Option Addr) (cw : Nat) (pt : Bool) (w : World) (hv : Spans w pv vs) (hwh : RO 1 uC w pw wh) (h8 : ∀ n, n ∈ wh → n ≤ 255) (hwl : wh.length ≤ 9223372036854775807) (hok : ∀ j, j < vs.length → 0 ≤ (vs.getD j ⟨0,0⟩).lo ∧ (vs.getD j ⟨0,0⟩).lo ≤ (vs.getD j ⟨0,0⟩).hi ∧ (vs.getD j ⟨0,0⟩).hi ≤ 1000000) (hn : vs.length ≤ 1000000) :
  Calls Try.prog 35 #[fieldV g pv vs.length cv, .slice pw wh.length cw, .bool pt] w fun e w' => ∃ y : SlY, True ∧ e = .returned (fieldV g y.p (wthM vs wh pt).length y.c) ∧ St (bs w) [own 71 2 y.p y.c ((wthM vs wh pt).map Span.cells)] w' := by
  refine enter (vs := [_,_,_]) (env := [(0,_), (1,_), (2,_)]) Try.func35 rfl rfl rfl rfl ?_
  refine VC.seq ?_
  refine VC.reg (VO.h rfl<|HO.box (C := #[_,_,_,_,_,_]) rfl rfl fun b1 => VO.h rfl<|HO.box (C := #[_]) rfl rfl fun b2 => VO.h rfl<|HO.alloc (C := #[_,_,_,_,_,_]) Z26 rfl fun b3 => VO.nil ?_)
  refine VE.seqN ?_
  refine VC.seq ?_
  refine VC.reg (VO.l (LO.fa (r := 0) F26_0 (.r rfl) rfl) rfl<|VO.l (LO.lda (vs := [_,_,_,_,_]) A23 (.r rfl) (fun _ hw => cells_at hw 2 rfl ⟨_, rfl⟩) rfl) rfl<|VO.l (LO.bd (ps := [(_,_)]) (vs := [(_,_)]) (C := [_,_,_,_,_,_]) B26  ⟨(.r rfl), trivial⟩ rfl ⟨_, [_,_,_,_,_], [_,_,_,_,_,_], rfl, rfl, rfl, rfl, rfl⟩) rfl<|VO.h rfl<|HO.alloc (C := #[_,_,_,_,_,_]) Z26 rfl fun b4 => VO.h0<|HO.st 0 (vs := [_,_,_,_,_,_]) (C' := [_,_,_,_,_,_]) (L' := [_,_,_,_]) N26 rfl rfl rfl rfl rfl rfl rfl rfl<|VO.nil ?_)
  refine VE.seqN ?_
  refine VC.seq ?_
  refine VC.reg (VO.h rfl<|HO.lo (LO.mf (cap := [_]) ⟨(.r rfl), trivial⟩)<|VO.h rfl<|HO.lo (LO.as (.r rfl))<|VO.nil ?_)
  refine VE.seqN ?_
  refine VC.seq ?_
  refine VC.seq ?_
  refine VC.reg (VO.l (LO.fa (r := 5) F26_1 (.r rfl) rfl) rfl<|VO.l (LO.ld O24 (.r rfl) (fun _ hw => cells_at hw 3 rfl ⟨_, rfl⟩)) rfl<|VO.l (LO.len S24 (.r rfl) rfl) rfl<|VO.l (LO.mv (.r rfl)) rfl<|VO.nil ?_)
  refine VE.seqN ?_
  refine VC.block ?_
  refine VC.loopK (α := Nat × (List Span) × (Option Addr) × Nat) 1 (fun gx => [(20, .int .i64 (gx.1 : Nat))]) [(2,_), (6,_), (7,_), (8,_), (18,_), (19,_)] (fun gx => [blk b4 (.cells #[.int .i64 g.x, .int .i64 g.y, .int .i64 g.size, .int .i64 g.wide, .int .i64 g.high, .slice gx.2.2.1 gx.2.1.length gx.2.2.2] 26), own 71 2 gx.2.2.1 gx.2.2.2 (gx.2.1.map Span.cells)]) (fun gx => gx.1 ≤ vs.length ∧ gx.2.1 = wthTo vs wh pt gx.1) (fun gx => vs.length - gx.1) (0, [], none, 0) (by exact ⟨Nat.zero_le _, rfl⟩) (.cons rfl (.cons rfl (.cons rfl (.cons rfl (.cons rfl (.cons rfl (.cons rfl .nil))))))) (fun _ h => ((h.ownNil 71 2)).sel [1,0,2,3,4] rfl) ?_
  rintro ⟨k, ml, po, co⟩ ⟨hkk, hm⟩
  show VC _ _ _ _ _ ([(20, .int .i64 (k : Nat))] ++ _) ([blk b4 (.cells #[.int .i64 g.x, .int .i64 g.y, .int .i64 g.size, .int .i64 g.wide, .int .i64 g.high, .slice po ml.length co] 26), own 71 2 po co (ml.map Span.cells)] ++ _) _ _
  dsimp only at hkk hm
  have hmll : ml.length = k := by rw [hm, wthTo_len]
  refine VC.seq ?_
  refine VC.reg (VO.l (LO.lt (.r rfl) (.r rfl)) rfl<|VO.nil ?_)
  refine VE.seqN ?_
  refine VC.seq ?_
  refine VC.cond rfl (fun h21 => ?_) (fun h21 => ?_)
  ·
    refine VC.skip (VE.seqN ?_)
    refine VC.seq ?_
    refine VC.block ?_
    refine VC.seq ?_
    refine VC.reg (VO.l (LO.mv (.r rfl)) rfl<|VO.l (LO.ixs S24 N71 hv.some (.r rfl) (.r rfl) rfl (by omega)) rfl<|VO.l (LO.lda (vs := [_,_]) A71 (.r rfl) (fun w hw => cells_part (off := 0) ((hv.at (j := k) (by omega)) w hw) ⟨_, rfl⟩) rfl) rfl<|VO.h rfl<|HO.alloc (C := #[_,_]) Z71 rfl fun b8 => VO.l (LO.as (.r rfl)) rfl<|VO.h0<|HO.st 0 (vs := [_,_]) (C' := [_,_]) (L' := [_,_,_,_,_,_]) N71 rfl rfl rfl rfl rfl rfl rfl rfl<|VO.nil ?_)
    refine VE.seqN ?_
    refine VC.seq ?_
    have hb1 := hok k (by omega)
    have hva := @vAt_lt wh ((vs.getD k ⟨0,0⟩).hi - (vs.getD k ⟨0,0⟩).lo + 1).toNat (2 * k) (by omega)
    have hwl0 : wthLo vs wh k = (vs.getD k ⟨0,0⟩).lo + ((vAt wh ((vs.getD k ⟨0,0⟩).hi - (vs.getD k ⟨0,0⟩).lo + 1).toNat (2 * k) : Nat) : Int) := rfl
    refine VC.draw mixed (LL.l (LO.fa (r := 0) F71_0 (.r rfl) rfl) rfl<|LL.l (LO.ld O3 (.r rfl) (fun _ hw => cells_at hw 0 rfl ⟨_, rfl⟩)) rfl<|LL.l (LO.mv (.r rfl)) rfl<|LL.l (LO.mv (.r rfl)) rfl<|LL.l (LO.eqv (LO.mul (.r rfl) (.r rfl) (wi (by omega) (by omega))) (congrArg (Value.int .i64) (show (2 : Int) * (k : Int) = ((2 * k : Nat) : Int) by push_cast; rfl))) rfl<|LL.l (LO.fa (r := 1) F71_1 (.r rfl) rfl) rfl<|LL.l (LO.ld O3 (.r rfl) (fun _ hw => cells_at hw 0 rfl ⟨_, rfl⟩)) rfl<|LL.l (LO.fa (r := 0) F71_0 (.r rfl) rfl) rfl<|LL.l (LO.ld O3 (.r rfl) (fun _ hw => cells_at hw 0 rfl ⟨_, rfl⟩)) rfl<|LL.l (LO.sub (.r rfl) (.r rfl) (wi (by omega) (by omega))) rfl<|LL.l (LO.eqv (LO.add (.r rfl) (.r rfl) (wi (by omega) (by omega))) (congrArg (Value.int .i64) (toN (by omega)))) rfl<|LL.l (LO.callv (first := []) (cap := [_]) (xs := [_,_]) (vs := [_,_]) (.r rfl) C83 ⟨(.r rfl), (.r rfl), trivial⟩ (fun w2 hw => number_c b2 wh pw cw (2 * k) ((vs.getD k ⟨0,0⟩).hi - (vs.getD k ⟨0,0⟩).lo + 1).toNat w2 (cells_inv (hw.inv 4 _ rfl)) (hwh.keep w2 hw) h8 (by omega) hwl)) rfl<|LL.l (LO.eqv (LO.add (.r rfl) (.r rfl) (wi (by omega) (by omega))) rfl) rfl<|LL.l (LO.as (.r rfl)) rfl<|LL.nil) (by kernel_rfl) ?_
    rw [← hwl0]
    refine VE.seqN ?_
    refine VC.seq ?_
    refine VC.reg (VO.l (LO.mv (.r rfl)) rfl<|VO.l (LO.as (.r rfl)) rfl<|VO.nil ?_)
    refine VE.seqN ?_
    refine VC.seq ?_
    refine VC.seq ?_
    refine VC.reg (VO.l (LO.mv (.r rfl)) rfl<|VO.l (LO.not (.r rfl)) rfl<|VO.nil ?_)
    refine VE.seqN ?_
    refine VC.cond rfl (fun h40 => ?_) (fun h40 => ?_)
    ·
      have hvb := @vAt_lt wh ((vs.getD k ⟨0,0⟩).hi - wthLo vs wh k + 1).toNat (2 * k + 1) (by omega)
      refine VC.reg (VO.l (LO.mv (.r rfl)) rfl<|VO.l (LO.mv (.r rfl)) rfl<|VO.l (LO.mv (.r rfl)) rfl<|VO.l (LO.eqv (LO.mul (.r rfl) (.r rfl) (wi (by omega) (by omega))) (congrArg (Value.int .i64) (show (2 : Int) * (k : Int) = ((2 * k : Nat) : Int) by push_cast; rfl))) rfl<|VO.l (LO.eqv (LO.add (.r rfl) (.r rfl) (wi (by omega) (by omega))) (congrArg (Value.int .i64) (show ((2 * k : Nat) : Int) + 1 = ((2 * k + 1 : Nat) : Int) by push_cast; rfl))) rfl<|VO.l (LO.fa (r := 1) F71_1 (.r rfl) rfl) rfl<|VO.l (LO.ld O3 (.r rfl) (fun _ hw => cells_at hw 0 rfl ⟨_, rfl⟩)) rfl<|VO.l (LO.mv (.r rfl)) rfl<|VO.l (LO.sub (.r rfl) (.r rfl) (wi (by omega) (by omega))) rfl<|VO.l (LO.eqv (LO.add (.r rfl) (.r rfl) (wi (by omega) (by omega))) (congrArg (Value.int .i64) (toN (by omega)))) rfl<|VO.l (LO.callv (first := []) (cap := [_]) (xs := [_,_]) (vs := [_,_]) (.r rfl) C83 ⟨(.r rfl), (.r rfl), trivial⟩ (fun w2 hw => number_c b2 wh pw cw (2 * k + 1) ((vs.getD k ⟨0,0⟩).hi - wthLo vs wh k + 1).toNat w2 (cells_inv (hw.inv 4 _ rfl)) (hwh.keep w2 hw) h8 (by omega) hwl)) rfl<|VO.l (LO.add (.r rfl) (.r rfl) (wi (by omega) (by omega))) rfl<|VO.l (LO.as (.r rfl)) rfl<|VO.nil ?_)
      refine VE.seqN ?_
      refine VC.reg (VO.l (LO.fa (r := 5) F26_1 (.r rfl) rfl) rfl<|VO.l (LO.ld O24 (.r rfl) (fun _ hw => cells_at hw 1 rfl ⟨_, rfl⟩)) rfl<|VO.l (LO.mv (.r rfl)) rfl<|VO.l (LO.mv (.r rfl)) rfl<|VO.l (LO.bd (ps := [(_,_), (_,_)]) (vs := [(_,_), (_,_)]) (C := [_,_]) B71  ⟨(.r rfl), (.r rfl), trivial⟩ rfl ⟨_, [_], [_,_], rfl, rfl, rfl, rfl, ⟨_, [_], [_,_], rfl, rfl, rfl, rfl, rfl⟩⟩) rfl<|VO.h rfl<|HO.bs (ps := [(_,_)]) (vs := [(_,_)]) (Z := [_,_]) (C := [_,_]) S24 Z71 N71 ⟨(.r rfl), trivial⟩ rfl rfl rfl rfl ⟨_, [_,_], [_,_], rfl, rfl, rfl, rfl, rfl⟩ fun b10 => VO.h rfl<|HO.appT ((⟨wthLo vs wh k, wthLo vs wh k + ((vAt wh ((vs.getD k ⟨0,0⟩).hi - wthLo vs wh k + 1).toNat (2 * k + 1) : Nat) : Int)⟩ : Span)) (f := Span.cells) 3 0 (fun R => [_,_,_, R,_,_,_]) S24 S24 I71 (.r rfl) (.r rfl) rfl rfl rfl rfl rfl rfl rfl (fun _ => rfl) rfl (by omega) fun p6 c6 => VO.l (LO.fa (r := 5) F26_1 (.r rfl) rfl) rfl<|VO.h0<|HO.st 2 (vs := [_]) (C' := [_,_,_,_,_,_]) (L' := [_,_,_,_,_,_,_]) N24 rfl rfl rfl rfl rfl rfl rfl rfl<|VO.nil ?_)
      refine VE.inN (VE.seqN ?_)
      refine VC.reg (VO.l (LO.add (.r rfl) (.r rfl) (wi (by omega) (by omega))) rfl<|VO.l (LO.mv (.r rfl)) rfl<|VO.nil ?_)
      refine VE.thenN fun a w ha hw => ⟨(k + 1, ml ++ [(⟨wthLo vs wh k, wthLo vs wh k + ((vAt wh ((vs.getD k ⟨0,0⟩).hi - wthLo vs wh k + 1).toNat (2 * k + 1) : Nat) : Int)⟩ : Span)], p6, c6), ⟨by dsimp only; omega, wth_eq hm (by unfold wthAt; rw [if_neg (by simpa using h40)])⟩, (by dsimp only; omega), ha.sub (.cons rfl (.cons rfl (.cons rfl (.cons rfl (.cons rfl (.cons rfl (.cons rfl .nil))))))), hw.sel [2,3,4,5,6] rfl⟩
    ·
      refine VC.skip (VE.seqN ?_)
      refine VC.reg (VO.l (LO.fa (r := 5) F26_1 (.r rfl) rfl) rfl<|VO.l (LO.ld O24 (.r rfl) (fun _ hw => cells_at hw 1 rfl ⟨_, rfl⟩)) rfl<|VO.l (LO.mv (.r rfl)) rfl<|VO.l (LO.mv (.r rfl)) rfl<|VO.l (LO.bd (ps := [(_,_), (_,_)]) (vs := [(_,_), (_,_)]) (C := [_,_]) B71  ⟨(.r rfl), (.r rfl), trivial⟩ rfl ⟨_, [_], [_,_], rfl, rfl, rfl, rfl, ⟨_, [_], [_,_], rfl, rfl, rfl, rfl, rfl⟩⟩) rfl<|VO.h rfl<|HO.bs (ps := [(_,_)]) (vs := [(_,_)]) (Z := [_,_]) (C := [_,_]) S24 Z71 N71 ⟨(.r rfl), trivial⟩ rfl rfl rfl rfl ⟨_, [_,_], [_,_], rfl, rfl, rfl, rfl, rfl⟩ fun b12 => VO.h rfl<|HO.appT ((⟨wthLo vs wh k, wthLo vs wh k⟩ : Span)) (f := Span.cells) 3 0 (fun R => [_,_,_, R,_,_,_]) S24 S24 I71 (.r rfl) (.r rfl) rfl rfl rfl rfl rfl rfl rfl (fun _ => rfl) rfl (by omega) fun p6 c6 => VO.l (LO.fa (r := 5) F26_1 (.r rfl) rfl) rfl<|VO.h0<|HO.st 2 (vs := [_]) (C' := [_,_,_,_,_,_]) (L' := [_,_,_,_,_,_,_]) N24 rfl rfl rfl rfl rfl rfl rfl rfl<|VO.nil ?_)
      refine VE.inN (VE.seqN ?_)
      refine VC.reg (VO.l (LO.add (.r rfl) (.r rfl) (wi (by omega) (by omega))) rfl<|VO.l (LO.mv (.r rfl)) rfl<|VO.nil ?_)
      refine VE.thenN fun a w ha hw => ⟨(k + 1, ml ++ [(⟨wthLo vs wh k, wthLo vs wh k⟩ : Span)], p6, c6), ⟨by dsimp only; omega, wth_eq hm (by unfold wthAt; rw [if_pos (by simpa using h40)])⟩, (by dsimp only; omega), ha.sub (.cons rfl (.cons rfl (.cons rfl (.cons rfl (.cons rfl (.cons rfl (.cons rfl .nil))))))), hw.sel [2,3,4,5,6] rfl⟩
  ·
    refine VC.exit (VE.thenX (VE.thenX (VE.inX (VE.seqN ?_))))
    refine VC.seq ?_
    refine VC.reg (VO.l (LO.lda (vs := [_,_,_,_,_,_]) A26 (.r rfl) (fun _ hw => cells_at hw 0 rfl ⟨_, rfl⟩) rfl) rfl<|VO.h0<|HO.st 2 (vs := [_,_,_,_,_,_]) (C' := [_,_,_,_,_,_]) (L' := [_,_,_,_,_]) N26 rfl rfl rfl rfl rfl rfl rfl rfl<|VO.nil ?_)
    refine VE.seqN ?_
    refine VC.ret (VE.res (vs := [_]) rfl ⟨RV.agg (vs := [_,_,_,_,_,_]) A26 rfl (cells_blk 2 rfl ⟨_, rfl⟩) rfl, trivial⟩ (fun w hw => ?_))
    have hke : k = vs.length := by omega
    subst hke
    subst hm
    exact ⟨⟨po, co⟩, trivial, rfl, selK [1] rfl rfl _ hw⟩

end Go.Proofs.Ytgemekpofpoopaa

namespace Go.Proofs.Ytgemekpofpoopaa
open Go.SL Go.Proofs Go.Cast Go.Cell
set_option linter.unusedVariables false

theorem C41 : IsFn Try.prog 41 := ⟨_, Try.func41, by decide, rfl⟩


set_option maxRecDepth 20000 in
theorem member_c (l : List Int) (p : Option Addr) (c : Nat) (n : Int) (w : World) (hl : Ints w p l) (hn : l.length ≤ 1000000) :
  Calls Try.prog 41 #[.slice p l.length c, .int .i64 n] w fun e w' => e = .returned (.bool (decide (n ∈ l))) ∧ St (bs w) [] w' := by
  refine enter (vs := [_,_]) (env := [(0,_), (1,_)]) Try.func41 rfl rfl rfl rfl ?_
  refine VC.seq ?_
  refine VC.reg (VO.l (LO.as (.r rfl)) rfl<|VO.nil ?_)
  refine VE.seqN ?_
  refine VC.seq ?_
  refine VC.seq ?_
  refine VC.reg (VO.l (LO.mv (.r rfl)) rfl<|VO.l (LO.len S40 (.r rfl) rfl) rfl<|VO.l (LO.mv (.r rfl)) rfl<|VO.nil ?_)
  refine VE.seqN ?_
  refine VC.block ?_
  refine VC.loopK (α := Nat) 0 (fun gx => [(9, .int .i64 (gx : Nat))]) [(1,_), (7,_), (8,_)] (fun gx => []) (fun gx => gx ≤ l.length ∧ ∀ k, k < gx → ¬ l.getD k 0 = n) (fun gx => l.length - gx) 0 (by exact ⟨Nat.zero_le _, fun k h => absurd h (Nat.not_lt_zero _)⟩) (.cons rfl (.cons rfl (.cons rfl (.cons rfl .nil)))) (fun _ h => h) ?_
  rintro i ⟨hi, hz⟩
  refine VC.seq ?_
  refine VC.reg (VO.l (LO.lt (.r rfl) (.r rfl)) rfl<|VO.nil ?_)
  refine VE.seqN ?_
  refine VC.seq ?_
  refine VC.cond rfl (fun h10 => ?_) (fun h10 => ?_)
  ·
    refine VC.skip (VE.seqN ?_)
    refine VC.seq ?_
    refine VC.block ?_
    refine VC.seq ?_
    refine VC.reg (VO.l (LO.ixs S40 N3 hl.some (.r rfl) (.r rfl) rfl (by omega)) rfl<|VO.l (LO.ld O3 (.r rfl) (fun w hw => cells_part (off := 0) ((hl.at (j := i) (by omega)) w hw) ⟨_, rfl⟩)) rfl<|VO.l (LO.as (.r rfl)) rfl<|VO.nil ?_)
    refine VE.seqN ?_
    refine VC.seq ?_
    refine VC.reg (VO.l (LO.mv (.r rfl)) rfl<|VO.l (LO.mv (.r rfl)) rfl<|VO.l (LO.eq (.r rfl) (.r rfl)) rfl<|VO.nil ?_)
    refine VE.seqN ?_
    refine VC.cond rfl (fun h15 => ?_) (fun h15 => ?_)
    ·
      refine VC.seq ?_
      refine VC.reg (VO.l (LO.as (.r rfl)) rfl<|VO.nil ?_)
      refine VE.seqN ?_
      refine VC.ret (VE.inR (VE.thenR (VE.thenR (VE.inR (VE.thenR (VE.res (vs := [_]) rfl ⟨rfl, trivial⟩ (fun w hw => ?_)))))))
      refine ⟨congrArg (fun z => Ending.returned (.bool z)) ?_, hw.nil⟩
      first | exact (decide_eq_true (mem_at (i := i) (by omega) h15)).symm | exact (decide_eq_false (mem_no (fun k hk => hz k (by omega)))).symm
    ·
      refine VC.skip (VE.inN (VE.seqN ?_))
      refine VC.reg (VO.l (LO.add (.r rfl) (.r rfl) (wi (by omega) (by omega))) rfl<|VO.l (LO.mv (.r rfl)) rfl<|VO.nil ?_)
      refine VE.thenN fun a w ha hw => ⟨i + 1, ⟨by omega, step_all (P := fun k => ¬ l.getD k 0 = n) hz h15⟩, (by omega), ha.sub (.cons rfl (.cons rfl (.cons rfl (.cons rfl .nil)))), hw⟩
  ·
    refine VC.exit (VE.thenX (VE.thenX (VE.inX (VE.seqN ?_))))
    refine VC.seq ?_
    refine VC.reg (VO.l (LO.as (.r rfl)) rfl<|VO.nil ?_)
    refine VE.seqN ?_
    refine VC.ret (VE.res (vs := [_]) rfl ⟨rfl, trivial⟩ (fun w hw => ?_))
    refine ⟨congrArg (fun z => Ending.returned (.bool z)) ?_, hw.nil⟩
    first | exact (decide_eq_true (mem_at (i := i) (by omega) h15)).symm | exact (decide_eq_false (mem_no (fun k hk => hz k (by omega)))).symm

end Go.Proofs.Ytgemekpofpoopaa

namespace Go.Proofs.Ytgemekpofpoopaa
open Go.SL Go.Proofs Go.Cast Go.Cell
set_option linter.unusedVariables false

theorem A63 : IsAgg Try.prog 63 4 := ⟨⟨_, Try.underlying63, rfl⟩, by kernel_rfl⟩
theorem C33 : IsFn Try.prog 33 := ⟨_, Try.func33, by decide, rfl⟩
theorem C34 : IsFn Try.prog 34 := ⟨_, Try.func34, by decide, rfl⟩
structure MpY where
  p : Option Addr
  c : Nat
  v : List Span
/-- A map of the statements. -/
structure FldOk (G : Grid) (vs : List Span) : Prop where
  grid : gridOk G
  wide : (vs.length : Int) = G.wide * G.high
  n : vs.length = gW G * gH G
  sp : ∀ j, j < vs.length → 0 ≤ (vs.getD j ⟨0,0⟩).lo ∧ (vs.getD j ⟨0,0⟩).lo ≤ (vs.getD j ⟨0,0⟩).hi ∧ (vs.getD j ⟨0,0⟩).hi ≤ 100
  le : vs.length ≤ 36
  pos : 0 < vs.length
theorem mapTo_get {x : MapA} {k j : Nat} (h : j < k) : (mapTo x k).getD j ⟨0,0⟩ = mapAt x j := by
  unfold mapTo; rw [List.getD_eq_getElem?_getD, List.getElem?_map, List.getElem?_range h]; rfl
theorem map_fld (x : MapA) : FldOk (mapG x) (mapVs x) := by
  obtain ⟨h1, h2, h3, h4⟩ := map_wh x
  have hl : (mapVs x).length = mapW x * mapH x := mapTo_len
  have hp : 0 < mapW x * mapH x := Nat.mul_pos (by omega) (by omega)
  refine ⟨by unfold gridOk; dsimp only; omega, ?_, ?_, fun j hj => ?_, by rw [hl]; exact map_area x, by omega⟩
  · rw [hl]; exact Int.natCast_mul _ _
  · rw [hl]; show _ = ((mapW x : Nat) : Int).toNat * ((mapH x : Nat) : Int).toNat; rw [Int.toNat_natCast, Int.toNat_natCast]
  · have h40 : vAt x.lo 40 j < 40 := vAt_lt (by decide)
    have h30 : vAt x.mo 30 j < 30 := vAt_lt (by decide)
    rw [hl] at hj
    unfold mapVs
    rw [mapTo_get hj]
    unfold mapAt
    dsimp only
    omega
theorem level_k (lv : Int) (n : Nat) (w : World) (hn : n ≤ 255) (hlv : lv = ((1 + n % 50 : Nat) : Int)) : Calls Try.prog 34 #[.int .u8 (n : Int)] w fun e w' => e = .returned (.int .i64 lv) ∧ St (bs w) [] w' := by
  subst hlv
  exact level_c n w hn
theorem open_zero {G : Grid} {vs : List Span} {lv : Int} (h : FldOk G vs) (h1 : 1 ≤ lv) (h2 : lv ≤ 1073741824) : openE G vs lv = 0 := by
  unfold openE
  rw [if_neg (fun q => q (fE4 (m := 1073741824) (f := ⟨G, vs⟩) (j := vs.length) h.grid h.wide (fun k hk => if_pos (by have := h.sp k hk; unfold spanOk; dsimp only; omega)) (Nat.le_refl _)).symm), if_neg (by omega)]
theorem may_of {G : Grid} {vs : List Span} {lv : Int} (h : FldOk G vs) : ∀ x, x < gW G * gH G → inB vs lv x = true → mayB vs lv x = true := fun x hx hi => by
  have := h.sp x (by rw [h.n]; exact hx)
  unfold inB at hi; unfold mayB; simp only [decide_eq_true_eq] at *; omega
end Go.Proofs.Ytgemekpofpoopaa

namespace Go.Proofs.Ytgemekpofpoopaa
open Go.SL Go.Proofs Go.Cast Go.Cell
set_option linter.unusedVariables false



set_option maxRecDepth 20000 in
set_option maxHeartbeats 16000000 in
theorem owners_c (g : Grid) (vs : List Span) (pv : Option Addr) (cv : Nat) (lv : Int) (y : ArY) (w : World) (hg : gridOk g) (hvl : vs.length = gW g * gH g) (hy : ArP (gW g) (gH g) vs lv y) (hr : ArRd w y) :
  Calls Try.prog 36 #[fieldV g pv vs.length cv, .slice y.p y.l.length y.c] w fun e w' => ∃ z : SlY, True ∧ e = .returned (.tuple #[.slice z.p (gW g * gH g) z.c, .bool true]) ∧ St (bs w) [own 3 1 z.p z.c ((ofL (gW g) (gH g) (mayB vs lv)).map iC)] w' := by
  have har := area_le hg
  have hnl := ar_len hy
  have hnb := ar_le hy
  have hap := parts_apart (W := gW g) (H := gH g) (S := mayB vs lv) (p := gW g * gH g) (Nat.le_refl _)
  refine enter (vs := [_,_]) (env := [(0,_), (1,_)]) Try.func36 rfl rfl rfl rfl ?_
  refine VC.seq ?_
  refine VC.reg (VO.h rfl<|HO.box (C := #[_,_,_,_,_,_]) rfl rfl fun b1 => VO.l (LO.as (.r rfl)) rfl<|VO.l (LO.as (.r rfl)) rfl<|VO.nil ?_)
  refine VE.seqN ?_
  refine VC.seq ?_
  refine VC.reg (VO.l (LO.fa (r := 5) F26_1 (.r rfl) rfl) rfl<|VO.l (LO.ld O24 (.r rfl) (fun _ hw => cells_at hw 0 rfl ⟨_, rfl⟩)) rfl<|VO.l (LO.len S24 (.r rfl) rfl) rfl<|VO.h rfl<|HO.mksM (f := iC) (z0 := (0 : Int)) (n := vs.length) rfl S40 I3 (.r rfl) (.r rfl) rfl (by decide) (by omega) (by omega) fun b2 => VO.h rfl<|HO.lo (LO.as (.r rfl))<|VO.nil ?_)
  refine VE.seqN ?_
  refine VC.seq ?_
  refine VC.seq ?_
  refine VC.reg (VO.l (LO.mv (.r rfl)) rfl<|VO.l (LO.len S40 (.r rfl) rfl) rfl<|VO.l (LO.mv (.r rfl)) rfl<|VO.nil ?_)
  refine VE.seqN ?_
  refine VC.block ?_
  refine VC.loopK (α := Nat × (List Int)) 1 (fun gx => [(18, .int .i64 (gx.1 : Nat))]) [(1,_), (6,_), (17,_)] (fun gx => [own 3 1 (some ⟨b2,0, none⟩) vs.length (gx.2.map iC)]) (fun gx => gx.1 ≤ vs.length ∧ gx.2.length = vs.length ∧ ∀ q, q < gx.1 → gx.2.getD q (-1) = -1) (fun gx => vs.length - gx.1) (0, (List.replicate vs.length 0)) (by exact ⟨Nat.zero_le _, by simp, fun q h => absurd h (Nat.not_lt_zero _)⟩) (.cons rfl (.cons rfl (.cons rfl (.cons rfl .nil)))) (fun _ h => h) ?_
  rintro ⟨p, ls⟩ ⟨hp, hll, hz⟩
  show VC _ _ _ _ _ ([(18, .int .i64 (p : Nat))] ++ _) ([own 3 1 (some ⟨b2,0, none⟩) vs.length (ls.map iC)] ++ _) _ _
  dsimp only at hp hll hz
  refine VC.seq ?_
  refine VC.reg (VO.l (LO.lt (.r rfl) (.r rfl)) rfl<|VO.nil ?_)
  refine VE.seqN ?_
  refine VC.seq ?_
  refine VC.cond rfl (fun h19 => ?_) (fun h19 => ?_)
  ·
    refine VC.skip (VE.seqN ?_)
    refine VC.seq ?_
    refine VC.block ?_
    refine VC.seq ?_
    refine VC.reg (VO.l (LO.mv (.r rfl)) rfl<|VO.l (LO.as (.r rfl)) rfl<|VO.nil ?_)
    refine VE.seqN ?_
    refine VC.reg (VO.l (LO.mv (.r rfl)) rfl<|VO.l (LO.mv (.r rfl)) rfl<|VO.l (LO.ixo S40 N3 (fun _ hw => (own_rows hw 0 rfl).some (by rw [List.length_map]; first | omega | (rw [owT_len]; done) | (rw [owT_len]; omega))) (.r rfl) (.r rfl) rfl (by omega)) rfl<|VO.h0<|HO.stm 0 (fun R => [R,_]) ((-1 : Int)) (vs := [_]) N3 (.r rfl) (.r rfl) rfl (by omega) rfl rfl rfl rfl rfl (fun _ => rfl)<|VO.nil ?_)
    refine VE.inN (VE.seqN ?_)
    refine VC.reg (VO.l (LO.add (.r rfl) (.r rfl) (wi (by omega) (by omega))) rfl<|VO.l (LO.mv (.r rfl)) rfl<|VO.nil ?_)
    refine VE.thenN fun a w ha hw => ⟨(p + 1, ls.set p (-1)), ⟨by dsimp only; omega, by dsimp only; rw [List.length_set]; exact hll, fill_step hll (by omega) hz⟩, (by dsimp only; omega), ha.sub (.cons rfl (.cons rfl (.cons rfl (.cons rfl .nil)))), hw⟩
  ·
    have hpe : p = vs.length := by omega
    subst hpe
    rw [fill_end hll hz, ← List.take_zero (l := partsL (gW g) (gH g) (mayB vs lv))]
    refine VC.exit (VE.thenX (VE.thenX (VE.inX (VE.seqN ?_))))
    refine VC.seq ?_
    refine VC.seq ?_
    refine VC.reg (VO.l (LO.mv (.r rfl)) rfl<|VO.l (LO.len S29 (.r rfl) rfl) rfl<|VO.l (LO.mv (.r rfl)) rfl<|VO.nil ?_)
    refine VE.seqN ?_
    refine VC.block ?_
    refine VC.loopK (α := Nat) 1 (fun gx => [(27, .int .i64 (gx : Nat))]) [(6,_), (25,_), (26,_)] (fun gx => [own 3 1 (some ⟨b2,0, none⟩) vs.length ((ofP vs.length ((partsL (gW g) (gH g) (mayB vs lv)).take gx)).map iC)]) (fun gx => gx ≤ y.l.length) (fun gx => y.l.length - gx) 0 (by exact Nat.zero_le _) (.cons rfl (.cons rfl (.cons rfl (.cons rfl .nil)))) (fun _ h => h) ?_
    rintro i hi
    refine VC.seq ?_
    refine VC.reg (VO.l (LO.lt (.r rfl) (.r rfl)) rfl<|VO.nil ?_)
    refine VE.seqN ?_
    refine VC.seq ?_
    refine VC.cond rfl (fun h28 => ?_) (fun h28 => ?_)
    ·
      obtain ⟨aa, haa⟩ := get_ex (l := y.l) (n := i) (by omega)
      obtain ⟨hp1, hp2, hp3, hp4⟩ := ar_part hy haa
      rw [owT_zero (i := i) (l := aa.px.l)]
      refine VC.skip (VE.seqN ?_)
      refine VC.seq ?_
      refine VC.block ?_
      refine VC.seq ?_
      refine VC.reg (VO.l (LO.mv (.r rfl)) rfl<|VO.l (LO.ixs S29 N73 hr.ar.sm (.r rfl) (.r rfl) rfl (by omega)) rfl<|VO.l (LO.lda (vs := [_,_,_,_,_,_,_,_]) A73 (.r rfl) (fun w hw => cells_part (off := 0) ((fun w3 h3 => RO.cel (hr.keep w3 h3).ar haa) w hw) ⟨_, rfl⟩) rfl) rfl<|VO.h rfl<|HO.alloc (C := #[_,_,_,_,_,_,_,_]) Z73 rfl fun b3 => VO.l (LO.as (.r rfl)) rfl<|VO.h0<|HO.st 0 (vs := [_,_,_,_,_,_,_,_]) (C' := [_,_,_,_,_,_,_,_]) (L' := [_,_,_]) N73 rfl rfl rfl rfl rfl rfl rfl rfl<|VO.nil ?_)
      refine VE.seqN ?_
      refine VC.seq ?_
      refine VC.reg (VO.l (LO.fa (r := 0) F73_0 (.r rfl) rfl) rfl<|VO.l (LO.ld O40 (.r rfl) (fun _ hw => cells_at hw 0 rfl ⟨_, rfl⟩)) rfl<|VO.l (LO.len S40 (.r rfl) rfl) rfl<|VO.l (LO.mv (.r rfl)) rfl<|VO.nil ?_)
      refine VE.seqN ?_
      refine VC.block ?_
      refine VC.perm [1,0,2] rfl ?_
      refine VC.loopK (α := Nat) 1 (fun gx => [(35, .int .i64 (gx : Nat))]) [(6,_), (8,_), (25,_), (26,_), (27,_), (33,_), (34,_)] (fun gx => [own 3 1 (some ⟨b2,0, none⟩) vs.length ((owT vs.length ((partsL (gW g) (gH g) (mayB vs lv)).take i) i aa.px.l gx).map iC)]) (fun gx => gx ≤ aa.px.l.length) (fun gx => aa.px.l.length - gx) 0 (by exact Nat.zero_le _) (.cons rfl (.cons rfl (.cons rfl (.cons rfl (.cons rfl (.cons rfl (.cons rfl (.cons rfl .nil)))))))) (fun _ h => h) ?_
      rintro k hk
      refine VC.seq ?_
      refine VC.reg (VO.l (LO.lt (.r rfl) (.r rfl)) rfl<|VO.nil ?_)
      refine VE.seqN ?_
      refine VC.seq ?_
      refine VC.cond rfl (fun h36 => ?_) (fun h36 => ?_)
      ·
        obtain ⟨p, hpk⟩ := get_ex (l := aa.px.l) (n := k) (by omega)
        have hpn := hp3 p (List.mem_of_getElem? hpk)
        have hnew := owT_new hp1 hap hp2 hpk
        refine VC.skip (VE.seqN ?_)
        refine VC.seq ?_
        refine VC.block ?_
        refine VC.seq ?_
        refine VC.reg (VO.l (LO.ixs S40 N3 (hr.px aa (List.mem_of_getElem? haa)).sm (.r rfl) (.r rfl) rfl (by omega)) rfl<|VO.l (LO.ld O3 (.r rfl) (fun w hw => cells_part (off := 0) ((fun w3 h3 => RO.cel ((hr.keep w3 h3).px aa (List.mem_of_getElem? haa)) hpk) w hw) ⟨_, rfl⟩)) rfl<|VO.l (LO.as (.r rfl)) rfl<|VO.nil ?_)
        refine VE.seqN ?_
        refine VC.seq ?_
        refine VC.seq ?_
        refine VC.reg (VO.l (LO.mv (.r rfl)) rfl<|VO.l (LO.lt (.r rfl) (.r rfl)) rfl<|VO.l (LO.mv (.r rfl)) rfl<|VO.lg rfl rfl (GD.f _) (fun hg => LO.mv (.r rfl)) rfl<|VO.lg rfl rfl (GD.f _) (fun hg => LO.mv (.r rfl)) rfl<|VO.lg rfl rfl (GD.f _) (fun hg => LO.len S40 (.g hg rfl) rfl) rfl<|VO.lg rfl rfl (GD.f _) (fun hg => LO.ge (.g hg rfl) (.g hg rfl)) rfl<|VO.l (LO.pkO (.r rfl) (.r rfl) rfl rfl) rfl<|VO.l (LO.mv (.r rfl)) rfl<|VO.lg rfl rfl (GD.f _) (fun hg => LO.mv (.r rfl)) rfl<|VO.lg rfl rfl (GD.f _) (fun hg => LO.mv (.r rfl)) rfl<|VO.lg rfl rfl (GD.f _) (fun hg => LO.ixo S40 N3 (fun _ hw => (own_rows hw 0 rfl).some (by rw [List.length_map]; first | omega | (rw [owT_len]; done) | (rw [owT_len]; omega))) (.g hg rfl) (.g hg rfl) rfl (by omega)) rfl<|VO.lg rfl rfl (GD.f _) (fun hg => LO.ld O3 (.g hg rfl) (fun w hw => cells_part (off := 0) (own_cell hw 0 rfl (owT_get (by omega))) ⟨_, rfl⟩)) rfl<|VO.lg rfl rfl (GD.f _) (fun hg => LO.ge (.g hg rfl) (.r rfl)) rfl<|VO.l (LO.pkO (.r rfl) (.r rfl) rfl rfl) rfl<|VO.nil ?_)
        refine VE.seqN ?_
        refine VC.cond rfl (fun h53 => ?_) (fun h53 => ?_)
        ·
          (exfalso; (rw [hnew] at h53; omega))
        ·
          refine VC.skip (VE.seqN ?_)
          refine VC.reg (VO.l (LO.mv (.r rfl)) rfl<|VO.l (LO.mv (.r rfl)) rfl<|VO.l (LO.mv (.r rfl)) rfl<|VO.l (LO.ixo S40 N3 (fun _ hw => (own_rows hw 0 rfl).some (by rw [List.length_map]; first | omega | (rw [owT_len]; done) | (rw [owT_len]; omega))) (.r rfl) (.r rfl) rfl (by omega)) rfl<|VO.h0<|HO.stm 0 (fun R => [R,_,_]) ((i : Int)) (vs := [_]) N3 (.r rfl) (.r rfl) rfl (by rw [owT_len]; omega) rfl rfl rfl rfl rfl (fun _ => rfl)<|VO.nil ?_)
          rw [owT_set hpk (by omega)]
          refine VE.inN (VE.seqN ?_)
          refine VC.reg (VO.l (LO.add (.r rfl) (.r rfl) (wi (by omega) (by omega))) rfl<|VO.l (LO.mv (.r rfl)) rfl<|VO.nil ?_)
          refine VE.thenN fun a w ha hw => ⟨k + 1, (by omega), (by omega), ha.sub (.cons rfl (.cons rfl (.cons rfl (.cons rfl (.cons rfl (.cons rfl (.cons rfl (.cons rfl .nil)))))))), hw⟩
      ·
        refine VC.exit (VE.thenX (VE.thenX (VE.inX (VE.inN (VE.seqN ?_)))))
        refine VC.reg (VO.l (LO.add (.r rfl) (.r rfl) (wi (by omega) (by omega))) rfl<|VO.l (LO.mv (.r rfl)) rfl<|VO.nil ?_)
        have hke : k = aa.px.l.length := by omega
        subst hke
        rw [owT_done hp1 hap]
        refine VE.thenN fun a w ha hw => ⟨i + 1, (by omega), (by omega), ha.sub (.cons rfl (.cons rfl (.cons rfl (.cons rfl .nil)))), hw.sel [0,2] rfl⟩
    ·
      have hie : i = y.l.length := by omega
      subst hie
      rw [show y.l.length = (partsL (gW g) (gH g) (mayB vs lv)).length from hnl.symm, List.take_length]
      refine VC.exit (VE.thenX (VE.thenX (VE.inX (VE.seqN ?_))))
      refine VC.seq ?_
      refine VC.reg (VO.l (LO.mv (.r rfl)) rfl<|VO.l (LO.as (.r rfl)) rfl<|VO.l (LO.as (.r rfl)) rfl<|VO.nil ?_)
      refine VE.seqN ?_
      refine VC.ret (VE.res (vs := [_,_]) rfl ⟨rfl, rfl, trivial⟩ (fun w hw => ?_))
      rw [hvl] at hw
      exact ⟨⟨_,_⟩, trivial, by rw [← hvl]; rfl, selK [0] rfl rfl _ hw⟩

end Go.Proofs.Ytgemekpofpoopaa

namespace Go.Proofs.Ytgemekpofpoopaa
open Go.SL Go.Proofs Go.Cast Go.Cell
set_option linter.unusedVariables false
/-- A map whose spans lie within those of another one. -/
structure WthOk (vs ts : List Span) (pt : Bool) : Prop where
  len : ts.length = vs.length
  sp : ∀ j, j < vs.length → (vs.getD j ⟨0,0⟩).lo ≤ (ts.getD j ⟨0,0⟩).lo ∧ (ts.getD j ⟨0,0⟩).lo ≤ (ts.getD j ⟨0,0⟩).hi ∧ (ts.getD j ⟨0,0⟩).hi ≤ (vs.getD j ⟨0,0⟩).hi
  pnt : pt = true → ∀ j, j < vs.length → (ts.getD j ⟨0,0⟩).lo = (ts.getD j ⟨0,0⟩).hi
theorem wth_get {vs : List Span} {wh : List Nat} {pt : Bool} {j : Nat} (h : j < vs.length) : (wthM vs wh pt).getD j ⟨0,0⟩ = wthAt vs wh pt j := by
  unfold wthM wthTo; rw [List.getD_eq_getElem?_getD, List.getElem?_map, List.getElem?_range h]; rfl
theorem wth_ok {vs : List Span} {wh : List Nat} {pt : Bool} (h : ∀ j, j < vs.length → (vs.getD j ⟨0,0⟩).lo ≤ (vs.getD j ⟨0,0⟩).hi) : WthOk vs (wthM vs wh pt) pt where
  len := wthTo_len
  sp := fun j hj => by rw [wth_get hj]; exact wth_in (h j hj)
  pnt := fun e j hj => by subst e; rw [wth_get hj]; unfold wthAt; rw [if_pos rfl]
theorem fld_wth {G : Grid} {vs ts : List Span} {pt : Bool} (h : FldOk G vs) (k : WthOk vs ts pt) : FldOk G ts where
  grid := h.grid
  wide := by rw [k.len]; exact h.wide
  n := by rw [k.len]; exact h.n
  sp := fun j hj => by rw [k.len] at hj; have := k.sp j hj; have := h.sp j hj; omega
  le := by rw [k.len]; exact h.le
  pos := by rw [k.len]; exact h.pos
theorem within_k (G : Grid) (vs : List Span) (pv : Option Addr) (cv : Nat) (wh : List Nat) (pw : Option Addr) (cw : Nat) (pt : Bool) (w : World) (hv : Spans w pv vs) (hwh : RO 1 uC w pw wh) (h8 : ∀ n, n ∈ wh → n ≤ 255) (hwl : wh.length ≤ 9223372036854775807) (h : FldOk G vs) : Calls Try.prog 35 #[fieldV G pv vs.length cv, .slice pw wh.length cw, .bool pt] w fun e w' => ∃ y : MpY, WthOk vs y.v pt ∧ e = .returned (fieldV G y.p y.v.length y.c) ∧ St (bs w) [own 71 2 y.p y.c (y.v.map Span.cells)] w' :=
  (within_c G vs pv cv wh pw cw pt w hv hwh h8 hwl (fun j hj => by have := h.sp j hj; omega) (by have := h.le; omega)).mono fun e w' ⟨y,_, h2, h3⟩ => ⟨⟨y.p, y.c, wthM vs wh pt⟩, wth_ok fun j hj => (h.sp j hj).2.1, h2, h3⟩
theorem Areas_k (G : Grid) (vs : List Span) (pv : Option Addr) (cv : Nat) (lv : Int) (w : World) (hv : Spans w pv vs) (h : FldOk G vs) (h1 : 1 ≤ lv) (h2 : lv ≤ 1073741824) : Calls Try.prog 17 #[fieldV G pv vs.length cv, .int .i64 lv] w fun e w' => ∃ y : ArY, ArP (gW G) (gH G) vs lv y ∧ e = .returned (.tuple #[.slice y.p y.l.length y.c, .int .i64 0]) ∧ St (bs w) (y.R (ofL (gW G) (gH G) (mayB vs lv))) w' := Areas_ok G vs pv cv lv w hv (open_zero h h1 h2)
/-- The areas' owners of pixels. -/
structure OwOk (W H : Nat) (M : Nat → Bool) (o : List Int) : Prop where
  len : o.length = W * H
  get : ∀ q, q < W * H → o.getD q (-1) = idxL (partsL W H M) q
theorem ow_ok {W H : Nat} {M : Nat → Bool} : OwOk W H M (ofL W H M) := ⟨ofL_len, fun q hq => by rw [List.getD_eq_getElem?_getD, ofL_get hq]; rfl⟩
theorem owners_k (G : Grid) (vs : List Span) (pv : Option Addr) (cv : Nat) (lv : Int) (y : ArY) (w : World) (h : FldOk G vs) (hy : ArP (gW G) (gH G) vs lv y) (hr : ArRd w y) : Calls Try.prog 36 #[fieldV G pv vs.length cv, .slice y.p y.l.length y.c] w fun e w' => ∃ z : PnY, OwOk (gW G) (gH G) (mayB vs lv) z.l ∧ e = .returned (.tuple #[.slice z.p z.l.length z.c, .bool true]) ∧ St (bs w) [own 3 1 z.p z.c (z.l.map iC)] w' :=
  (owners_c G vs pv cv lv y w h.grid h.n hy hr).mono fun e w' ⟨z,_, h2, h3⟩ => ⟨⟨z.p, z.c, ofL (gW G) (gH G) (mayB vs lv)⟩, ow_ok, by rw [h2, ofL_len], h3⟩
section
variable {W H : Nat} {S M T : Nat → Bool} {vs ts : List Span} {lv : Int} {y : ArY} {co ow : List Int} {k i : Nat}
theorem ow_at (how : OwOk W H M ow) (hk : k < W * H) (h : M k = true) : ∃ i : Nat, ow.getD k (-1) = i ∧ i < (partsL W H M).length := by
  obtain ⟨i, l, h1, h2, h3⟩ := idx_of ((idx_parts hk).2 h)
  exact ⟨i, by rw [how.get k hk, h3], (List.getElem?_eq_some_iff.1 h1).1⟩
theorem ow_cn (how : OwOk W H M ow) (hk : k < W * H) {c : Nat} (h : Cn W H M k c) : ow.getD c (-1) = ow.getD k (-1) := by
  rw [how.get k hk, how.get c (h.lt hk)]; exact ((idx_cn hk h.left).2 h).symm
end
end Go.Proofs.Ytgemekpofpoopaa

namespace Go.Proofs.Ytgemekpofpoopaa
open Go.SL Go.Proofs Go.Cast Go.Cell
set_option linter.unusedVariables false
theorem mem_castI {l : List Nat} {p : Nat} : ((p : Int) ∈ l.map fun n : Nat => (n : Int)) ↔ p ∈ l := by
  rw [List.mem_map]
  exact ⟨fun ⟨a, h1, h2⟩ => by have : a = p := by omega
                               subst this; exact h1, fun h => ⟨p, h, rfl⟩⟩
theorem ro_I {w : World} {p : Option Addr} {l : List Nat} (h : RO 1 nC w p l) : RO 1 iC w p (l.map fun n : Nat => (n : Int)) := by
  have e : (l.map fun n : Nat => (n : Int)).map iC = l.map nC := by rw [List.map_map]; rfl
  unfold RO at *; rw [e]; exact h
section
variable {W H : Nat} {vs ts : List Span} {lv : Int} {ar br : ArY} {ow sm : List Int} {i j m p : Nat}
end
end Go.Proofs.Ytgemekpofpoopaa

namespace Go.Proofs.Ytgemekpofpoopaa
open Go.SL Go.Proofs Go.Cast Go.Cell
set_option linter.unusedVariables false

theorem C35 : IsFn Try.prog 35 := ⟨_, Try.func35, by decide, rfl⟩
theorem C36 : IsFn Try.prog 36 := ⟨_, Try.func36, by decide, rfl⟩
end Go.Proofs.Ytgemekpofpoopaa

namespace Go.Proofs.Ytgemekpofpoopaa
open Go.SL Go.Proofs Go.Cast Go.Cell
set_option linter.unusedVariables false



/-- Where a pixel's value comes from lies in the grid. -/
def drIn (W H p : Nat) (x y : Int) : Bool := decide (0 ≤ ((p % W : Nat) : Int) - x ∧ ((p % W : Nat) : Int) - x < W ∧ 0 ≤ ((p / W : Nat) : Int) - y ∧ ((p / W : Nat) : Int) - y < H)
def drQ (W p : Nat) (x y : Int) : Nat := ((((p / W : Nat) : Int) - y) * W + (((p % W : Nat) : Int) - x)).toNat
def drAt (W H : Nat) (vs : List Span) (ot : List Nat) (x y : Int) (p : Nat) : Span := if drIn W H p x y = true then vs.getD (drQ W p x y) ⟨0,0⟩ else ⟨((vAt ot 70 p : Nat) : Int), ((vAt ot 70 p : Nat) : Int)⟩
def drTo (W H : Nat) (vs : List Span) (ot : List Nat) (x y : Int) (k : Nat) : List Span := (List.range k).map (drAt W H vs ot x y)
theorem drTo_succ {W H : Nat} {vs : List Span} {ot : List Nat} {x y : Int} {k : Nat} : drTo W H vs ot x y (k + 1) = drTo W H vs ot x y k ++ [drAt W H vs ot x y k] := by unfold drTo; rw [List.range_succ, List.map_append]; rfl
theorem drTo_len {W H : Nat} {vs : List Span} {ot : List Nat} {x y : Int} {k : Nat} : (drTo W H vs ot x y k).length = k := by unfold drTo; simp
theorem dr_eq {W H : Nat} {vs ml : List Span} {ot : List Nat} {x y : Int} {k : Nat} {s : Span} (h : ml = drTo W H vs ot x y k) (e : s = drAt W H vs ot x y k) : ml ++ [s] = drTo W H vs ot x y (k + 1) := by rw [h, e, drTo_succ]
theorem dr_t {W H : Nat} {vs : List Span} {ot : List Nat} {x y : Int} {k q : Nat} (hc : ((0 ≤ ((k % W : Nat) : Int) - x ∧ ((k % W : Nat) : Int) - x < (W : Int)) ∧ 0 ≤ ((k / W : Nat) : Int) - y) ∧ ((k / W : Nat) : Int) - y < (H : Int)) (hq : drQ W k x y = q) : vs.getD q ⟨0,0⟩ = drAt W H vs ot x y k := by
  unfold drAt; rw [if_pos (show drIn W H k x y = true from decide_eq_true (by omega)), hq]
theorem dr_f {W H : Nat} {vs : List Span} {ot : List Nat} {x y : Int} {k : Nat} {n : Int} (hc : ¬ (((0 ≤ ((k % W : Nat) : Int) - x ∧ ((k % W : Nat) : Int) - x < (W : Int)) ∧ 0 ≤ ((k / W : Nat) : Int) - y) ∧ ((k / W : Nat) : Int) - y < (H : Int))) (hn : n = ((vAt ot 70 k : Nat) : Int)) : (⟨n, n⟩ : Span) = drAt W H vs ot x y k := by
  unfold drAt; rw [if_neg (fun z => hc (by have := of_decide_eq_true z; omega)), hn]
def arAt (vs : List Span) (le mo : List Nat) (p : Nat) : Span := ⟨max 0 ((vs.getD p ⟨0,0⟩).lo - ((vAt le 20 p : Nat) : Int)), (vs.getD p ⟨0,0⟩).hi + ((vAt mo 20 p : Nat) : Int)⟩
def arTo (vs : List Span) (le mo : List Nat) (k : Nat) : List Span := (List.range k).map (arAt vs le mo)
theorem arTo_succ {vs : List Span} {le mo : List Nat} {k : Nat} : arTo vs le mo (k + 1) = arTo vs le mo k ++ [arAt vs le mo k] := by unfold arTo; rw [List.range_succ, List.map_append]; rfl
theorem arTo_len {vs : List Span} {le mo : List Nat} {k : Nat} : (arTo vs le mo k).length = k := by unfold arTo; simp
theorem ar_eq {vs ml : List Span} {le mo : List Nat} {k : Nat} {s : Span} (h : ml = arTo vs le mo k) (e : s = arAt vs le mo k) : ml ++ [s] = arTo vs le mo (k + 1) := by rw [h, e, arTo_succ]
theorem arAt_of {vs : List Span} {le mo : List Nat} {k : Nat} {lo hi : Int} (h1 : lo = max 0 ((vs.getD k ⟨0,0⟩).lo - ((vAt le 20 k : Nat) : Int))) (h2 : hi = (vs.getD k ⟨0,0⟩).hi + ((vAt mo 20 k : Nat) : Int)) : Span.mk lo hi = arAt vs le mo k := by subst h1; subst h2; rfl
/-- What is read of events. -/
structure EvI (w : World) (p : Option Addr) (l : List EvR) : Prop where
  ev : RO 3 EvR.cells w p l
  f : ∀ e, e ∈ l → RO 1 nC w e.fp e.f
  t : ∀ e, e ∈ l → RO 1 nC w e.tp e.t
theorem EvI.keep {w0 : World} {p : Option Addr} {l : List EvR} (h : EvI w0 p l) : ∀ {L : List Res} (w : World), St (bs w0) L w → EvI w p l := fun w hw => ⟨h.ev.keep w hw, fun e he => (h.f e he).keep w hw, fun e he => (h.t e he).keep w hw⟩
theorem EvI.of_res {β : Bs} {L : List Res} {w : World} {y : EvY} (hw : St β (y.R ++ L) w) : EvI w y.p y.l :=
  ⟨RO.of_own hw 0 rfl, fun e he => RO.of_bag (E := 3) (z := 1) (P := EvR.fp) (C := EvR.fc) (X := EvR.f) (f := nC) hw 1 rfl he, fun e he => RO.of_bag (E := 3) (z := 1) (P := EvR.tp) (C := EvR.tc) (X := EvR.t) (f := nC) hw 2 rfl he⟩
theorem member_k (l : List Nat) (p : Option Addr) (c : Nat) (n : Nat) (w : World) (hl : RO 1 nC w p l) (hn : l.length ≤ 1000000) : Calls Try.prog 41 #[.slice p l.length c, .int .i64 (n : Int)] w fun e w' => e = .returned (.bool (decide (n ∈ l))) ∧ St (bs w) [] w' := by
  have z := member_c (l.map fun n : Nat => (n : Int)) p c n w (ro_I hl) (by rw [List.length_map]; exact hn)
  rw [List.length_map] at z
  refine z.mono fun e w' ⟨h1, h2⟩ => ⟨?_, h2⟩
  rw [h1]
  refine congrArg (fun b => Ending.returned (.bool b)) ?_
  by_cases h : n ∈ l
  · rw [decide_eq_true h, decide_eq_true (mem_castI.2 h)]
  · rw [decide_eq_false h, decide_eq_false fun z => h (mem_castI.1 z)]
def tgB (l : List EvR) (i j : Nat) : Bool := l.any fun e => decide (i ∈ e.f) && decide (j ∈ e.t)
theorem tg_t {l : List EvR} {i j k : Nat} {e : EvR} (he : l[k]? = some e) (h1 : i ∈ e.f ∧ j ∈ e.t) : tgB l i j = true := List.any_eq_true.2 ⟨e, List.mem_of_getElem? he, by rw [decide_eq_true h1.1, decide_eq_true h1.2]; rfl⟩
theorem tg_f {l : List EvR} {i j : Nat} (h : ∀ k e, k < l.length → l[k]? = some e → ¬ (i ∈ e.f ∧ j ∈ e.t)) : tgB l i j = false := List.any_eq_false.2 fun e he => by
  obtain ⟨k, hk, rfl⟩ := List.mem_iff_getElem.1 he
  have := h k _ hk (List.getElem?_eq_getElem hk)
  simpa using this
theorem step_e {P : EvR → Prop} {rs : List EvR} {i : Nat} {x : EvR} (h : ∀ k y, k < i → rs[k]? = some y → P y) (hx : rs[i]? = some x) (hp : P x) : ∀ k y, k < i + 1 → rs[k]? = some y → P y := fun k y hk hy => by
  rcases Nat.lt_succ_iff_lt_or_eq.1 hk with q | rfl
  · exact h k y q hy
  · rw [hx] at hy; cases hy; exact hp

set_option maxRecDepth 20000 in
set_option maxHeartbeats 4000000 in
theorem together_c (l : List EvR) (p : Option Addr) (c : Nat) (i j : Nat) (w : World) (hl : EvI w p l) (hn : l.length ≤ 1000000) (hln : ∀ e, e ∈ l → e.f.length ≤ 1000000 ∧ e.t.length ≤ 1000000) :
  Calls Try.prog 46 #[.slice p l.length c, .int .i64 (i : Int), .int .i64 (j : Int)] w fun e w' => e = .returned (.bool (tgB l i j)) ∧ St (bs w) [] w' := by
  refine enter (vs := [_,_,_]) (env := [(0,_), (1,_), (2,_)]) Try.func46 rfl rfl rfl rfl ?_
  refine VC.seq ?_
  refine VC.reg (VO.l (LO.as (.r rfl)) rfl<|VO.nil ?_)
  refine VE.seqN ?_
  refine VC.seq ?_
  refine VC.seq ?_
  refine VC.reg (VO.l (LO.mv (.r rfl)) rfl<|VO.l (LO.len S46 (.r rfl) rfl) rfl<|VO.l (LO.mv (.r rfl)) rfl<|VO.nil ?_)
  refine VE.seqN ?_
  refine VC.block ?_
  refine VC.loopK (α := Nat) 0 (fun gx => [(11, .int .i64 (gx : Nat))]) [(1,_), (2,_), (9,_), (10,_)] (fun gx => []) (fun gx => gx ≤ l.length ∧ ∀ m e, m < gx → l[m]? = some e → ¬ (i ∈ e.f ∧ j ∈ e.t)) (fun gx => l.length - gx) 0 (by exact ⟨Nat.zero_le _, fun k y h => absurd h (Nat.not_lt_zero _)⟩) (.cons rfl (.cons rfl (.cons rfl (.cons rfl (.cons rfl .nil))))) (fun _ h => h) ?_
  rintro k ⟨hk, hz⟩
  refine VC.seq ?_
  refine VC.reg (VO.l (LO.lt (.r rfl) (.r rfl)) rfl<|VO.nil ?_)
  refine VE.seqN ?_
  refine VC.seq ?_
  refine VC.cond rfl (fun h12 => ?_) (fun h12 => ?_)
  ·
    obtain ⟨ee, hee⟩ := get_ex (l := l) (n := k) (by omega)
    refine VC.skip (VE.seqN ?_)
    refine VC.seq ?_
    refine VC.block ?_
    refine VC.seq ?_
    refine VC.reg (VO.l (LO.ixs S46 N81 hl.ev.sm (.r rfl) (.r rfl) rfl (by omega)) rfl<|VO.l (LO.lda (vs := [_,_,_]) A81 (.r rfl) (fun w hw => cells_part (off := 0) ((fun w3 h3 => RO.cel (hl.keep w3 h3).ev hee) w hw) ⟨_, rfl⟩) rfl) rfl<|VO.h rfl<|HO.alloc (C := #[_,_,_]) Z81 rfl fun b1 => VO.h0<|HO.st 0 (vs := [_,_,_]) (C' := [_,_,_]) (L' := [_]) N81 rfl rfl rfl rfl rfl rfl rfl rfl<|VO.nil ?_)
    refine VE.seqN ?_
    refine VC.seq ?_
    refine VC.reg (VO.l (LO.fa (r := 1) F81_1 (.r rfl) rfl) rfl<|VO.l (LO.ld O40 (.r rfl) (fun _ hw => cells_at hw 0 rfl ⟨_, rfl⟩)) rfl<|VO.l (LO.mv (.r rfl)) rfl<|VO.l (LO.call (xs := [_,_]) (vs := [_,_]) C41 ⟨(.r rfl), (.r rfl), trivial⟩ (fun w2 hw => member_k ee.f ee.fp ee.fc i w2 ((hl.keep w2 hw).f ee (List.mem_of_getElem? hee)) (hln ee (List.mem_of_getElem? hee)).1)) rfl<|VO.l (LO.mv (.r rfl)) rfl<|VO.lg rfl rfl (GD.t _) (fun hg => LO.fa (r := 2) F81_2 (.r rfl) rfl) rfl<|VO.lg rfl rfl (GD.t _) (fun hg => LO.ld O40 (.g hg rfl) (fun _ hw => cells_at hw 0 rfl ⟨_, rfl⟩)) rfl<|VO.lg rfl rfl (GD.t _) (fun hg => LO.mv (.r rfl)) rfl<|VO.lg rfl rfl (GD.t _) (fun hg => LO.call (xs := [_,_]) (vs := [_,_]) C41 ⟨(.g hg rfl), (.g hg rfl), trivial⟩ (fun w2 hw => member_k ee.t ee.tp ee.tc j w2 ((hl.keep w2 hw).t ee (List.mem_of_getElem? hee)) (hln ee (List.mem_of_getElem? hee)).2)) rfl<|VO.l (LO.pkA (.r rfl) rfl rfl (.r rfl)) rfl<|VO.nil ?_)
    refine VE.seqN ?_
    refine VC.cond rfl (fun h24 => ?_) (fun h24 => ?_)
    ·
      refine VC.seq ?_
      refine VC.reg (VO.l (LO.as (.r rfl)) rfl<|VO.nil ?_)
      refine VE.seqN ?_
      refine VC.ret (VE.inR (VE.thenR (VE.thenR (VE.inR (VE.thenR (VE.res (vs := [_]) rfl ⟨rfl, trivial⟩ (fun w hw => ?_)))))))
      refine ⟨congrArg (fun z => Ending.returned (.bool z)) ?_, hw.nil⟩
      first | exact (tg_t hee h24).symm | exact (tg_f (fun k y hk hy => hz k y (by omega) hy)).symm
    ·
      refine VC.skip (VE.inN (VE.seqN ?_))
      refine VC.reg (VO.l (LO.add (.r rfl) (.r rfl) (wi (by omega) (by omega))) rfl<|VO.l (LO.mv (.r rfl)) rfl<|VO.nil ?_)
      refine VE.thenN fun a w ha hw => ⟨k + 1, ⟨by omega, step_e (P := fun e => ¬ (i ∈ e.f ∧ j ∈ e.t)) hz hee h24⟩, (by omega), ha.sub (.cons rfl (.cons rfl (.cons rfl (.cons rfl (.cons rfl .nil))))), hw.sel [] rfl⟩
  ·
    refine VC.exit (VE.thenX (VE.thenX (VE.inX (VE.seqN ?_))))
    refine VC.seq ?_
    refine VC.reg (VO.l (LO.as (.r rfl)) rfl<|VO.nil ?_)
    refine VE.seqN ?_
    refine VC.ret (VE.res (vs := [_]) rfl ⟨rfl, trivial⟩ (fun w hw => ?_))
    refine ⟨congrArg (fun z => Ending.returned (.bool z)) ?_, hw.nil⟩
    first | exact (tg_t hee h24).symm | exact (tg_f (fun k y hk hy => hz k y (by omega) hy)).symm

set_option maxRecDepth 20000 in
set_option maxHeartbeats 16000000 in
theorem drifted_c (g : Grid) (vs : List Span) (pv : Option Addr) (cv : Nat) (x y : Int) (ot : List Nat) (pt : Option Addr) (ct : Nat) (w : World) (hv : Spans w pv vs) (hg : gridOk g) (hvl : vs.length = gW g * gH g) (hx : -3 ≤ x ∧ x ≤ 3) (hy : -3 ≤ y ∧ y ≤ 3) (hot : RO 1 uC w pt ot) (h8 : ∀ n, n ∈ ot → n ≤ 255) :
  Calls Try.prog 44 #[fieldV g pv vs.length cv, .int .i64 x, .int .i64 y, .slice pt ot.length ct] w fun e w' => ∃ z : SlY, True ∧ e = .returned (fieldV g z.p (drTo (gW g) (gH g) vs ot x y vs.length).length z.c) ∧ St (bs w) [own 71 2 z.p z.c ((drTo (gW g) (gH g) vs ot x y vs.length).map Span.cells)] w' := by
  have har := area_le hg
  have hgr := hg
  obtain ⟨hW, hH, hW1, hW2, hH1, hH2⟩ := gWi hg
  refine enter (vs := [_,_,_,_]) (env := [(0,_), (1,_), (2,_), (3,_)]) Try.func44 rfl rfl rfl rfl ?_
  refine VC.seq ?_
  refine VC.reg (VO.h rfl<|HO.box (C := #[_,_,_,_,_,_]) rfl rfl fun b1 => VO.h rfl<|HO.alloc (C := #[_,_,_,_,_,_]) Z26 rfl fun b2 => VO.nil ?_)
  refine VE.seqN ?_
  refine VC.seq ?_
  refine VC.reg (VO.l (LO.fa (r := 0) F26_0 (.r rfl) rfl) rfl<|VO.l (LO.lda (vs := [_,_,_,_,_]) A23 (.r rfl) (fun _ hw => cells_at hw 1 rfl ⟨_, rfl⟩) rfl) rfl<|VO.l (LO.bd (ps := [(_,_)]) (vs := [(_,_)]) (C := [_,_,_,_,_,_]) B26  ⟨(.r rfl), trivial⟩ rfl ⟨_, [_,_,_,_,_], [_,_,_,_,_,_], rfl, rfl, rfl, rfl, rfl⟩) rfl<|VO.h rfl<|HO.alloc (C := #[_,_,_,_,_,_]) Z26 rfl fun b3 => VO.h0<|HO.st 0 (vs := [_,_,_,_,_,_]) (C' := [_,_,_,_,_,_]) (L' := [_,_,_]) N26 rfl rfl rfl rfl rfl rfl rfl rfl<|VO.nil ?_)
  refine VE.seqN ?_
  refine VC.seq ?_
  refine VC.seq ?_
  refine VC.reg (VO.l (LO.fa (r := 5) F26_1 (.r rfl) rfl) rfl<|VO.l (LO.ld O24 (.r rfl) (fun _ hw => cells_at hw 2 rfl ⟨_, rfl⟩)) rfl<|VO.l (LO.len S24 (.r rfl) rfl) rfl<|VO.l (LO.mv (.r rfl)) rfl<|VO.nil ?_)
  refine VE.seqN ?_
  refine VC.block ?_
  refine VC.loopK (α := Nat × (List Span) × (Option Addr) × Nat) 1 (fun gx => [(21, .int .i64 (gx.1 : Nat))]) [(1,_), (2,_), (3,_), (4,_), (8,_), (9,_), (20,_)] (fun gx => [blk b3 (.cells #[.int .i64 g.x, .int .i64 g.y, .int .i64 g.size, .int .i64 g.wide, .int .i64 g.high, .slice gx.2.2.1 gx.2.1.length gx.2.2.2] 26), own 71 2 gx.2.2.1 gx.2.2.2 (gx.2.1.map Span.cells)]) (fun gx => gx.1 ≤ vs.length ∧ gx.2.1 = drTo (gW g) (gH g) vs ot x y gx.1) (fun gx => vs.length - gx.1) (0, [], none, 0) (by exact ⟨Nat.zero_le _, rfl⟩) (.cons rfl (.cons rfl (.cons rfl (.cons rfl (.cons rfl (.cons rfl (.cons rfl (.cons rfl .nil)))))))) (fun _ h => ((h.ownNil 71 2)).sel [1,0,2,3] rfl) ?_
  rintro ⟨k, ml, po, co⟩ ⟨hkk, hm⟩
  show VC _ _ _ _ _ ([(21, .int .i64 (k : Nat))] ++ _) ([blk b3 (.cells #[.int .i64 g.x, .int .i64 g.y, .int .i64 g.size, .int .i64 g.wide, .int .i64 g.high, .slice po ml.length co] 26), own 71 2 po co (ml.map Span.cells)] ++ _) _ _
  dsimp only at hkk hm
  have hmll : ml.length = k := by rw [hm, drTo_len]
  refine VC.seq ?_
  refine VC.reg (VO.l (LO.lt (.r rfl) (.r rfl)) rfl<|VO.nil ?_)
  refine VE.seqN ?_
  refine VC.seq ?_
  refine VC.cond rfl (fun h22 => ?_) (fun h22 => ?_)
  ·
    have hkd := divb hgr (p := k) (by omega)
    have hkr : k % gW g < gW g := Nat.mod_lt _ (by omega)
    refine VC.skip (VE.seqN ?_)
    refine VC.seq ?_
    refine VC.block ?_
    refine VC.seq ?_
    refine VC.reg (VO.l (LO.mv (.r rfl)) rfl<|VO.l (LO.as (.r rfl)) rfl<|VO.nil ?_)
    refine VE.seqN ?_
    refine VC.seq ?_
    refine VC.draw mixed (LL.l (LO.mv (.r rfl)) rfl<|LL.l (LO.fa (r := 0) F26_0 (.r rfl) rfl) rfl<|LL.l (LO.fa (r := 3) F23_3 (.r rfl) rfl) rfl<|LL.l (LO.ld O3 (.r rfl) (fun _ hw => cells_at hw 3 rfl ⟨_, rfl⟩)) rfl<|LL.l (LO.eqv (LO.rem (.r rfl) (.r rfl) (by omega)) (congrArg (Value.int .i64) (mod_n hgr k))) rfl<|LL.l (LO.mv (.r rfl)) rfl<|LL.l (LO.sub (.r rfl) (.r rfl) (wi (by omega) (by omega))) rfl<|LL.l (LO.mv (.r rfl)) rfl<|LL.l (LO.fa (r := 0) F26_0 (.r rfl) rfl) rfl<|LL.l (LO.fa (r := 3) F23_3 (.r rfl) rfl) rfl<|LL.l (LO.ld O3 (.r rfl) (fun _ hw => cells_at hw 3 rfl ⟨_, rfl⟩)) rfl<|LL.l (LO.eqv (LO.quo (.r rfl) (.r rfl) (by omega) (wi (by rw [div_n hgr]; have := divb hgr (p := k) (by omega); omega) (by rw [div_n hgr]; have := divb hgr (p := k) (by omega); omega))) (congrArg (Value.int .i64) (div_n hgr k))) rfl<|LL.l (LO.mv (.r rfl)) rfl<|LL.l (LO.sub (.r rfl) (.r rfl) (wi (by omega) (by omega))) rfl<|LL.l (LO.as (.r rfl)) rfl<|LL.l (LO.as (.r rfl)) rfl<|LL.nil) (by kernel_rfl) ?_
    refine VE.seqN ?_
    refine VC.seq ?_
    refine VC.reg (VO.l (LO.bd (ps := []) (vs := []) (C := [_,_]) B71  trivial rfl rfl) rfl<|VO.h rfl<|HO.alloc (C := #[_,_]) Z71 rfl fun b7 => VO.h0<|HO.st 0 (vs := [_,_]) (C' := [_,_]) (L' := [_,_,_,_,_]) N71 rfl rfl rfl rfl rfl rfl rfl rfl<|VO.nil ?_)
    refine VE.seqN ?_
    refine VC.seq ?_
    refine VC.block ?_
    refine VC.seq ?_
    refine VC.reg (VO.l (LO.mv (.r rfl)) rfl<|VO.l (LO.ge (.r rfl) (.r rfl)) rfl<|VO.l (LO.mv (.r rfl)) rfl<|VO.lg rfl rfl (GD.t _) (fun hg => LO.mv (.r rfl)) rfl<|VO.lg rfl rfl (GD.t _) (fun hg => LO.fa (r := 0) F26_0 (.r rfl) rfl) rfl<|VO.lg rfl rfl (GD.t _) (fun hg => LO.fa (r := 3) F23_3 (.g hg rfl) rfl) rfl<|VO.lg rfl rfl (GD.t _) (fun hg => LO.ld O3 (.g hg rfl) (fun _ hw => cells_at hw 4 rfl ⟨_, rfl⟩)) rfl<|VO.lg rfl rfl (GD.t _) (fun hg => LO.lt (.g hg rfl) (.g hg rfl)) rfl<|VO.l (LO.pkA (.r rfl) rfl rfl (.r rfl)) rfl<|VO.l (LO.mv (.r rfl)) rfl<|VO.lg rfl rfl (GD.t _) (fun hg => LO.mv (.r rfl)) rfl<|VO.lg rfl rfl (GD.t _) (fun hg => LO.ge (.g hg rfl) (.r rfl)) rfl<|VO.l (LO.pkA (.r rfl) rfl rfl (.r rfl)) rfl<|VO.l (LO.mv (.r rfl)) rfl<|VO.lg rfl rfl (GD.t _) (fun hg => LO.mv (.r rfl)) rfl<|VO.lg rfl rfl (GD.t _) (fun hg => LO.fa (r := 0) F26_0 (.r rfl) rfl) rfl<|VO.lg rfl rfl (GD.t _) (fun hg => LO.fa (r := 4) F23_4 (.g hg rfl) rfl) rfl<|VO.lg rfl rfl (GD.t _) (fun hg => LO.ld O3 (.g hg rfl) (fun _ hw => cells_at hw 4 rfl ⟨_, rfl⟩)) rfl<|VO.lg rfl rfl (GD.t _) (fun hg => LO.lt (.g hg rfl) (.g hg rfl)) rfl<|VO.l (LO.pkA (.r rfl) rfl rfl (.r rfl)) rfl<|VO.l (LO.as (.r rfl)) rfl<|VO.nil ?_)
    refine VE.seqN ?_
    refine VC.cond rfl (fun h39 => ?_) (fun h39 => ?_)
    ·
      have hkw : ((k % gW g : Nat) : Int) - x < g.wide := by omega
      obtain ⟨q, hq1, hq2, hq3⟩ := target hg (x := ((k % gW g : Nat) : Int) - x) (y := ((k / gW g : Nat) : Int) - y) (by omega)
      refine VC.reg (VO.l (LO.fa (r := 5) F26_1 (.r rfl) rfl) rfl<|VO.l (LO.ld O24 (.r rfl) (fun _ hw => cells_at hw 4 rfl ⟨_, rfl⟩)) rfl<|VO.l (LO.mv (.r rfl)) rfl<|VO.l (LO.fa (r := 0) F26_0 (.r rfl) rfl) rfl<|VO.l (LO.fa (r := 3) F23_3 (.r rfl) rfl) rfl<|VO.l (LO.ld O3 (.r rfl) (fun _ hw => cells_at hw 4 rfl ⟨_, rfl⟩)) rfl<|VO.l (LO.mul (.r rfl) (.r rfl) (wi (by omega) (by omega))) rfl<|VO.l (LO.mv (.r rfl)) rfl<|VO.l (LO.add (.r rfl) (.r rfl) (wi (by omega) (by omega))) rfl<|VO.l (LO.ixs S24 N71 hv.some (.r rfl) (.r rfl) hq1 (by omega)) rfl<|VO.l (LO.lda (vs := [_,_]) A71 (.r rfl) (fun w hw => cells_part (off := 0) ((hv.at (j := q) (by omega)) w hw) ⟨_, rfl⟩) rfl) rfl<|VO.h0<|HO.st 0 (vs := [_,_]) (C' := [_,_]) (L' := [_,_,_,_,_]) N71 rfl rfl rfl rfl rfl rfl rfl rfl<|VO.nil ?_)
      refine VE.inN (VE.seqN ?_)
      refine VC.reg (VO.l (LO.fa (r := 5) F26_1 (.r rfl) rfl) rfl<|VO.l (LO.ld O24 (.r rfl) (fun _ hw => cells_at hw 1 rfl ⟨_, rfl⟩)) rfl<|VO.l (LO.lda (vs := [_,_]) A71 (.r rfl) (fun _ hw => cells_at hw 0 rfl ⟨_, rfl⟩) rfl) rfl<|VO.h rfl<|HO.bs (ps := [(_,_)]) (vs := [(_,_)]) (Z := [_,_]) (C := [_,_]) S24 Z71 N71 ⟨(.r rfl), trivial⟩ rfl rfl rfl rfl ⟨_, [_,_], [_,_], rfl, rfl, rfl, rfl, rfl⟩ fun b10 => VO.h rfl<|HO.appT ((vs.getD q ⟨0,0⟩)) (f := Span.cells) 3 0 (fun R => [_,_,_, R,_,_]) S24 S24 I71 (.r rfl) (.r rfl) rfl rfl rfl rfl rfl rfl rfl (fun _ => rfl) rfl (by omega) fun p4 c4 => VO.l (LO.fa (r := 5) F26_1 (.r rfl) rfl) rfl<|VO.h0<|HO.st 2 (vs := [_]) (C' := [_,_,_,_,_,_]) (L' := [_,_,_,_,_,_]) N24 rfl rfl rfl rfl rfl rfl rfl rfl<|VO.nil ?_)
      refine VE.inN (VE.seqN ?_)
      refine VC.reg (VO.l (LO.add (.r rfl) (.r rfl) (wi (by omega) (by omega))) rfl<|VO.l (LO.mv (.r rfl)) rfl<|VO.nil ?_)
      refine VE.thenN fun a w ha hw => ⟨(k + 1, ml ++ [(vs.getD q ⟨0,0⟩)], p4, c4), ⟨by dsimp only; omega, dr_eq hm (dr_t (by omega) (by unfold drQ; exact hq3))⟩, (by dsimp only; omega), ha.sub (.cons rfl (.cons rfl (.cons rfl (.cons rfl (.cons rfl (.cons rfl (.cons rfl (.cons rfl .nil)))))))), hw.sel [2,3,4,5] rfl⟩
    ·
      refine VC.seq ?_
      refine VC.reg (VO.l (LO.mv (.r rfl)) rfl<|VO.l (LO.len S61 (.r rfl) rfl) rfl<|VO.l (LO.gt (.r rfl) (.r rfl)) rfl<|VO.l (LO.as (.r rfl)) rfl<|VO.nil ?_)
      refine VE.seqN ?_
      refine VC.cond rfl (fun h71 => ?_) (fun h71 => ?_)
      ·
        have hol : k % ot.length < ot.length := Nat.mod_lt _ (by omega)
        obtain ⟨on, hox⟩ := get_ex (l := ot) hol
        have ho8 := h8 on (List.mem_of_getElem? hox)
        have hom := Nat.mod_lt on (show 0 < 70 by decide)
        refine VC.seq ?_
        refine VC.reg (VO.l (LO.mv (.r rfl)) rfl<|VO.l (LO.mv (.r rfl)) rfl<|VO.l (LO.mv (.r rfl)) rfl<|VO.l (LO.len S61 (.r rfl) rfl) rfl<|VO.l (LO.eqv (LO.rem (.r rfl) (.r rfl) (by omega)) (congrArg (Value.int .i64) (mod_i (m := ot.length)))) rfl<|VO.l (LO.ixs S61 N5 hot.sm (.r rfl) (.r rfl) rfl hol) rfl<|VO.l (LO.ld O5 (.r rfl) (fun w hw => cells_part (off := 0) ((fun w3 h3 => RO.cel (hot.keep w3 h3) hox) w hw) ⟨_, rfl⟩)) rfl<|VO.l (LO.cv ⟨_, Try.underlying5⟩ Try.underlying3 (.r rfl) (cv8 ho8)) rfl<|VO.l (LO.eqv (LO.rem (.r rfl) (.r rfl) (by omega)) (congrArg (Value.int .i64) (mod_i (m := 70)))) rfl<|VO.l (LO.as (.r rfl)) rfl<|VO.nil ?_)
        refine VE.seqN ?_
        refine VC.reg (VO.l (LO.mv (.r rfl)) rfl<|VO.l (LO.mv (.r rfl)) rfl<|VO.l (LO.bd (ps := [(_,_), (_,_)]) (vs := [(_,_), (_,_)]) (C := [_,_]) B71  ⟨(.r rfl), (.r rfl), trivial⟩ rfl ⟨_, [_], [_,_], rfl, rfl, rfl, rfl, ⟨_, [_], [_,_], rfl, rfl, rfl, rfl, rfl⟩⟩) rfl<|VO.h0<|HO.st 0 (vs := [_,_]) (C' := [_,_]) (L' := [_,_,_,_,_]) N71 rfl rfl rfl rfl rfl rfl rfl rfl<|VO.nil ?_)
        refine VE.inN (VE.seqN ?_)
        refine VC.reg (VO.l (LO.fa (r := 5) F26_1 (.r rfl) rfl) rfl<|VO.l (LO.ld O24 (.r rfl) (fun _ hw => cells_at hw 1 rfl ⟨_, rfl⟩)) rfl<|VO.l (LO.lda (vs := [_,_]) A71 (.r rfl) (fun _ hw => cells_at hw 0 rfl ⟨_, rfl⟩) rfl) rfl<|VO.h rfl<|HO.bs (ps := [(_,_)]) (vs := [(_,_)]) (Z := [_,_]) (C := [_,_]) S24 Z71 N71 ⟨(.r rfl), trivial⟩ rfl rfl rfl rfl ⟨_, [_,_], [_,_], rfl, rfl, rfl, rfl, rfl⟩ fun b13 => VO.h rfl<|HO.appT ((Span.mk (((on % 70 : Nat) : Nat) : Int) (((on % 70 : Nat) : Nat) : Int))) (f := Span.cells) 3 0 (fun R => [_,_,_, R,_,_]) S24 S24 I71 (.r rfl) (.r rfl) rfl rfl rfl rfl rfl rfl rfl (fun _ => rfl) rfl (by omega) fun p4 c4 => VO.l (LO.fa (r := 5) F26_1 (.r rfl) rfl) rfl<|VO.h0<|HO.st 2 (vs := [_]) (C' := [_,_,_,_,_,_]) (L' := [_,_,_,_,_,_]) N24 rfl rfl rfl rfl rfl rfl rfl rfl<|VO.nil ?_)
        refine VE.inN (VE.seqN ?_)
        refine VC.reg (VO.l (LO.add (.r rfl) (.r rfl) (wi (by omega) (by omega))) rfl<|VO.l (LO.mv (.r rfl)) rfl<|VO.nil ?_)
        refine VE.thenN fun a w ha hw => ⟨(k + 1, ml ++ [(Span.mk (((on % 70 : Nat) : Nat) : Int) (((on % 70 : Nat) : Nat) : Int))], p4, c4), ⟨by dsimp only; omega, dr_eq hm (dr_f (by omega) (by rw [vAt_t hox]))⟩, (by dsimp only; omega), ha.sub (.cons rfl (.cons rfl (.cons rfl (.cons rfl (.cons rfl (.cons rfl (.cons rfl (.cons rfl .nil)))))))), hw.sel [2,3,4,5] rfl⟩
      ·
        refine VC.skip (VE.inN (VE.seqN ?_))
        refine VC.reg (VO.l (LO.fa (r := 5) F26_1 (.r rfl) rfl) rfl<|VO.l (LO.ld O24 (.r rfl) (fun _ hw => cells_at hw 1 rfl ⟨_, rfl⟩)) rfl<|VO.l (LO.lda (vs := [_,_]) A71 (.r rfl) (fun _ hw => cells_at hw 0 rfl ⟨_, rfl⟩) rfl) rfl<|VO.h rfl<|HO.bs (ps := [(_,_)]) (vs := [(_,_)]) (Z := [_,_]) (C := [_,_]) S24 Z71 N71 ⟨(.r rfl), trivial⟩ rfl rfl rfl rfl ⟨_, [_,_], [_,_], rfl, rfl, rfl, rfl, rfl⟩ fun b15 => VO.h rfl<|HO.appT ((Span.mk 0 0)) (f := Span.cells) 3 0 (fun R => [_,_,_, R,_,_]) S24 S24 I71 (.r rfl) (.r rfl) rfl rfl rfl rfl rfl rfl rfl (fun _ => rfl) rfl (by omega) fun p4 c4 => VO.l (LO.fa (r := 5) F26_1 (.r rfl) rfl) rfl<|VO.h0<|HO.st 2 (vs := [_]) (C' := [_,_,_,_,_,_]) (L' := [_,_,_,_,_,_]) N24 rfl rfl rfl rfl rfl rfl rfl rfl<|VO.nil ?_)
        refine VE.inN (VE.seqN ?_)
        refine VC.reg (VO.l (LO.add (.r rfl) (.r rfl) (wi (by omega) (by omega))) rfl<|VO.l (LO.mv (.r rfl)) rfl<|VO.nil ?_)
        refine VE.thenN fun a w ha hw => ⟨(k + 1, ml ++ [(Span.mk 0 0)], p4, c4), ⟨by dsimp only; omega, dr_eq hm (dr_f (by omega) (by rw [vAt_f h71]; first | done | rfl))⟩, (by dsimp only; omega), ha.sub (.cons rfl (.cons rfl (.cons rfl (.cons rfl (.cons rfl (.cons rfl (.cons rfl (.cons rfl .nil)))))))), hw.sel [2,3,4,5] rfl⟩
  ·
    refine VC.exit (VE.thenX (VE.thenX (VE.inX (VE.seqN ?_))))
    refine VC.seq ?_
    refine VC.reg (VO.l (LO.lda (vs := [_,_,_,_,_,_]) A26 (.r rfl) (fun _ hw => cells_at hw 0 rfl ⟨_, rfl⟩) rfl) rfl<|VO.h0<|HO.st 2 (vs := [_,_,_,_,_,_]) (C' := [_,_,_,_,_,_]) (L' := [_,_,_,_]) N26 rfl rfl rfl rfl rfl rfl rfl rfl<|VO.nil ?_)
    refine VE.seqN ?_
    refine VC.ret (VE.res (vs := [_]) rfl ⟨RV.agg (vs := [_,_,_,_,_,_]) A26 rfl (cells_blk 2 rfl ⟨_, rfl⟩) rfl, trivial⟩ (fun w hw => ?_))
    have hke : k = vs.length := by omega
    subst hke
    subst hm
    exact ⟨⟨po, co⟩, trivial, rfl, selK [1] rfl rfl _ hw⟩

set_option maxRecDepth 20000 in
set_option maxHeartbeats 16000000 in
theorem around_f (g : Grid) (vs : List Span) (pv : Option Addr) (cv : Nat) (le : List Nat) (pl : Option Addr) (cl : Nat) (mo : List Nat) (pm : Option Addr) (cm : Nat) (w : World) (hv : Spans w pv vs) (hn : vs.length ≤ 1000000) (hok : ∀ j, j < vs.length → 0 ≤ (vs.getD j ⟨0,0⟩).lo ∧ (vs.getD j ⟨0,0⟩).lo ≤ (vs.getD j ⟨0,0⟩).hi ∧ (vs.getD j ⟨0,0⟩).hi ≤ 100) (hle : RO 1 uC w pl le) (hl8 : ∀ n, n ∈ le → n ≤ 255) (hmo : RO 1 uC w pm mo) (hm8 : ∀ n, n ∈ mo → n ≤ 255) :
  Calls Try.prog 45 #[fieldV g pv vs.length cv, .slice pl le.length cl, .slice pm mo.length cm] w fun e w' => ∃ z : SlY, True ∧ e = .returned (fieldV g z.p (arTo vs le mo vs.length).length z.c) ∧ St (bs w) [own 71 2 z.p z.c ((arTo vs le mo vs.length).map Span.cells)] w' := by
  refine enter (vs := [_,_,_]) (env := [(0,_), (1,_), (2,_)]) Try.func45 rfl rfl rfl rfl ?_
  refine VC.seq ?_
  refine VC.reg (VO.h rfl<|HO.box (C := #[_,_,_,_,_,_]) rfl rfl fun b1 => VO.h rfl<|HO.alloc (C := #[_,_,_,_,_,_]) Z26 rfl fun b2 => VO.nil ?_)
  refine VE.seqN ?_
  refine VC.seq ?_
  refine VC.reg (VO.l (LO.fa (r := 0) F26_0 (.r rfl) rfl) rfl<|VO.l (LO.lda (vs := [_,_,_,_,_]) A23 (.r rfl) (fun _ hw => cells_at hw 1 rfl ⟨_, rfl⟩) rfl) rfl<|VO.l (LO.bd (ps := [(_,_)]) (vs := [(_,_)]) (C := [_,_,_,_,_,_]) B26  ⟨(.r rfl), trivial⟩ rfl ⟨_, [_,_,_,_,_], [_,_,_,_,_,_], rfl, rfl, rfl, rfl, rfl⟩) rfl<|VO.h rfl<|HO.alloc (C := #[_,_,_,_,_,_]) Z26 rfl fun b3 => VO.h0<|HO.st 0 (vs := [_,_,_,_,_,_]) (C' := [_,_,_,_,_,_]) (L' := [_,_,_]) N26 rfl rfl rfl rfl rfl rfl rfl rfl<|VO.nil ?_)
  refine VE.seqN ?_
  refine VC.seq ?_
  refine VC.seq ?_
  refine VC.reg (VO.l (LO.fa (r := 5) F26_1 (.r rfl) rfl) rfl<|VO.l (LO.ld O24 (.r rfl) (fun _ hw => cells_at hw 2 rfl ⟨_, rfl⟩)) rfl<|VO.l (LO.len S24 (.r rfl) rfl) rfl<|VO.l (LO.mv (.r rfl)) rfl<|VO.nil ?_)
  refine VE.seqN ?_
  refine VC.block ?_
  refine VC.loopK (α := Nat × (List Span) × (Option Addr) × Nat) 1 (fun gx => [(16, .int .i64 (gx.1 : Nat))]) [(1,_), (2,_), (6,_), (7,_), (14,_), (15,_)] (fun gx => [blk b3 (.cells #[.int .i64 g.x, .int .i64 g.y, .int .i64 g.size, .int .i64 g.wide, .int .i64 g.high, .slice gx.2.2.1 gx.2.1.length gx.2.2.2] 26), own 71 2 gx.2.2.1 gx.2.2.2 (gx.2.1.map Span.cells)]) (fun gx => gx.1 ≤ vs.length ∧ gx.2.1 = arTo vs le mo gx.1) (fun gx => vs.length - gx.1) (0, [], none, 0) (by exact ⟨Nat.zero_le _, rfl⟩) (.cons rfl (.cons rfl (.cons rfl (.cons rfl (.cons rfl (.cons rfl (.cons rfl .nil))))))) (fun _ h => ((h.ownNil 71 2)).sel [1,0,2,3] rfl) ?_
  rintro ⟨k, ml, po, co⟩ ⟨hkk, hm⟩
  show VC _ _ _ _ _ ([(16, .int .i64 (k : Nat))] ++ _) ([blk b3 (.cells #[.int .i64 g.x, .int .i64 g.y, .int .i64 g.size, .int .i64 g.wide, .int .i64 g.high, .slice po ml.length co] 26), own 71 2 po co (ml.map Span.cells)] ++ _) _ _
  dsimp only at hkk hm
  have hmll : ml.length = k := by rw [hm, arTo_len]
  refine VC.seq ?_
  refine VC.reg (VO.l (LO.lt (.r rfl) (.r rfl)) rfl<|VO.nil ?_)
  refine VE.seqN ?_
  refine VC.seq ?_
  refine VC.cond rfl (fun h17 => ?_) (fun h17 => ?_)
  ·
    have hb1 := hok k (by omega)
    refine VC.skip (VE.seqN ?_)
    refine VC.seq ?_
    refine VC.block ?_
    refine VC.seq ?_
    refine VC.reg (VO.l (LO.mv (.r rfl)) rfl<|VO.l (LO.ixs S24 N71 hv.some (.r rfl) (.r rfl) rfl (by omega)) rfl<|VO.l (LO.lda (vs := [_,_]) A71 (.r rfl) (fun w hw => cells_part (off := 0) ((hv.at (j := k) (by omega)) w hw) ⟨_, rfl⟩) rfl) rfl<|VO.h rfl<|HO.alloc (C := #[_,_]) Z71 rfl fun b7 => VO.l (LO.as (.r rfl)) rfl<|VO.h0<|HO.st 0 (vs := [_,_]) (C' := [_,_]) (L' := [_,_,_,_,_]) N71 rfl rfl rfl rfl rfl rfl rfl rfl<|VO.nil ?_)
    refine VE.seqN ?_
    refine VC.seq ?_
    refine VC.seq ?_
    refine VC.reg (VO.l (LO.mv (.r rfl)) rfl<|VO.l (LO.len S61 (.r rfl) rfl) rfl<|VO.l (LO.gt (.r rfl) (.r rfl)) rfl<|VO.nil ?_)
    refine VE.seqN ?_
    refine VC.cond rfl (fun h23 => ?_) (fun h23 => ?_)
    ·
      have hll : k % le.length < le.length := Nat.mod_lt _ (by omega)
      obtain ⟨ln, hlx⟩ := get_ex (l := le) hll
      have hln8 := hl8 ln (List.mem_of_getElem? hlx)
      have hlm := Nat.mod_lt ln (show 0 < 20 by decide)
      refine VC.drawH [[0,1,2,3,4], [1,2,3,4]] [some 0, some 0, some 0, some 0, some 0, some 0, some 0, some 0, some 0, some 0, some 0, some 0, some 0, some 0, none] mixed (by kernel_rfl) rfl (LX.l (fun _ hJ => LO.fa (r := 0) F71_0 (.r rfl) rfl) rfl<|LX.l (fun _ hJ => LO.ld O3 (.r rfl) (fun _ hw => cells_at (hJ _ hw) 0 rfl ⟨_, rfl⟩)) rfl<|LX.l (fun _ hJ => LO.mv (.r rfl)) rfl<|LX.l (fun _ hJ => LO.mv (.r rfl)) rfl<|LX.l (fun _ hJ => LO.mv (.r rfl)) rfl<|LX.l (fun _ hJ => LO.len S61 (.r rfl) rfl) rfl<|LX.l (fun _ hJ => LO.eqv (LO.rem (.r rfl) (.r rfl) (by omega)) (congrArg (Value.int .i64) (mod_i (m := le.length)))) rfl<|LX.l (fun _ hJ => LO.ixs S61 N5 hle.sm (.r rfl) (.r rfl) rfl hll) rfl<|LX.l (fun _ hJ => LO.ld O5 (.r rfl) (fun w hw => cells_part (off := 0) ((fun w3 h3 => RO.cel (hle.keep w3 h3) hlx) w (hJ _ hw)) ⟨_, rfl⟩)) rfl<|LX.l (fun _ hJ => LO.cv ⟨_, Try.underlying5⟩ Try.underlying3 (.r rfl) (cv8 hln8)) rfl<|LX.l (fun _ hJ => LO.eqv (LO.rem (.r rfl) (.r rfl) (by omega)) (congrArg (Value.int .i64) (mod_i (m := 20)))) rfl<|LX.l (fun _ hJ => LO.sub (.r rfl) (.r rfl) (wi (by omega) (by omega))) rfl<|LX.l (fun _ hJ => LO.max (.r rfl) (.r rfl)) rfl<|LX.l (fun _ hJ => LO.fa (r := 0) F71_0 (.r rfl) rfl) rfl<|LX.s<|LX.nil) (HX.s<|HX.s<|HX.s<|HX.s<|HX.s<|HX.s<|HX.s<|HX.s<|HX.s<|HX.s<|HX.s<|HX.s<|HX.s<|HX.s<|HX.h0<|HO.st 0 (vs := [_]) (C' := [_,_]) (L' := [_,_,_,_,_]) N3 rfl rfl rfl rfl rfl rfl rfl rfl<|⟨fun _ hw => hw.sel [1,2,3,4] rfl, HX.nil ?_⟩)
      refine VE.seqN ?_
      refine VC.seq ?_
      refine VC.seq ?_
      refine VC.reg (VO.l (LO.mv (.r rfl)) rfl<|VO.l (LO.len S61 (.r rfl) rfl) rfl<|VO.l (LO.gt (.r rfl) (.r rfl)) rfl<|VO.nil ?_)
      refine VE.seqN ?_
      refine VC.cond rfl (fun h40 => ?_) (fun h40 => ?_)
      ·
        have hml : k % mo.length < mo.length := Nat.mod_lt _ (by omega)
        obtain ⟨mn, hmx⟩ := get_ex (l := mo) hml
        have hmn8 := hm8 mn (List.mem_of_getElem? hmx)
        have hmm := Nat.mod_lt mn (show 0 < 20 by decide)
        refine VC.drawH [[0,1,2,3,4], [1,2,3,4]] [some 0, some 0, some 0, some 0, some 0, some 0, some 0, some 0, some 0, some 0, some 0, some 0, some 0, none] mixed (by kernel_rfl) rfl (LX.l (fun _ hJ => LO.fa (r := 1) F71_1 (.r rfl) rfl) rfl<|LX.l (fun _ hJ => LO.ld O3 (.r rfl) (fun _ hw => cells_at (hJ _ hw) 0 rfl ⟨_, rfl⟩)) rfl<|LX.l (fun _ hJ => LO.mv (.r rfl)) rfl<|LX.l (fun _ hJ => LO.mv (.r rfl)) rfl<|LX.l (fun _ hJ => LO.mv (.r rfl)) rfl<|LX.l (fun _ hJ => LO.len S61 (.r rfl) rfl) rfl<|LX.l (fun _ hJ => LO.eqv (LO.rem (.r rfl) (.r rfl) (by omega)) (congrArg (Value.int .i64) (mod_i (m := mo.length)))) rfl<|LX.l (fun _ hJ => LO.ixs S61 N5 hmo.sm (.r rfl) (.r rfl) rfl hml) rfl<|LX.l (fun _ hJ => LO.ld O5 (.r rfl) (fun w hw => cells_part (off := 0) ((fun w3 h3 => RO.cel (hmo.keep w3 h3) hmx) w (hJ _ hw)) ⟨_, rfl⟩)) rfl<|LX.l (fun _ hJ => LO.cv ⟨_, Try.underlying5⟩ Try.underlying3 (.r rfl) (cv8 hmn8)) rfl<|LX.l (fun _ hJ => LO.eqv (LO.rem (.r rfl) (.r rfl) (by omega)) (congrArg (Value.int .i64) (mod_i (m := 20)))) rfl<|LX.l (fun _ hJ => LO.add (.r rfl) (.r rfl) (wi (by omega) (by omega))) rfl<|LX.l (fun _ hJ => LO.fa (r := 1) F71_1 (.r rfl) rfl) rfl<|LX.s<|LX.nil) (HX.s<|HX.s<|HX.s<|HX.s<|HX.s<|HX.s<|HX.s<|HX.s<|HX.s<|HX.s<|HX.s<|HX.s<|HX.s<|HX.h0<|HO.st 0 (vs := [_]) (C' := [_,_]) (L' := [_,_,_,_,_]) N3 rfl rfl rfl rfl rfl rfl rfl rfl<|⟨fun _ hw => hw.sel [1,2,3,4] rfl, HX.nil ?_⟩)
        refine VE.seqN ?_
        refine VC.reg (VO.l (LO.fa (r := 5) F26_1 (.r rfl) rfl) rfl<|VO.l (LO.ld O24 (.r rfl) (fun _ hw => cells_at hw 1 rfl ⟨_, rfl⟩)) rfl<|VO.l (LO.lda (vs := [_,_]) A71 (.r rfl) (fun _ hw => cells_at hw 0 rfl ⟨_, rfl⟩) rfl) rfl<|VO.h rfl<|HO.bs (ps := [(_,_)]) (vs := [(_,_)]) (Z := [_,_]) (C := [_,_]) S24 Z71 N71 ⟨(.r rfl), trivial⟩ rfl rfl rfl rfl ⟨_, [_,_], [_,_], rfl, rfl, rfl, rfl, rfl⟩ fun b13 => VO.h rfl<|HO.appT ((Span.mk (max 0 ((vs.getD k ⟨0,0⟩).lo - ((ln % 20 : Nat) : Int))) ((vs.getD k ⟨0,0⟩).hi + ((mn % 20 : Nat) : Int)))) (f := Span.cells) 3 0 (fun R => [_,_,_, R,_,_]) S24 S24 I71 (.r rfl) (.r rfl) rfl rfl rfl rfl rfl rfl rfl (fun _ => rfl) rfl (by omega) fun p4 c4 => VO.l (LO.fa (r := 5) F26_1 (.r rfl) rfl) rfl<|VO.h0<|HO.st 2 (vs := [_]) (C' := [_,_,_,_,_,_]) (L' := [_,_,_,_,_,_]) N24 rfl rfl rfl rfl rfl rfl rfl rfl<|VO.nil ?_)
        refine VE.inN (VE.seqN ?_)
        refine VC.reg (VO.l (LO.add (.r rfl) (.r rfl) (wi (by omega) (by omega))) rfl<|VO.l (LO.mv (.r rfl)) rfl<|VO.nil ?_)
        refine VE.thenN fun a w ha hw => ⟨(k + 1, ml ++ [(Span.mk (max 0 ((vs.getD k ⟨0,0⟩).lo - ((ln % 20 : Nat) : Int))) ((vs.getD k ⟨0,0⟩).hi + ((mn % 20 : Nat) : Int)))], p4, c4), ⟨by dsimp only; omega, ar_eq hm (arAt_of (by rw [vAt_t hlx]) (by rw [vAt_t hmx]))⟩, (by dsimp only; omega), ha.sub (.cons rfl (.cons rfl (.cons rfl (.cons rfl (.cons rfl (.cons rfl (.cons rfl .nil))))))), hw.sel [2,3,4,5] rfl⟩
      ·
        refine VC.skip (VE.seqN ?_)
        refine VC.reg (VO.l (LO.fa (r := 5) F26_1 (.r rfl) rfl) rfl<|VO.l (LO.ld O24 (.r rfl) (fun _ hw => cells_at hw 1 rfl ⟨_, rfl⟩)) rfl<|VO.l (LO.lda (vs := [_,_]) A71 (.r rfl) (fun _ hw => cells_at hw 0 rfl ⟨_, rfl⟩) rfl) rfl<|VO.h rfl<|HO.bs (ps := [(_,_)]) (vs := [(_,_)]) (Z := [_,_]) (C := [_,_]) S24 Z71 N71 ⟨(.r rfl), trivial⟩ rfl rfl rfl rfl ⟨_, [_,_], [_,_], rfl, rfl, rfl, rfl, rfl⟩ fun b15 => VO.h rfl<|HO.appT ((Span.mk (max 0 ((vs.getD k ⟨0,0⟩).lo - ((ln % 20 : Nat) : Int))) (vs.getD k ⟨0,0⟩).hi)) (f := Span.cells) 3 0 (fun R => [_,_,_, R,_,_]) S24 S24 I71 (.r rfl) (.r rfl) rfl rfl rfl rfl rfl rfl rfl (fun _ => rfl) rfl (by omega) fun p4 c4 => VO.l (LO.fa (r := 5) F26_1 (.r rfl) rfl) rfl<|VO.h0<|HO.st 2 (vs := [_]) (C' := [_,_,_,_,_,_]) (L' := [_,_,_,_,_,_]) N24 rfl rfl rfl rfl rfl rfl rfl rfl<|VO.nil ?_)
        refine VE.inN (VE.seqN ?_)
        refine VC.reg (VO.l (LO.add (.r rfl) (.r rfl) (wi (by omega) (by omega))) rfl<|VO.l (LO.mv (.r rfl)) rfl<|VO.nil ?_)
        refine VE.thenN fun a w ha hw => ⟨(k + 1, ml ++ [(Span.mk (max 0 ((vs.getD k ⟨0,0⟩).lo - ((ln % 20 : Nat) : Int))) (vs.getD k ⟨0,0⟩).hi)], p4, c4), ⟨by dsimp only; omega, ar_eq hm (arAt_of (by rw [vAt_t hlx]) (by rw [vAt_f h40]; omega))⟩, (by dsimp only; omega), ha.sub (.cons rfl (.cons rfl (.cons rfl (.cons rfl (.cons rfl (.cons rfl (.cons rfl .nil))))))), hw.sel [2,3,4,5] rfl⟩
    ·
      refine VC.skip (VE.seqN ?_)
      refine VC.seq ?_
      refine VC.seq ?_
      refine VC.reg (VO.l (LO.mv (.r rfl)) rfl<|VO.l (LO.len S61 (.r rfl) rfl) rfl<|VO.l (LO.gt (.r rfl) (.r rfl)) rfl<|VO.nil ?_)
      refine VE.seqN ?_
      refine VC.cond rfl (fun h40 => ?_) (fun h40 => ?_)
      ·
        have hml : k % mo.length < mo.length := Nat.mod_lt _ (by omega)
        obtain ⟨mn, hmx⟩ := get_ex (l := mo) hml
        have hmn8 := hm8 mn (List.mem_of_getElem? hmx)
        have hmm := Nat.mod_lt mn (show 0 < 20 by decide)
        refine VC.drawH [[0,1,2,3,4], [1,2,3,4]] [some 0, some 0, some 0, some 0, some 0, some 0, some 0, some 0, some 0, some 0, some 0, some 0, some 0, none] mixed (by kernel_rfl) rfl (LX.l (fun _ hJ => LO.fa (r := 1) F71_1 (.r rfl) rfl) rfl<|LX.l (fun _ hJ => LO.ld O3 (.r rfl) (fun _ hw => cells_at (hJ _ hw) 0 rfl ⟨_, rfl⟩)) rfl<|LX.l (fun _ hJ => LO.mv (.r rfl)) rfl<|LX.l (fun _ hJ => LO.mv (.r rfl)) rfl<|LX.l (fun _ hJ => LO.mv (.r rfl)) rfl<|LX.l (fun _ hJ => LO.len S61 (.r rfl) rfl) rfl<|LX.l (fun _ hJ => LO.eqv (LO.rem (.r rfl) (.r rfl) (by omega)) (congrArg (Value.int .i64) (mod_i (m := mo.length)))) rfl<|LX.l (fun _ hJ => LO.ixs S61 N5 hmo.sm (.r rfl) (.r rfl) rfl hml) rfl<|LX.l (fun _ hJ => LO.ld O5 (.r rfl) (fun w hw => cells_part (off := 0) ((fun w3 h3 => RO.cel (hmo.keep w3 h3) hmx) w (hJ _ hw)) ⟨_, rfl⟩)) rfl<|LX.l (fun _ hJ => LO.cv ⟨_, Try.underlying5⟩ Try.underlying3 (.r rfl) (cv8 hmn8)) rfl<|LX.l (fun _ hJ => LO.eqv (LO.rem (.r rfl) (.r rfl) (by omega)) (congrArg (Value.int .i64) (mod_i (m := 20)))) rfl<|LX.l (fun _ hJ => LO.add (.r rfl) (.r rfl) (wi (by omega) (by omega))) rfl<|LX.l (fun _ hJ => LO.fa (r := 1) F71_1 (.r rfl) rfl) rfl<|LX.s<|LX.nil) (HX.s<|HX.s<|HX.s<|HX.s<|HX.s<|HX.s<|HX.s<|HX.s<|HX.s<|HX.s<|HX.s<|HX.s<|HX.s<|HX.h0<|HO.st 0 (vs := [_]) (C' := [_,_]) (L' := [_,_,_,_,_]) N3 rfl rfl rfl rfl rfl rfl rfl rfl<|⟨fun _ hw => hw.sel [1,2,3,4] rfl, HX.nil ?_⟩)
        refine VE.seqN ?_
        refine VC.reg (VO.l (LO.fa (r := 5) F26_1 (.r rfl) rfl) rfl<|VO.l (LO.ld O24 (.r rfl) (fun _ hw => cells_at hw 1 rfl ⟨_, rfl⟩)) rfl<|VO.l (LO.lda (vs := [_,_]) A71 (.r rfl) (fun _ hw => cells_at hw 0 rfl ⟨_, rfl⟩) rfl) rfl<|VO.h rfl<|HO.bs (ps := [(_,_)]) (vs := [(_,_)]) (Z := [_,_]) (C := [_,_]) S24 Z71 N71 ⟨(.r rfl), trivial⟩ rfl rfl rfl rfl ⟨_, [_,_], [_,_], rfl, rfl, rfl, rfl, rfl⟩ fun b19 => VO.h rfl<|HO.appT ((Span.mk (vs.getD k ⟨0,0⟩).lo ((vs.getD k ⟨0,0⟩).hi + ((mn % 20 : Nat) : Int)))) (f := Span.cells) 3 0 (fun R => [_,_,_, R,_,_]) S24 S24 I71 (.r rfl) (.r rfl) rfl rfl rfl rfl rfl rfl rfl (fun _ => rfl) rfl (by omega) fun p4 c4 => VO.l (LO.fa (r := 5) F26_1 (.r rfl) rfl) rfl<|VO.h0<|HO.st 2 (vs := [_]) (C' := [_,_,_,_,_,_]) (L' := [_,_,_,_,_,_]) N24 rfl rfl rfl rfl rfl rfl rfl rfl<|VO.nil ?_)
        refine VE.inN (VE.seqN ?_)
        refine VC.reg (VO.l (LO.add (.r rfl) (.r rfl) (wi (by omega) (by omega))) rfl<|VO.l (LO.mv (.r rfl)) rfl<|VO.nil ?_)
        refine VE.thenN fun a w ha hw => ⟨(k + 1, ml ++ [(Span.mk (vs.getD k ⟨0,0⟩).lo ((vs.getD k ⟨0,0⟩).hi + ((mn % 20 : Nat) : Int)))], p4, c4), ⟨by dsimp only; omega, ar_eq hm (arAt_of (by rw [vAt_f h23]; omega) (by rw [vAt_t hmx]))⟩, (by dsimp only; omega), ha.sub (.cons rfl (.cons rfl (.cons rfl (.cons rfl (.cons rfl (.cons rfl (.cons rfl .nil))))))), hw.sel [2,3,4,5] rfl⟩
      ·
        refine VC.skip (VE.seqN ?_)
        refine VC.reg (VO.l (LO.fa (r := 5) F26_1 (.r rfl) rfl) rfl<|VO.l (LO.ld O24 (.r rfl) (fun _ hw => cells_at hw 1 rfl ⟨_, rfl⟩)) rfl<|VO.l (LO.lda (vs := [_,_]) A71 (.r rfl) (fun _ hw => cells_at hw 0 rfl ⟨_, rfl⟩) rfl) rfl<|VO.h rfl<|HO.bs (ps := [(_,_)]) (vs := [(_,_)]) (Z := [_,_]) (C := [_,_]) S24 Z71 N71 ⟨(.r rfl), trivial⟩ rfl rfl rfl rfl ⟨_, [_,_], [_,_], rfl, rfl, rfl, rfl, rfl⟩ fun b21 => VO.h rfl<|HO.appT ((Span.mk (vs.getD k ⟨0,0⟩).lo (vs.getD k ⟨0,0⟩).hi)) (f := Span.cells) 3 0 (fun R => [_,_,_, R,_,_]) S24 S24 I71 (.r rfl) (.r rfl) rfl rfl rfl rfl rfl rfl rfl (fun _ => rfl) rfl (by omega) fun p4 c4 => VO.l (LO.fa (r := 5) F26_1 (.r rfl) rfl) rfl<|VO.h0<|HO.st 2 (vs := [_]) (C' := [_,_,_,_,_,_]) (L' := [_,_,_,_,_,_]) N24 rfl rfl rfl rfl rfl rfl rfl rfl<|VO.nil ?_)
        refine VE.inN (VE.seqN ?_)
        refine VC.reg (VO.l (LO.add (.r rfl) (.r rfl) (wi (by omega) (by omega))) rfl<|VO.l (LO.mv (.r rfl)) rfl<|VO.nil ?_)
        refine VE.thenN fun a w ha hw => ⟨(k + 1, ml ++ [(Span.mk (vs.getD k ⟨0,0⟩).lo (vs.getD k ⟨0,0⟩).hi)], p4, c4), ⟨by dsimp only; omega, ar_eq hm (arAt_of (by rw [vAt_f h23]; omega) (by rw [vAt_f h40]; omega))⟩, (by dsimp only; omega), ha.sub (.cons rfl (.cons rfl (.cons rfl (.cons rfl (.cons rfl (.cons rfl (.cons rfl .nil))))))), hw.sel [2,3,4,5] rfl⟩
  ·
    refine VC.exit (VE.thenX (VE.thenX (VE.inX (VE.seqN ?_))))
    refine VC.seq ?_
    refine VC.reg (VO.l (LO.lda (vs := [_,_,_,_,_,_]) A26 (.r rfl) (fun _ hw => cells_at hw 0 rfl ⟨_, rfl⟩) rfl) rfl<|VO.h0<|HO.st 2 (vs := [_,_,_,_,_,_]) (C' := [_,_,_,_,_,_]) (L' := [_,_,_,_]) N26 rfl rfl rfl rfl rfl rfl rfl rfl<|VO.nil ?_)
    refine VE.seqN ?_
    refine VC.ret (VE.res (vs := [_]) rfl ⟨RV.agg (vs := [_,_,_,_,_,_]) A26 rfl (cells_blk 2 rfl ⟨_, rfl⟩) rfl, trivial⟩ (fun w hw => ?_))
    have hke : k = vs.length := by omega
    subst hke
    subst hm
    exact ⟨⟨po, co⟩, trivial, rfl, selK [1] rfl rfl _ hw⟩

end Go.Proofs.Ytgemekpofpoopaa

namespace Go.Proofs.Ytgemekpofpoopaa
open Go.SL Go.Proofs Go.Cast Go.Cell
set_option linter.unusedVariables false

theorem C42 : IsFn Try.prog 42 := ⟨_, Try.func42, by decide, rfl⟩
end Go.Proofs.Ytgemekpofpoopaa

namespace Go.Proofs.Ytgemekpofpoopaa
open Go.SL Go.Proofs Go.Cast Go.Cell
set_option linter.unusedVariables false
section
variable {W H r n m i j p q : Nat} {oa ob : List Int} {l : List EvM} {x y lv : Int} {vs ts : List Span}
/-- The events hold pairs together: what is paired lies in one event. -/
theorem ev_pair (h : EvP W H r oa ob n m l) (hi : i < n) (hj : j < m) (hp : Jal W H r oa ob (false, (i : Int)) (true, (j : Int))) : ∃ e, e ∈ l ∧ i ∈ e.f ∧ j ∈ e.t := by
  have hg := h.good
  obtain ⟨ld, h1, h2⟩ := h.ex
  have hk : ld (ndx n i) = ld (ndx n (n + j)) := by rw [ndx_lt hi, ndx_ge]; exact (h1 _ _).2 (.base hp)
  obtain ⟨e, he, hf⟩ := hg.allF i hi
  have he2 := he
  rw [h2] at he2
  obtain ⟨k, k1, k2, k3, k4, k5⟩ := evsM_mem he2
  refine ⟨e, he, hf, ?_⟩
  rw [k4] at hf
  rw [k5]
  exact List.mem_filter.2 ⟨List.mem_range.2 hj, decide_eq_true (hk.symm.trans (of_decide_eq_true (List.mem_filter.1 hf).2))⟩
theorem ev_oneF (h : GoodEv n m l) {e e2 : EvM} (he : e ∈ l) (he2 : e2 ∈ l) (h1 : i ∈ e.f) (h2 : i ∈ e2.f) : e = e2 := by
  obtain ⟨a, ha, rfl⟩ := List.mem_iff_getElem.1 he
  obtain ⟨b, hb, rfl⟩ := List.mem_iff_getElem.1 he2
  rcases Nat.lt_trichotomy a b with z | z | z
  · exact absurd h2 ((List.pairwise_iff_getElem.1 h.apart a b ha hb z).1 i h1)
  · subst z; rfl
  · exact absurd h1 ((List.pairwise_iff_getElem.1 h.apart b a hb ha z).1 i h2)
theorem ev_oneT (h : GoodEv n m l) {e e2 : EvM} (he : e ∈ l) (he2 : e2 ∈ l) (h1 : j ∈ e.t) (h2 : j ∈ e2.t) : e = e2 := by
  obtain ⟨a, ha, rfl⟩ := List.mem_iff_getElem.1 he
  obtain ⟨b, hb, rfl⟩ := List.mem_iff_getElem.1 he2
  rcases Nat.lt_trichotomy a b with z | z | z
  · exact absurd h2 ((List.pairwise_iff_getElem.1 h.apart a b ha hb z).2 j h1)
  · subst z; rfl
  · exact absurd h1 ((List.pairwise_iff_getElem.1 h.apart b a hb ha z).2 j h2)
/-- A pixel and where it moves to. -/
structure MvTo (W H : Nat) (x y : Int) (p q : Nat) : Prop where
  hp : p < W * H
  hq : q < W * H
  hu : ((q % W : Nat) : Int) = ((p % W : Nat) : Int) + x
  hv : ((q / W : Nat) : Int) = ((p / W : Nat) : Int) + y
theorem mv_to (hp : p < W * H) (h : 0 ≤ ((p % W : Nat) : Int) + x ∧ ((p % W : Nat) : Int) + x < W ∧ 0 ≤ ((p / W : Nat) : Int) + y ∧ ((p / W : Nat) : Int) + y < H) : MvTo W H x y p ((((p / W : Nat) : Int) + y) * W + (((p % W : Nat) : Int) + x)).toNat := by
  obtain ⟨u, hu⟩ : ∃ u : Nat, ((p % W : Nat) : Int) + x = u := ⟨(((p % W : Nat) : Int) + x).toNat, by omega⟩
  obtain ⟨v, hv⟩ : ∃ v : Nat, ((p / W : Nat) : Int) + y = v := ⟨(((p / W : Nat) : Int) + y).toNat, by omega⟩
  rw [hu, hv, show ((v : Int) * (W : Int) + (u : Int)) = ((W * v + u : Nat) : Int) by rw [Nat.mul_comm]; push_cast; rfl, Int.toNat_natCast]
  have hul : u < W := by omega
  have hvl : v < H := by omega
  obtain ⟨e1, e2⟩ := dm_eq (W := W) (p := W * v + u) (a := v) (b := u) rfl hul
  exact ⟨hp, pix_lt hul hvl, by rw [e2]; omega, by rw [e1]; omega⟩
theorem MvTo.back (h : MvTo W H x y p q) : drIn W H q x y = true ∧ drQ W q x y = p := by
  have hp := h.hp
  have hW : 0 < W := Nat.pos_of_ne_zero fun e => by rw [e, Nat.zero_mul] at hp; omega
  have hd := dm W p hW
  have h1 := h.hu; have h2 := h.hv
  have hr := row_lt hp
  have k1 := Int.natCast_nonneg (p / W)
  have k2 := Int.natCast_nonneg (p % W)
  refine ⟨decide_eq_true (by omega), ?_⟩
  unfold drQ
  rw [show ((q / W : Nat) : Int) - y = ((p / W : Nat) : Int) by omega, show ((q % W : Nat) : Int) - x = ((p % W : Nat) : Int) by omega, show (((p / W : Nat) : Int) * (W : Int) + ((p % W : Nat) : Int)) = ((W * (p / W) + p % W : Nat) : Int) by rw [Nat.mul_comm]; push_cast; rfl, Int.toNat_natCast]
  exact hd.1.symm
theorem MvTo.near (h : MvTo W H x y p q) (hr : -(r : Int) ≤ x ∧ x ≤ r ∧ -(r : Int) ≤ y ∧ y ≤ r) {a b : Int} (ha : oa.getD p (-1) = a) (hb : ob.getD q (-1) = b) (ha0 : 0 ≤ a) (hb0 : 0 ≤ b) : Jal W H r oa ob (false, a) (true, b) := by
  have hp := h.hp; have hq := h.hq
  have hW : 0 < W := Nat.pos_of_ne_zero fun e => by rw [e, Nat.zero_mul] at hp; omega
  have h1 := h.hu; have h2 := h.hv
  have hd := dm W q hW
  have hrow := row_lt hq
  have e : q / W * W + q % W = q := by rw [Nat.mul_comm]; exact hd.1.symm
  exact ⟨p, q / W, q % W, hp, by omega, by omega, ⟨by rw [ha], by omega⟩, ⟨by rw [e, hb], by rw [e]; omega⟩⟩
theorem MvTo.neg (h : MvTo W H x y p q) : MvTo W H (-x) (-y) q p := ⟨h.hq, h.hp, by have := h.hu; omega, by have := h.hv; omega⟩
/-- What is known of a field that moves, before and after. -/
structure DrK (W H : Nat) (fs ss as_ bs_ : List Span) (x y lv : Int) : Prop where
  mv : ∀ p q, MvTo W H x y p q → ss.getD q ⟨0,0⟩ = fs.getD p ⟨0,0⟩
  fa : ∀ p, p < W * H → (lv ≤ (fs.getD p ⟨0,0⟩).lo → mayB as_ lv p = true) ∧ (inB as_ lv p = true → lv ≤ (fs.getD p ⟨0,0⟩).lo)
  sb : ∀ p, p < W * H → (lv ≤ (ss.getD p ⟨0,0⟩).lo → mayB bs_ lv p = true) ∧ (inB bs_ lv p = true → lv ≤ (ss.getD p ⟨0,0⟩).lo)
theorem dr_get {fs : List Span} {ot : List Nat} (hf : fs.length = W * H) (h : MvTo W H x y p q) : (drTo W H fs ot x y fs.length).getD q ⟨0,0⟩ = fs.getD p ⟨0,0⟩ := by
  unfold drTo
  rw [List.getD_eq_getElem?_getD, List.getElem?_map, List.getElem?_range (by rw [hf]; exact h.hq)]
  show drAt W H fs ot x y q = _
  obtain ⟨h1, h2⟩ := h.back
  unfold drAt; rw [if_pos h1, h2]
theorem arM_get {fs : List Span} {le mo : List Nat} (hp : p < fs.length) : (arTo fs le mo fs.length).getD p ⟨0,0⟩ = arAt fs le mo p := by
  unfold arTo
  rw [List.getD_eq_getElem?_getD, List.getElem?_map, List.getElem?_range hp]; rfl
theorem around_in {fs : List Span} {le mo : List Nat} (hp : p < fs.length) (hl : 1 ≤ lv) (hpt : (fs.getD p ⟨0,0⟩).lo = (fs.getD p ⟨0,0⟩).hi) : (lv ≤ (fs.getD p ⟨0,0⟩).lo → mayB (arTo fs le mo fs.length) lv p = true) ∧ (inB (arTo fs le mo fs.length) lv p = true → lv ≤ (fs.getD p ⟨0,0⟩).lo) := by
  unfold mayB inB
  rw [arM_get hp]
  unfold arAt
  simp only [decide_eq_true_eq]
  omega
/-- Each pixel that is in is together with what it becomes. -/
theorem drift_pair {fs ss as_ bs_ : List Span} {one two : List Int} (hk : DrK W H fs ss as_ bs_ x y lv) (ho : OwOk W H (mayB as_ lv) one) (ht : OwOk W H (mayB bs_ lv) two) (h : MvTo W H x y p q) (hin : lv ≤ (fs.getD p ⟨0,0⟩).lo) :
    ∃ i j : Nat, one.getD p (-1) = i ∧ i < (partsL W H (mayB as_ lv)).length ∧ two.getD q (-1) = j ∧ j < (partsL W H (mayB bs_ lv)).length := by
  obtain ⟨i, h1, h2⟩ := ow_at ho h.hp ((hk.fa p h.hp).1 hin)
  obtain ⟨j, h3, h4⟩ := ow_at ht h.hq ((hk.sb q h.hq).1 (by rw [hk.mv p q h]; exact hin))
  exact ⟨i, j, h1, h2, h3, h4⟩
end
end Go.Proofs.Ytgemekpofpoopaa
