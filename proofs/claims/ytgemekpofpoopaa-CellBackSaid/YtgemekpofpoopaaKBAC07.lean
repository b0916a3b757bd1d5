/-
  The chapter's examples hold.
  CellNil, walked.
  Maps of the statements.
  Fields within others.
  Members.
  CellOpen, walked.
  Narrower maps: plain.
  Fields that moved, fields around, events that hold two areas.
  The move of all is a possible move: plain.
  Fields, events and moves of the statements.
  Exchanged maps, greater reaches: plain.
  CellBack, walked.
  Readings of maps by numbers.
-/
import Derived.Test.YtgemekpofpoopaaKBAC06

set_option linter.unusedSimpArgs false
namespace Go.Proofs.Ytgemekpofpoopaa
open Go.SL Go.Proofs Go.Cast Go.Cell
set_option linter.unusedVariables false

theorem C56 : IsFn Try.prog 56 := ⟨_, Try.func56, by decide, rfl⟩
theorem C17 : IsFn Try.prog 17 := ⟨_, Try.func17, by decide, rfl⟩
theorem C26 : IsFn Try.prog 26 := ⟨_, Try.func26, by decide, rfl⟩
theorem EA71 : FlatA Try.prog 71 2 := ⟨⟨_, Try.underlying71, rfl⟩, by kernel_rfl, by kernel_rfl⟩
theorem C20 : IsFn Try.prog 20 := ⟨_, Try.func20, by decide, rfl⟩
theorem C22 : IsFn Try.prog 22 := ⟨_, Try.func22, by decide, rfl⟩
theorem C24 : IsFn Try.prog 24 := ⟨_, Try.func24, by decide, rfl⟩
theorem C27 : IsFn Try.prog 27 := ⟨_, Try.func27, by decide, rfl⟩
theorem C30 : IsFn Try.prog 30 := ⟨_, Try.func30, by decide, rfl⟩
theorem EA85 : FlatA Try.prog 85 2 := ⟨⟨_, Try.underlying85, rfl⟩, by kernel_rfl, by kernel_rfl⟩
theorem C47 : IsFn Try.prog 47 := ⟨_, Try.func47, by decide, rfl⟩
theorem C48 : IsFn Try.prog 48 := ⟨_, Try.func48, by decide, rfl⟩
theorem C49 : IsFn Try.prog 49 := ⟨_, Try.func49, by decide, rfl⟩
theorem F109_0 : FieldAt Try.prog 109 0 0 := ⟨_,_, Try.underlying109, rfl, rfl, 0, by kernel_rfl⟩
theorem C50 : IsFn Try.prog 50 := ⟨_, Try.func50, by decide, rfl⟩
theorem EA105 : FlatA Try.prog 105 9 := ⟨⟨_, Try.underlying105, rfl⟩, by kernel_rfl, by kernel_rfl⟩


theorem rowF_c (b : Nat) (w : World) (h : Ints w (some ⟨b, 0, none⟩) [5,5,2,5,5,5,0,1]) : Calls Try.prog (56) #[.slice (some ⟨b, 0, none⟩) 8 8] w fun e w' => ∃ y : SlY, True ∧ e = .returned (fieldV xG y.p xF.length y.c) ∧ St (bs w) [own 71 2 y.p y.c (xF.map Span.cells)] w' := row_c [5,5,2,5,5,5,0,1] _ 8 w h (by decide)
theorem rowH_c (b : Nat) (w : World) (h : Ints w (some ⟨b, 0, none⟩) [0,1,5,5,2,5,5,5]) : Calls Try.prog (56) #[.slice (some ⟨b, 0, none⟩) 8 8] w fun e w' => ∃ y : SlY, True ∧ e = .returned (fieldV xG y.p xH.length y.c) ∧ St (bs w) [own 71 2 y.p y.c (xH.map Span.cells)] w' := row_c [0,1,5,5,2,5,5,5] _ 8 w h (by decide)
theorem xJoin2_c (p : Option Addr) (c : Nat) (w : World) (hv : Spans w p xF) : Calls Try.prog (20) #[fieldV xG p xF.length c, .int .i64 5, .int .i64 0, .int .i64 2] w fun e w' => e = .returned (.tuple #[.int .i64 3, .int .i64 0]) ∧ St (bs w) [] w' := by
  have z := Joined_ok xG xF p c 5 0 2 w hv xP2
  rw [xJ2] at z; exact z
theorem xJoin3_c (p : Option Addr) (c : Nat) (w : World) (hv : Spans w p xF) : Calls Try.prog (20) #[fieldV xG p xF.length c, .int .i64 5, .int .i64 0, .int .i64 3] w fun e w' => e = .returned (.tuple #[.int .i64 2, .int .i64 0]) ∧ St (bs w) [] w' := by
  have z := Joined_ok xG xF p c 5 0 3 w hv xP3
  rw [xJ3] at z; exact z
theorem xGap2_c (p : Option Addr) (c : Nat) (w : World) (hv : Spans w p xF) : Calls Try.prog (22) #[fieldV xG p xF.length c, .int .i64 5, .int .i64 0, .int .i64 2] w fun e w' => e = .returned (.tuple #[.int .i64 1, .int .i64 0]) ∧ St (bs w) [] w' :=
  (Gap_ok xG xF p c 5 0 2 w hv xP2).mono fun e w' ⟨z, h1, h2, h3⟩ => ⟨by rw [h2, xGap2 h1], h3⟩
theorem xGap3_c (p : Option Addr) (c : Nat) (w : World) (hv : Spans w p xF) : Calls Try.prog (22) #[fieldV xG p xF.length c, .int .i64 5, .int .i64 0, .int .i64 3] w fun e w' => e = .returned (.tuple #[.int .i64 (-1), .int .i64 0]) ∧ St (bs w) [] w' :=
  (Gap_ok xG xF p c 5 0 3 w hv xP3).mono fun e w' ⟨z, h1, h2, h3⟩ => ⟨by rw [h2, xGap3 h1], h3⟩
structure XtY where
  p : Option Addr
  c : Nat
  p1 : Option Addr
  c1 : Nat
  p2 : Option Addr
  c2 : Nat
theorem xTree_c (p : Option Addr) (c b : Nat) (w : World) (hv : Spans w p xF) (hl : Ints w (some ⟨b, 0, none⟩) [1,5]) : Calls Try.prog (24) #[fieldV xG p xF.length c, .slice (some ⟨b, 0, none⟩) 2 2] w fun e w' => ∃ y : XtY, True ∧ e = .returned (.tuple #[.slice y.p 2 y.c, .int .i64 0]) ∧ St (bs w) [own 40 1 y.p y.c (([⟨y.p1, y.c1, [-1]⟩, ⟨y.p2, y.c2, [0]⟩] : List (RowA Int)).map rowC), bagR 3 1 iC [⟨y.p1, y.c1, [-1]⟩, ⟨y.p2, y.c2, [0]⟩]] w' :=
  (Tree_ok xG xF p c [1,5] _ 2 w hv hl xTreeE).mono fun e w' ⟨y, h1, h2, h3⟩ => by
    rw [xTree] at h1
    obtain ⟨p1, c1, p2, c2, e1⟩ := row_list2 h1
    rw [e1] at h2 h3
    exact ⟨⟨y.p, y.c, p1, c1, p2, c2⟩, trivial, h2, h3⟩
structure XeY where
  p : Option Addr
  c : Nat
  fp : Option Addr
  fc : Nat
  tp : Option Addr
  tc : Nat
def XeY.e (y : XeY) : EvR := ⟨4, y.fp, y.fc, [0], y.tp, y.tc, [0]⟩
theorem ev_list {l : List EvR} {e : EvM} (h : l.map EvR.m = [e]) : ∃ fp fc tp tc, l = [⟨e.kd, fp, fc, e.f, tp, tc, e.t⟩] := by
  rcases l with _ | ⟨a,_ | ⟨b, r⟩⟩
  · cases h
  · obtain ⟨kd, fp, fc, f, tp, tc, t⟩ := a
    have h := (List.cons.inj h).1
    subst h; exact ⟨fp, fc, tp, tc, rfl⟩
  · cases (List.cons.inj h).2
theorem xMatch_c (p : Option Addr) (c : Nat) (q : Option Addr) (d : Nat) (w : World) (hv : Spans w p xF) (hu : Spans w q xH) : Calls Try.prog (27) #[fieldV xG p xF.length c, fieldV xG q xH.length d, .int .i64 5, .int .i64 1] w fun e w' => ∃ y : XeY, True ∧ e = .returned (.tuple #[.slice y.p 1 y.c, .int .i64 0]) ∧ St (bs w) [own 81 3 y.p y.c ([y.e].map EvR.cells), bagD ([y.e].map EvR.fR), bagD ([y.e].map EvR.tR)] w' :=
  (Match_ok xG xF p c xG xH q d 5 1 w hv hu xPair).mono fun e w' ⟨y, h1, h2, h3⟩ => by
    rw [xNf, xNh] at h1
    obtain ⟨fp, fc, tp, tc, e1⟩ := ev_list (xEv h1)
    obtain ⟨l, yp, yc⟩ := y
    subst e1
    exact ⟨⟨yp, yc, fp, fc, tp, tc⟩, trivial, h2, h3⟩
def xMv : List Mv := [⟨-1, -1⟩, ⟨0, -1⟩, ⟨1, -1⟩, ⟨-1,0⟩, ⟨1,0⟩, ⟨-1,1⟩, ⟨0,1⟩, ⟨1,1⟩]
theorem xMoves_c (p : Option Addr) (c : Nat) (q : Option Addr) (d : Nat) (w : World) (hv : Spans w p xF) (hu : Spans w q xH) : Calls Try.prog (30) #[fieldV xG p xF.length c, fieldV xG q xH.length d, .int .i64 5, .int .i64 1, .int .i64 0, .int .i64 0] w fun e w' => ∃ y : SlY, True ∧ e = .returned (.tuple #[.slice y.p 8 y.c, .int .i64 0]) ∧ St (bs w) [own 85 2 y.p y.c (xMv.map Mv.cells)] w' :=
  (Moves_ok xG xF p c xG xH q d 5 0 0 1 w hv hu xMoveE).mono fun e w' ⟨y, h1, h2, h3⟩ => by
    rw [xMoves] at h2 h3
    exact ⟨y, trivial, h2, h3⟩
structure XaY where
  p : Option Addr
  c : Nat
  pp : Option Addr
  pc : Nat
  kp : Option Addr
  kc : Nat
  p1 : Option Addr
  c1 : Nat
  p2 : Option Addr
  c2 : Nat
def XaY.a (y : XaY) : AreaR := ⟨⟨y.pp, y.pc, [0,1,2]⟩, y.kp, y.kc, [⟨y.p1, y.c1, [0]⟩, ⟨y.p2, y.c2, [2]⟩], ⟨0,2,0,0,10,15⟩⟩
structure XaI (w : World) (y : XaY) : Prop where
  ar : RO 8 AreaR.cells w y.p [y.a]
  px : Ints w y.pp [0,1,2]
  kr : RR 1 iC w y.kp [⟨y.p1, y.c1, [0]⟩, ⟨y.p2, y.c2, [2]⟩]
theorem rr_nat {w : World} {p : Option Addr} {rs : List (RowA Nat)} (h : RR 1 nC w p rs) : RR 1 iC w p (rs.map fun r => (⟨r.p, r.c, r.l.map fun n : Nat => (n : Int)⟩ : RowA Int)) := by
  refine ⟨?_, fun x hx => ?_⟩
  · have h1 := h.1
    unfold RO at h1 ⊢
    rw [List.map_map]
    have e : (rowC ∘ fun r : RowA Nat => (⟨r.p, r.c, r.l.map fun n : Nat => (n : Int)⟩ : RowA Int)) = rowC := by
      funext r; show [Value.slice r.p (r.l.map _).length r.c] = _; rw [List.length_map]; rfl
    rw [e]; exact h1
  · obtain ⟨r, hr, rfl⟩ := List.mem_map.1 hx
    have := h.2 r hr
    exact ⟨by show (r.l.map _).length ≤ r.c; rw [List.length_map]; exact this.1, ints_nat this.2⟩
structure XaF (y : ArY) (z : XaY) : Prop where
  ar : ArP (gW xG) (gH xG) xF 5 y
  l : y.l = [z.a]
  p : y.p = z.p
theorem xAreas_c (p : Option Addr) (c : Nat) (w : World) (hv : Spans w p xF) : Calls Try.prog (17) #[fieldV xG p xF.length c, .int .i64 5] w fun e w' => ∃ y : ArY × XaY, XaF y.1 y.2 ∧ e = .returned (.tuple #[.slice y.2.p 1 y.2.c, .int .i64 0]) ∧ St (bs w) (y.1.R (ofL (gW xG) (gH xG) (mayB xF 5))) w' :=
  (Areas_ok xG xF p c 5 w hv xF_open).mono fun e w' ⟨y, h1, h2, h3⟩ => by
    obtain ⟨pp, pc, kp, kc, p1, c1, p2, c2, hl⟩ := exAr h1 xAreas
    rw [hl] at h2
    exact ⟨⟨y, ⟨y.p, y.c, pp, pc, kp, kc, p1, c1, p2, c2⟩⟩, ⟨h1, hl, rfl⟩, h2, h3⟩
theorem XaI.of {y : ArY} {z : XaY} {β : Bs} {L : List Res} {w : World} (h : XaF y z) (hw : St β (y.R (ofL (gW xG) (gH xG) (mayB xF 5)) ++ L) w) : XaI w z := by
  have hS := SpI.of_res hw h.ar 0 1 3 7 rfl rfl rfl rfl
  have hR : RR 1 nC w y.pr y.rs := RR.of_own hw 5 6 rfl rfl
  have hl := h.l
  refine ⟨?_, ?_, ?_⟩
  · have := hS.ar; rw [hl, h.p] at this; exact this
  · exact ints_nat (hR.2 z.a.px (by rw [← h.ar.px, hl]; exact List.mem_singleton.2 rfl)).2
  · exact rr_nat (hS.kr z.a (by rw [hl]; exact List.mem_singleton.2 rfl))
theorem XaI.keep {w0 : World} {y : XaY} (h : XaI w0 y) : ∀ {L : List Res} (w : World), St (bs w0) L w → XaI w y := fun w hw => ⟨h.ar.keep w hw, h.px.keep w hw, h.kr.keep w hw⟩
theorem rr_lit2 {w : World} {b1 b2 b3 : Nat} {x y : Int} (h1 : Ints w (some ⟨b1,0, none⟩) [x]) (h2 : Ints w (some ⟨b2,0, none⟩) [y]) (h3 : Cells w ⟨b3,0, none⟩ [.slice (some ⟨b1,0, none⟩) 1 1, .slice (some ⟨b2,0, none⟩) 1 1]) : RR 1 iC w (some ⟨b3,0, none⟩) [⟨some ⟨b1,0, none⟩, 1, [x]⟩, ⟨some ⟨b2,0, none⟩, 1, [y]⟩] := by
  refine ⟨RO.ofC (fun _ => rfl) h3, fun r hr => ?_⟩
  rcases List.mem_cons.1 hr with rfl | hr
  · exact ⟨Nat.le_refl _, h1⟩
  · have hr := List.mem_singleton.1 hr; subst hr; exact ⟨Nat.le_refl _, h2⟩
theorem two_rows {a b : RowA Int} (ha : a.l.length = 1) (hb : b.l.length = 1) : ∀ x, x ∈ [a, b] → x.l.length ≤ 1000000 := fun x hx => by
  rcases List.mem_cons.1 hx with rfl | hx
  · omega
  · have hx := List.mem_singleton.1 hx; subst hx; omega
abbrev xBk (bm : Nat) : BkH := ⟨xG, 5,1, bm⟩
theorem xBook : bookE xG 5 1 = 0 := by kernel_rfl
theorem xAdd0 (bm : Nat) : addE (xBk bm) (-1) 0 10 xG xF = 0 := rfl
theorem xAdd1 (bm : Nat) : addE (xBk bm) 10 1 20 xG xH = 0 := rfl
theorem xLate (bm n : Nat) : addE (xBk bm) 20 n 20 xG xH = 17 := rfl
theorem xLate_c (b bm : Nat) (q : BkQ) (pt : Option Addr) (nt ct : Nat) (kd : Nat → Int) (p : Option Addr) (c : Nat) (w : World) (hb : Cells w ⟨b, 0, none⟩ (bkC (xBk bm) 20 q pt nt ct kd)) (hv : Spans w p xH) : Calls Try.prog (48) #[.pointer (some ⟨b, 0, none⟩), .int .i64 20, fieldV xG p xH.length c] w fun e w' => e = .returned (.tuple #[.slice none 0 0, .int .i64 17]) ∧ St (bs w) [] w' := by
  have z := Add_e b (xBk bm) 20 q pt nt ct kd 20 xG xH p c w hb hv (by rw [xLate]; decide)
  rw [xLate] at z; exact z
structure XkY where
  p : Option Addr
  c : Nat
  ap : Option Addr
  ac : Nat
  pp : Option Addr
  pc : Nat
  cp : Option Addr
  cc : Nat
def XkY.t (y : XkY) : TkR := ⟨1,0, y.ap, y.ac, [0,0], 0, y.pp, y.pc, [], y.cp, y.cc, []⟩
theorem xk_list {tk : List TkR} (h : tk.map TkR.m = [⟨1,0, [0,0], 0, [], []⟩]) : ∃ ap ac pp pc cp cc, tk = [⟨1,0, ap, ac, [0,0], 0, pp, pc, [], cp, cc, []⟩] := by
  obtain ⟨t, rfl, hm⟩ := tk_list h
  obtain ⟨bg, fr, ap, ac, ar, en, pp, pc, pa, cp, cc, ch⟩ := t
  cases hm
  exact ⟨ap, ac, pp, pc, cp, cc, rfl⟩
theorem xTracks_c (b : Nat) (h : BkH) (la : Int) (q : BkQ) (pt : Option Addr) (ct : Nat) (kd : Nat → Int) (tk : List TkR) (w : World) (hb : Cells w ⟨b, 0, none⟩ (bkC h la q pt tk.length ct kd)) (htk : RO 6 TkR.cells w pt tk) (hti : ∀ t, t ∈ tk → TkI w t) (hm : tk.map TkR.m = [⟨1,0, [0,0], 0, [], []⟩]) : Calls Try.prog (49) #[.pointer (some ⟨b, 0, none⟩)] w fun e w' => ∃ y : XkY, True ∧ e = .returned (.slice y.p 1 y.c) ∧ St (bs w) [own 109 6 y.p y.c ([y.t].map TkR.cells), bagD ([y.t].map TkR.aR), bagD ([y.t].map TkR.pR), bagD ([y.t].map TkR.cR)] w' :=
  (Tracks_ok b h la q pt ct kd tk w hb htk hti (fun t ht => by
    obtain ⟨_,_,_,_,_,_, rfl⟩ := xk_list hm
    have := List.mem_singleton.1 ht; subst this
    exact ⟨(show 2 ≤ 1000000000 by decide), (show 0 ≤ 1000000000 by decide), (show 0 ≤ 1000000000 by decide)⟩) (by obtain ⟨_,_,_,_,_,_, rfl⟩ := xk_list hm; exact (show 1 ≤ 1000000 by decide))).mono fun e w' ⟨y, h1, h2, h3⟩ => by
    rw [hm] at h1
    obtain ⟨l, yp, yc⟩ := y
    obtain ⟨ap, ac, pp, pc, cp, cc, rfl⟩ := xk_list h1
    exact ⟨⟨yp, yc, ap, ac, pp, pc, cp, cc⟩, trivial, h2, h3⟩
theorem xTally_c (b bm : Nat) (la : Int) (pm : Option Addr) (cm : Nat) (ys : List ArY) (pt : Option Addr) (ct : Nat) (kd : Nat → Int) (tk : List TkR) (of : Nat × Nat → Option Nat) (w : World) (hb : Cells w ⟨b, 0, none⟩ (bkC (xBk bm) la ⟨pm, ys.length, cm⟩ pt tk.length ct kd)) (ho : (mapR plV niV bm (ofI of)).inv w) (hys : ys.length = 2) (hm : tk.map TkR.m = [⟨1,0, [0,0], 0, [], []⟩]) (hk : ∀ a, a ∈ [((0 : Int), (0 : Int)), (1,0)] ↔ (ofI of a).isSome = true) (hkd : kd = kdF (fun _ => 0) [⟨4, [0], [0]⟩]) :
    Calls Try.prog (50) #[.pointer (some ⟨b, 0, none⟩)] w fun e w' => e = .returned (.agg #[.int .i64 2, .int .i64 2, .int .i64 1, .int .i64 0, .int .i64 0, .int .i64 1, .int .i64 0, .int .i64 0, .int .i64 0]) ∧ St (bs w) [] w' := by
  have z := Tally_ok b (xBk bm) la ⟨pm, ys.length, cm⟩ pt ct kd tk w hb of ho [((0 : Int), (0 : Int)), (1,0)] (by decide) hk
  obtain ⟨_,_,_,_,_,_, rfl⟩ := xk_list hm
  subst hkd
  rw [hys] at z
  exact z

set_option maxRecDepth 20000 in
set_option maxHeartbeats 16000000 in
theorem works_c (w : World) :
  Calls Try.prog 16 #[] w fun e w' => e = .returned (.bool true) ∧ St (bs w) [] w' := by
  refine enter (vs := []) (env := []) Try.func16 rfl rfl rfl rfl ?_
  refine VC.seq ?_
  refine VC.reg (VO.l (LO.as (.r rfl)) rfl<|VO.nil ?_)
  refine VE.seqN ?_
  refine VC.seq ?_
  refine VC.reg (VO.h rfl<|HO.bs (ps := [(_,_), (_,_), (_,_), (_,_), (_,_), (_,_), (_,_), (_,_)]) (vs := [(_,_), (_,_), (_,_), (_,_), (_,_), (_,_), (_,_), (_,_)]) (Z := [_,_,_,_,_,_,_,_]) (C := [_,_,_,_,_,_,_,_]) S40 Z3 N3 ⟨(.r rfl), (.r rfl), (.r rfl), (.r rfl), (.r rfl), (.r rfl), (.r rfl), (.r rfl), trivial⟩ rfl rfl rfl rfl ⟨_, [_], [_,_,_,_,_,_,_,_], rfl, rfl, rfl, rfl, ⟨_, [_], [_,_,_,_,_,_,_,_], rfl, rfl, rfl, rfl, ⟨_, [_], [_,_,_,_,_,_,_,_], rfl, rfl, rfl, rfl, ⟨_, [_], [_,_,_,_,_,_,_,_], rfl, rfl, rfl, rfl, ⟨_, [_], [_,_,_,_,_,_,_,_], rfl, rfl, rfl, rfl, ⟨_, [_], [_,_,_,_,_,_,_,_], rfl, rfl, rfl, rfl, ⟨_, [_], [_,_,_,_,_,_,_,_], rfl, rfl, rfl, rfl, ⟨_, [_], [_,_,_,_,_,_,_,_], rfl, rfl, rfl, rfl, rfl⟩⟩⟩⟩⟩⟩⟩⟩ fun b1 => VO.h rfl<|HO.callx (xs := [_]) (vs := [_]) C56 ⟨(.r rfl), trivial⟩ (fun w2 hw => rowF_c b1 w2 (ints_lit _ (cells_inv (hw.inv 0 _ rfl)))) fun f1 _ => VO.h rfl<|HO.bs (ps := [(_,_), (_,_), (_,_), (_,_), (_,_), (_,_), (_,_), (_,_)]) (vs := [(_,_), (_,_), (_,_), (_,_), (_,_), (_,_), (_,_), (_,_)]) (Z := [_,_,_,_,_,_,_,_]) (C := [_,_,_,_,_,_,_,_]) S40 Z3 N3 ⟨(.r rfl), (.r rfl), (.r rfl), (.r rfl), (.r rfl), (.r rfl), (.r rfl), (.r rfl), trivial⟩ rfl rfl rfl rfl ⟨_, [_], [_,_,_,_,_,_,_,_], rfl, rfl, rfl, rfl, ⟨_, [_], [_,_,_,_,_,_,_,_], rfl, rfl, rfl, rfl, ⟨_, [_], [_,_,_,_,_,_,_,_], rfl, rfl, rfl, rfl, ⟨_, [_], [_,_,_,_,_,_,_,_], rfl, rfl, rfl, rfl, ⟨_, [_], [_,_,_,_,_,_,_,_], rfl, rfl, rfl, rfl, ⟨_, [_], [_,_,_,_,_,_,_,_], rfl, rfl, rfl, rfl, ⟨_, [_], [_,_,_,_,_,_,_,_], rfl, rfl, rfl, rfl, ⟨_, [_], [_,_,_,_,_,_,_,_], rfl, rfl, rfl, rfl, rfl⟩⟩⟩⟩⟩⟩⟩⟩ fun b3 => VO.h rfl<|HO.callx (xs := [_]) (vs := [_]) C56 ⟨(.r rfl), trivial⟩ (fun w2 hw => rowH_c b3 w2 (ints_lit _ (cells_inv (hw.inv 0 _ rfl)))) fun f2 _ => VO.h rfl<|HO.alloc (C := #[_,_,_,_,_,_]) Z26 rfl fun b5 => VO.h rfl<|HO.alloc (C := #[_,_,_,_,_,_]) Z26 rfl fun b6 => VO.h0<|HO.st 1 (vs := [_,_,_,_,_,_]) (C' := [_,_,_,_,_,_]) (L' := [_,_,_,_,_,_]) N26 rfl rfl rfl rfl rfl rfl rfl rfl<|VO.h0<|HO.st 0 (vs := [_,_,_,_,_,_]) (C' := [_,_,_,_,_,_]) (L' := [_,_,_,_,_,_]) N26 rfl rfl rfl rfl rfl rfl rfl rfl<|VO.nil ?_)
  refine VE.seqN ?_
  refine VC.seq ?_
  refine VC.rebase fun w1 hst1 => ?_
  have hf1 : Cells w1 ⟨b5,0, none⟩ [.int .i64 xG.x, .int .i64 xG.y, .int .i64 xG.size, .int .i64 xG.wide, .int .i64 xG.high, .slice f1.p xF.length f1.c] := cells_inv (hst1.inv 1 _ rfl)
  have hsF : Spans w1 f1.p xF := RO.of_own hst1 4 rfl
  have hf2 : Cells w1 ⟨b6,0, none⟩ [.int .i64 xG.x, .int .i64 xG.y, .int .i64 xG.size, .int .i64 xG.wide, .int .i64 xG.high, .slice f2.p xH.length f2.c] := cells_inv (hst1.inv 0 _ rfl)
  have hsH : Spans w1 f2.p xH := RO.of_own hst1 2 rfl
  refine VC.reg (VO.l (LO.lda (vs := [_,_,_,_,_,_]) A26 (.r rfl) (cells_keep (sub_cells (off := 0) hf1 ⟨_, rfl⟩)) rfl) rfl<|VO.h rfl<|HO.callx (xs := [_,_]) (vs := [_,_]) C17 ⟨(.r rfl), (.r rfl), trivial⟩ (fun w2 hw => xAreas_c f1.p f1.c w2 (hsF.keep w2 hw)) fun yaa hyaf => VO.h rfl<|HO.lo (LO.mv (.r rfl))<|VO.h rfl<|HO.lo (LO.ex (.r rfl) rfl)<|VO.h rfl<|HO.lo (LO.ex (.r rfl) rfl)<|VO.h rfl<|HO.lo (LO.as (.r rfl))<|VO.h rfl<|HO.lo (LO.as (.r rfl))<|VO.nil ?_)
  refine VE.seqN ?_
  refine VC.seq ?_
  refine VC.seq ?_
  obtain ⟨yy, ya⟩ := yaa
  dsimp only at hyaf
  refine VC.rebase fun w2 hst2 => ?_
  have hya0 : XaI w2 ya := XaI.of (L := []) hyaf (selK [0,1,2,3,4,5,6,7] rfl rfl _ hst2)
  have hya : ∀ {L : List Res} (w : World), St (bs w2) L w → XaI w ya := fun w hw => hya0.keep w hw
  have hf1 := cells_keep hf1 _ hst2
  have hf2 := cells_keep hf2 _ hst2
  have hsF := hsF.keep _ hst2
  have hsH := hsH.keep _ hst2
  refine VC.reg (VO.l (LO.mv (.r rfl)) rfl<|VO.l (LO.ne (.r rfl) (.r rfl)) rfl<|VO.l (LO.mv (.r rfl)) rfl<|VO.lg rfl rfl (GD.f _) (fun hg => LO.mv (.r rfl)) rfl<|VO.lg rfl rfl (GD.f _) (fun hg => LO.len S29 (.g hg rfl) rfl) rfl<|VO.lg rfl rfl (GD.f _) (fun hg => LO.ne (.g hg rfl) (.r rfl)) rfl<|VO.l (LO.pkO (.r rfl) (.r rfl) rfl rfl) rfl<|VO.l (LO.mv (.r rfl)) rfl<|VO.lg rfl rfl (GD.f _) (fun hg => LO.mv (.r rfl)) rfl<|VO.lg rfl rfl (GD.f _) (fun hg => LO.ixs S29 N73 hya0.ar.sm (.g hg rfl) (.r rfl) (j := 0) rfl Nat.zero_lt_one) rfl<|VO.lg rfl rfl (GD.f _) (fun hg => LO.fa F73_0 (.g hg rfl) rfl) rfl<|VO.lg rfl rfl (GD.f _) (fun hg => LO.ld O40 (.g hg rfl) (fun w hw => cells_part (off := 0) ((fun w3 h3 => RO.cel (hya w3 h3).ar (show [ya.a][0]? = some ya.a from rfl)) w hw) ⟨_, rfl⟩)) rfl<|VO.bc (x := 33) rfl (fun hg3_7 => (by exfalso; exact absurd hg3_7 (by decide))) (fun hg3_7 => VO.gT rfl rfl (congrArg Value.bool hg3_7) rfl<|HO.bs (ps := [(_,_), (_,_), (_,_)]) (vs := [(_,_), (_,_), (_,_)]) (Z := [_,_,_]) (C := [_,_,_]) S40 Z3 N3 ⟨(.r rfl), (.r rfl), (.r rfl), trivial⟩ rfl rfl rfl rfl ⟨_, [_], [_,_,_], rfl, rfl, rfl, rfl, ⟨_, [_], [_,_,_], rfl, rfl, rfl, rfl, ⟨_, [_], [_,_,_], rfl, rfl, rfl, rfl, rfl⟩⟩⟩ fun b17 => VO.gT rfl rfl (congrArg Value.bool hg3_7) rfl<|HO.lo (LO.call (xs := [_,_]) (vs := [_,_]) C40 ⟨(.g (by rw [hg3_7]; rfl) rfl), (.r rfl), trivial⟩ (fun w2 hw => numbers_c [0,1,2] [0,1,2] ya.pp ya.pc (some ⟨b17,0, none⟩) 3 w2 (hya w2 hw).px (ints_lit [0,1,2] (cells_inv (hw.inv 0 _ rfl))) (by decide)))<|VO.gT rfl rfl (congrArg Value.bool hg3_7) rfl<|HO.lo (LO.not (.r rfl))<|VO.h rfl<|HO.lo (LO.pkF (.r rfl) hg3_7 (.r rfl))<|VO.h rfl<|HO.lo (LO.mv (.r rfl))<|VO.lg rfl rfl (GD.f _) (fun hg => LO.mv (.r rfl)) rfl<|VO.lg rfl rfl (GD.f _) (fun hg => LO.ixs S29 N73 hya0.ar.sm (.g hg rfl) (.r rfl) (j := 0) rfl Nat.zero_lt_one) rfl<|VO.lg rfl rfl (GD.f _) (fun hg => LO.fa F73_1 (.g hg rfl) rfl) rfl<|VO.lg rfl rfl (GD.f _) (fun hg => LO.ld O41 (.g hg rfl) (fun w hw => cells_part (off := 1) ((fun w3 h3 => RO.cel (hya w3 h3).ar (show [ya.a][0]? = some ya.a from rfl)) w hw) ⟨_, rfl⟩)) rfl<|VO.bc (x := 42) rfl (fun hg3_16 => (by exfalso; exact absurd hg3_16 (by decide))) (fun hg3_16 => VO.gT rfl rfl (congrArg Value.bool hg3_16) rfl<|HO.bs (ps := [(_,_)]) (vs := [(_,_)]) (Z := [_]) (C := [_]) S40 Z3 N3 ⟨(.r rfl), trivial⟩ rfl rfl rfl rfl ⟨_, [_], [_], rfl, rfl, rfl, rfl, rfl⟩ fun b18 => VO.gT rfl rfl (congrArg Value.bool hg3_16) rfl<|HO.bs (ps := [(_,_)]) (vs := [(_,_)]) (Z := [_]) (C := [_]) S40 Z3 N3 ⟨(.r rfl), trivial⟩ rfl rfl rfl rfl ⟨_, [_], [_], rfl, rfl, rfl, rfl, rfl⟩ fun b19 => VO.gT rfl rfl (congrArg Value.bool hg3_16) rfl<|HO.bs (ps := [(_,_), (_,_)]) (vs := [(_,_), (_,_)]) (Z := [_,_]) (C := [_,_]) S41 Z40 N40 ⟨(.r rfl), (.r rfl), trivial⟩ rfl rfl rfl rfl ⟨_, [_], [_,_], rfl, rfl, rfl, rfl, ⟨_, [_], [_,_], rfl, rfl, rfl, rfl, rfl⟩⟩ fun b20 => VO.gT rfl rfl (congrArg Value.bool hg3_16) rfl<|HO.lo (LO.call (xs := [_,_]) (vs := [_,_]) C26 ⟨(.g (by rw [hg3_16]; rfl) rfl), (.r rfl), trivial⟩ (fun w2 hw => lists_c [⟨ya.p1, ya.c1, [0]⟩, ⟨ya.p2, ya.c2, [2]⟩] [⟨some ⟨b18,0, none⟩, 1, [0]⟩, ⟨some ⟨b19,0, none⟩, 1, [2]⟩] ya.kp ya.kc (some ⟨b20,0, none⟩) 2 w2 (hya w2 hw).kr (rr_lit2 (ints_lit [0] (cells_inv (hw.inv 2 _ rfl))) (ints_lit [2] (cells_inv (hw.inv 1 _ rfl))) (cells_inv (hw.inv 0 _ rfl))) (show 2 ≤ 1000000 by decide) (two_rows rfl rfl)))<|VO.gT rfl rfl (congrArg Value.bool hg3_16) rfl<|HO.lo (LO.not (.r rfl))<|VO.h rfl<|HO.lo (LO.pkF (.r rfl) hg3_16 (.r rfl))<|VO.h rfl<|HO.lo (LO.mv (.r rfl))<|VO.lg rfl rfl (GD.f _) (fun hg => LO.mv (.r rfl)) rfl<|VO.lg rfl rfl (GD.f _) (fun hg => LO.ixs S29 N73 hya0.ar.sm (.g hg rfl) (.r rfl) (j := 0) rfl Nat.zero_lt_one) rfl<|VO.lg rfl rfl (GD.f _) (fun hg => LO.fa F73_2 (.g hg rfl) rfl) rfl<|VO.lg rfl rfl (GD.f _) (fun hg => LO.lda (vs := [_,_]) A71 (.g hg rfl) (fun w hw => cells_part (off := 2) ((fun w3 h3 => RO.cel (hya w3 h3).ar (show [ya.a][0]? = some ya.a from rfl)) w hw) ⟨_, rfl⟩) rfl) rfl<|VO.lg rfl rfl (GD.f _) (fun hg => LO.bd (ps := [(_,_), (_,_)]) (vs := [(_,_), (_,_)]) (C := [_,_]) B71  ⟨(.r rfl), (.r rfl), trivial⟩ rfl ⟨_, [_], [_,_], rfl, rfl, rfl, rfl, ⟨_, [_], [_,_], rfl, rfl, rfl, rfl, rfl⟩⟩) rfl<|VO.lg rfl rfl (GD.f _) (fun hg => LO.neA («as» := [_,_]) (bs := [_,_]) EA71 (.g hg rfl) (.g hg rfl) rfl rfl) rfl<|VO.h rfl<|HO.lo (LO.pkO (.r rfl) (.r rfl) rfl rfl)<|VO.h rfl<|HO.lo (LO.mv (.r rfl))<|VO.lg rfl rfl (GD.f _) (fun hg => LO.mv (.r rfl)) rfl<|VO.lg rfl rfl (GD.f _) (fun hg => LO.ixs S29 N73 hya0.ar.sm (.g hg rfl) (.r rfl) (j := 0) rfl Nat.zero_lt_one) rfl<|VO.lg rfl rfl (GD.f _) (fun hg => LO.fa F73_4 (.g hg rfl) rfl) rfl<|VO.lg rfl rfl (GD.f _) (fun hg => LO.lda (vs := [_,_]) A71 (.g hg rfl) (fun w hw => cells_part (off := 6) ((fun w3 h3 => RO.cel (hya w3 h3).ar (show [ya.a][0]? = some ya.a from rfl)) w hw) ⟨_, rfl⟩) rfl) rfl<|VO.lg rfl rfl (GD.f _) (fun hg => LO.bd (ps := [(_,_), (_,_)]) (vs := [(_,_), (_,_)]) (C := [_,_]) B71  ⟨(.r rfl), (.r rfl), trivial⟩ rfl ⟨_, [_], [_,_], rfl, rfl, rfl, rfl, ⟨_, [_], [_,_], rfl, rfl, rfl, rfl, rfl⟩⟩) rfl<|VO.lg rfl rfl (GD.f _) (fun hg => LO.neA («as» := [_,_]) (bs := [_,_]) EA71 (.g hg rfl) (.g hg rfl) rfl rfl) rfl<|VO.h rfl<|HO.lo (LO.pkO (.r rfl) (.r rfl) rfl rfl)<|VO.nil ?_)))
  refine VE.seqN ?_
  refine VC.cond rfl (fun h68 => ?_) (fun h68 => ?_)
  ·
    (exfalso; rcases h68 with (z | z) | z <;> exact z rfl)
  ·
    refine VC.skip (VE.seqN ?_)
    refine VC.seq ?_
    refine VC.perm [] rfl ?_
    show VC _ _ _ _ _ _ [] _ _
    refine VC.reg (VO.l (LO.lda (vs := [_,_,_,_,_,_]) A26 (.r rfl) (cells_keep (sub_cells (off := 0) hf1 ⟨_, rfl⟩)) rfl) rfl<|VO.l (LO.call (xs := [_,_,_,_]) (vs := [_,_,_,_]) C20 ⟨(.r rfl), (.r rfl), (.r rfl), (.r rfl), trivial⟩ (fun w2 hw => xJoin2_c f1.p f1.c w2 (hsF.keep w2 hw))) rfl<|VO.l (LO.mv (.r rfl)) rfl<|VO.l (LO.ex (.r rfl) rfl) rfl<|VO.l (LO.ex (.r rfl) rfl) rfl<|VO.l (LO.as (.r rfl)) rfl<|VO.l (LO.as (.r rfl)) rfl<|VO.nil ?_)
    refine VE.seqN ?_
    refine VC.seq ?_
    refine VC.reg (VO.l (LO.lda (vs := [_,_,_,_,_,_]) A26 (.r rfl) (cells_keep (sub_cells (off := 0) hf1 ⟨_, rfl⟩)) rfl) rfl<|VO.l (LO.call (xs := [_,_,_,_]) (vs := [_,_,_,_]) C20 ⟨(.r rfl), (.r rfl), (.r rfl), (.r rfl), trivial⟩ (fun w2 hw => xJoin3_c f1.p f1.c w2 (hsF.keep w2 hw))) rfl<|VO.l (LO.mv (.r rfl)) rfl<|VO.l (LO.ex (.r rfl) rfl) rfl<|VO.l (LO.ex (.r rfl) rfl) rfl<|VO.l (LO.as (.r rfl)) rfl<|VO.l (LO.as (.r rfl)) rfl<|VO.nil ?_)
    refine VE.seqN ?_
    refine VC.seq ?_
    refine VC.reg (VO.l (LO.lda (vs := [_,_,_,_,_,_]) A26 (.r rfl) (cells_keep (sub_cells (off := 0) hf1 ⟨_, rfl⟩)) rfl) rfl<|VO.l (LO.call (xs := [_,_,_,_]) (vs := [_,_,_,_]) C22 ⟨(.r rfl), (.r rfl), (.r rfl), (.r rfl), trivial⟩ (fun w2 hw => xGap2_c f1.p f1.c w2 (hsF.keep w2 hw))) rfl<|VO.l (LO.mv (.r rfl)) rfl<|VO.l (LO.ex (.r rfl) rfl) rfl<|VO.l (LO.ex (.r rfl) rfl) rfl<|VO.l (LO.as (.r rfl)) rfl<|VO.l (LO.as (.r rfl)) rfl<|VO.nil ?_)
    refine VE.seqN ?_
    refine VC.seq ?_
    refine VC.reg (VO.l (LO.lda (vs := [_,_,_,_,_,_]) A26 (.r rfl) (cells_keep (sub_cells (off := 0) hf1 ⟨_, rfl⟩)) rfl) rfl<|VO.l (LO.call (xs := [_,_,_,_]) (vs := [_,_,_,_]) C22 ⟨(.r rfl), (.r rfl), (.r rfl), (.r rfl), trivial⟩ (fun w2 hw => xGap3_c f1.p f1.c w2 (hsF.keep w2 hw))) rfl<|VO.l (LO.mv (.r rfl)) rfl<|VO.l (LO.ex (.r rfl) rfl) rfl<|VO.l (LO.ex (.r rfl) rfl) rfl<|VO.l (LO.as (.r rfl)) rfl<|VO.l (LO.as (.r rfl)) rfl<|VO.nil ?_)
    refine VE.seqN ?_
    refine VC.seq ?_
    refine VC.seq ?_
    refine VC.reg (VO.l (LO.mv (.r rfl)) rfl<|VO.l (LO.ne (.r rfl) (.r rfl)) rfl<|VO.l (LO.mv (.r rfl)) rfl<|VO.lg rfl rfl (GD.f _) (fun hg => LO.mv (.r rfl)) rfl<|VO.lg rfl rfl (GD.f _) (fun hg => LO.ne (.g hg rfl) (.r rfl)) rfl<|VO.l (LO.pkO (.r rfl) (.r rfl) rfl rfl) rfl<|VO.l (LO.mv (.r rfl)) rfl<|VO.lg rfl rfl (GD.f _) (fun hg => LO.mv (.r rfl)) rfl<|VO.lg rfl rfl (GD.f _) (fun hg => LO.ne (.g hg rfl) (.r rfl)) rfl<|VO.l (LO.pkO (.r rfl) (.r rfl) rfl rfl) rfl<|VO.l (LO.mv (.r rfl)) rfl<|VO.lg rfl rfl (GD.f _) (fun hg => LO.mv (.r rfl)) rfl<|VO.lg rfl rfl (GD.f _) (fun hg => LO.ne (.g hg rfl) (.r rfl)) rfl<|VO.l (LO.pkO (.r rfl) (.r rfl) rfl rfl) rfl<|VO.l (LO.mv (.r rfl)) rfl<|VO.lg rfl rfl (GD.f _) (fun hg => LO.mv (.r rfl)) rfl<|VO.lg rfl rfl (GD.f _) (fun hg => LO.ne (.g hg rfl) (.r rfl)) rfl<|VO.l (LO.pkO (.r rfl) (.r rfl) rfl rfl) rfl<|VO.l (LO.mv (.r rfl)) rfl<|VO.lg rfl rfl (GD.f _) (fun hg => LO.mv (.r rfl)) rfl<|VO.lg rfl rfl (GD.f _) (fun hg => LO.ne (.g hg rfl) (.r rfl)) rfl<|VO.l (LO.pkO (.r rfl) (.r rfl) rfl rfl) rfl<|VO.l (LO.mv (.r rfl)) rfl<|VO.lg rfl rfl (GD.f _) (fun hg => LO.mv (.r rfl)) rfl<|VO.lg rfl rfl (GD.f _) (fun hg => LO.ne (.g hg rfl) (.r rfl)) rfl<|VO.l (LO.pkO (.r rfl) (.r rfl) rfl rfl) rfl<|VO.l (LO.mv (.r rfl)) rfl<|VO.lg rfl rfl (GD.f _) (fun hg => LO.mv (.r rfl)) rfl<|VO.lg rfl rfl (GD.f _) (fun hg => LO.ne (.g hg rfl) (.r rfl)) rfl<|VO.l (LO.pkO (.r rfl) (.r rfl) rfl rfl) rfl<|VO.nil ?_)
    refine VE.seqN ?_
    refine VC.cond rfl (fun h118 => ?_) (fun h118 => ?_)
    ·
      (exfalso; exact absurd h118 (by decide))
    ·
      refine VC.skip (VE.seqN ?_)
      refine VC.seq ?_
      refine VC.reg (VO.l (LO.lda (vs := [_,_,_,_,_,_]) A26 (.r rfl) (cells_keep (sub_cells (off := 0) hf1 ⟨_, rfl⟩)) rfl) rfl<|VO.h rfl<|HO.bs (ps := [(_,_), (_,_)]) (vs := [(_,_), (_,_)]) (Z := [_,_]) (C := [_,_]) S40 Z3 N3 ⟨(.r rfl), (.r rfl), trivial⟩ rfl rfl rfl rfl ⟨_, [_], [_,_], rfl, rfl, rfl, rfl, ⟨_, [_], [_,_], rfl, rfl, rfl, rfl, rfl⟩⟩ fun b21 => VO.h rfl<|HO.callx (xs := [_,_]) (vs := [_,_]) C24 ⟨(.r rfl), (.r rfl), trivial⟩ (fun w2 hw => xTree_c f1.p f1.c b21 w2 (hsF.keep w2 hw) (ints_lit [1,5] (cells_inv (hw.inv 0 _ rfl)))) fun yt _ => VO.h rfl<|HO.lo (LO.mv (.r rfl))<|VO.h rfl<|HO.lo (LO.ex (.r rfl) rfl)<|VO.h rfl<|HO.lo (LO.ex (.r rfl) rfl)<|VO.h rfl<|HO.lo (LO.as (.r rfl))<|VO.h rfl<|HO.lo (LO.as (.r rfl))<|VO.nil ?_)
      refine VE.seqN ?_
      refine VC.seq ?_
      refine VC.reg (VO.l (LO.lda (vs := [_,_,_,_,_,_]) A26 (.r rfl) (cells_keep (sub_cells (off := 0) hf1 ⟨_, rfl⟩)) rfl) rfl<|VO.l (LO.lda (vs := [_,_,_,_,_,_]) A26 (.r rfl) (cells_keep (sub_cells (off := 0) hf2 ⟨_, rfl⟩)) rfl) rfl<|VO.h rfl<|HO.callx (xs := [_,_,_,_]) (vs := [_,_,_,_]) C27 ⟨(.r rfl), (.r rfl), (.r rfl), (.r rfl), trivial⟩ (fun w2 hw => xMatch_c f1.p f1.c f2.p f2.c w2 (hsF.keep w2 hw) (hsH.keep w2 hw)) fun ye _ => VO.h rfl<|HO.lo (LO.mv (.r rfl))<|VO.h rfl<|HO.lo (LO.ex (.r rfl) rfl)<|VO.h rfl<|HO.lo (LO.ex (.r rfl) rfl)<|VO.h rfl<|HO.lo (LO.as (.r rfl))<|VO.h rfl<|HO.lo (LO.as (.r rfl))<|VO.nil ?_)
      refine VE.seqN ?_
      refine VC.seq ?_
      refine VC.reg (VO.l (LO.lda (vs := [_,_,_,_,_,_]) A26 (.r rfl) (cells_keep (sub_cells (off := 0) hf1 ⟨_, rfl⟩)) rfl) rfl<|VO.l (LO.lda (vs := [_,_,_,_,_,_]) A26 (.r rfl) (cells_keep (sub_cells (off := 0) hf2 ⟨_, rfl⟩)) rfl) rfl<|VO.h rfl<|HO.callx (xs := [_,_,_,_,_,_]) (vs := [_,_,_,_,_,_]) C30 ⟨(.r rfl), (.r rfl), (.r rfl), (.r rfl), (.r rfl), (.r rfl), trivial⟩ (fun w2 hw => xMoves_c f1.p f1.c f2.p f2.c w2 (hsF.keep w2 hw) (hsH.keep w2 hw)) fun ym _ => VO.h rfl<|HO.lo (LO.mv (.r rfl))<|VO.h rfl<|HO.lo (LO.ex (.r rfl) rfl)<|VO.h rfl<|HO.lo (LO.ex (.r rfl) rfl)<|VO.h rfl<|HO.lo (LO.as (.r rfl))<|VO.h rfl<|HO.lo (LO.as (.r rfl))<|VO.nil ?_)
      refine VE.seqN ?_
      refine VC.seq ?_
      refine VC.seq ?_
      refine VC.reg (VO.l (LO.mv (.r rfl)) rfl<|VO.l (LO.ne (.r rfl) (.r rfl)) rfl<|VO.l (LO.mv (.r rfl)) rfl<|VO.lg rfl rfl (GD.f _) (fun hg => LO.mv (.r rfl)) rfl<|VO.lg rfl rfl (GD.f _) (fun hg => LO.ne (.g hg rfl) (.r rfl)) rfl<|VO.l (LO.pkO (.r rfl) (.r rfl) rfl rfl) rfl<|VO.l (LO.mv (.r rfl)) rfl<|VO.lg rfl rfl (GD.f _) (fun hg => LO.mv (.r rfl)) rfl<|VO.lg rfl rfl (GD.f _) (fun hg => LO.ne (.g hg rfl) (.r rfl)) rfl<|VO.l (LO.pkO (.r rfl) (.r rfl) rfl rfl) rfl<|VO.l (LO.mv (.r rfl)) rfl<|VO.lg rfl rfl (GD.f _) (fun hg => LO.mv (.r rfl)) rfl<|VO.bc (x := 147) rfl (fun hg14_10 => (by exfalso; exact absurd hg14_10 (by decide))) (fun hg14_10 => VO.gT rfl rfl (congrArg Value.bool hg14_10) rfl<|HO.bs (ps := [(_,_)]) (vs := [(_,_)]) (Z := [_]) (C := [_]) S40 Z3 N3 ⟨(.r rfl), trivial⟩ rfl rfl rfl rfl ⟨_, [_], [_], rfl, rfl, rfl, rfl, rfl⟩ fun b28 => VO.gT rfl rfl (congrArg Value.bool hg14_10) rfl<|HO.bs (ps := [(_,_)]) (vs := [(_,_)]) (Z := [_]) (C := [_]) S40 Z3 N3 ⟨(.r rfl), trivial⟩ rfl rfl rfl rfl ⟨_, [_], [_], rfl, rfl, rfl, rfl, rfl⟩ fun b29 => VO.gT rfl rfl (congrArg Value.bool hg14_10) rfl<|HO.bs (ps := [(_,_), (_,_)]) (vs := [(_,_), (_,_)]) (Z := [_,_]) (C := [_,_]) S41 Z40 N40 ⟨(.r rfl), (.r rfl), trivial⟩ rfl rfl rfl rfl ⟨_, [_], [_,_], rfl, rfl, rfl, rfl, ⟨_, [_], [_,_], rfl, rfl, rfl, rfl, rfl⟩⟩ fun b30 => VO.gT rfl rfl (congrArg Value.bool hg14_10) rfl<|HO.lo (LO.call (xs := [_,_]) (vs := [_,_]) C26 ⟨(.g (by rw [hg14_10]; rfl) rfl), (.r rfl), trivial⟩ (fun w2 hw => lists_c [⟨yt.p1, yt.c1, [-1]⟩, ⟨yt.p2, yt.c2, [0]⟩] [⟨some ⟨b28,0, none⟩, 1, [-1]⟩, ⟨some ⟨b29,0, none⟩, 1, [0]⟩] yt.p yt.c (some ⟨b30,0, none⟩) 2 w2 (RR.of_own hw 7 8 rfl rfl) (rr_lit2 (ints_lit [-1] (cells_inv (hw.inv 2 _ rfl))) (ints_lit [0] (cells_inv (hw.inv 1 _ rfl))) (cells_inv (hw.inv 0 _ rfl))) (show 2 ≤ 1000000 by decide) (two_rows rfl rfl)))<|VO.gT rfl rfl (congrArg Value.bool hg14_10) rfl<|HO.lo (LO.not (.r rfl))<|VO.h rfl<|HO.lo (LO.pkF (.r rfl) hg14_10 (.r rfl))<|VO.h rfl<|HO.lo (LO.mv (.r rfl))<|VO.lg rfl rfl (GD.f _) (fun hg => LO.mv (.r rfl)) rfl<|VO.lg rfl rfl (GD.f _) (fun hg => LO.len S46 (.g hg rfl) rfl) rfl<|VO.lg rfl rfl (GD.f _) (fun hg => LO.ne (.g hg rfl) (.r rfl)) rfl<|VO.h rfl<|HO.lo (LO.pkO (.r rfl) (.r rfl) rfl rfl)<|VO.h rfl<|HO.lo (LO.mv (.r rfl))<|VO.lg rfl rfl (GD.f _) (fun hg => LO.mv (.r rfl)) rfl<|VO.lg rfl rfl (GD.f _) (fun hg => LO.ixo S46 N81 (fun _ hw => (own_rows hw 4 rfl).some (by rfl)) (.g hg rfl) (.r rfl) (j := 0) rfl Nat.zero_lt_one) rfl<|VO.lg rfl rfl (GD.f _) (fun hg => LO.fa F81_0 (.g hg rfl) rfl) rfl<|VO.lg rfl rfl (GD.f _) (fun hg => LO.ld O3 (.g hg rfl) (fun w hw => cells_part (off := 0) (own_cell hw 4 rfl (show [ye.e][0]? = some ye.e from rfl)) ⟨_, rfl⟩)) rfl<|VO.lg rfl rfl (GD.f _) (fun hg => LO.ne (.g hg rfl) (.r rfl)) rfl<|VO.h rfl<|HO.lo (LO.pkO (.r rfl) (.r rfl) rfl rfl)<|VO.h rfl<|HO.lo (LO.mv (.r rfl))<|VO.lg rfl rfl (GD.f _) (fun hg => LO.mv (.r rfl)) rfl<|VO.lg rfl rfl (GD.f _) (fun hg => LO.len S53 (.g hg rfl) rfl) rfl<|VO.lg rfl rfl (GD.f _) (fun hg => LO.ne (.g hg rfl) (.r rfl)) rfl<|VO.h rfl<|HO.lo (LO.pkO (.r rfl) (.r rfl) rfl rfl)<|VO.h rfl<|HO.lo (LO.mv (.r rfl))<|VO.lg rfl rfl (GD.f _) (fun hg => LO.mv (.r rfl)) rfl<|VO.lg rfl rfl (GD.f _) (fun hg => LO.ixo S53 N85 (fun _ hw => (own_rows hw 3 rfl).some (by rfl)) (.g hg rfl) (.r rfl) (j := 3) rfl (by decide)) rfl<|VO.lg rfl rfl (GD.f _) (fun hg => LO.lda (vs := [_,_]) A85 (.g hg rfl) (fun w hw => cells_part (off := 0) (own_cell hw 3 rfl (show xMv[3]? = some _ from rfl)) ⟨_, rfl⟩) rfl) rfl<|VO.lg rfl rfl (GD.f _) (fun hg => LO.bd (ps := [(_,_)]) (vs := [(_,_)]) (C := [_,_]) B85  ⟨(.r rfl), trivial⟩ rfl ⟨_, [_], [_,_], rfl, rfl, rfl, rfl, rfl⟩) rfl<|VO.lg rfl rfl (GD.f _) (fun hg => LO.neA («as» := [_,_]) (bs := [_,_]) EA85 (.g hg rfl) (.g hg rfl) rfl rfl) rfl<|VO.h rfl<|HO.lo (LO.pkO (.r rfl) (.r rfl) rfl rfl)<|VO.h rfl<|HO.lo (LO.mv (.r rfl))<|VO.lg rfl rfl (GD.f _) (fun hg => LO.mv (.r rfl)) rfl<|VO.lg rfl rfl (GD.f _) (fun hg => LO.ixo S53 N85 (fun _ hw => (own_rows hw 3 rfl).some (by rfl)) (.g hg rfl) (.r rfl) (j := 4) rfl (by decide)) rfl<|VO.lg rfl rfl (GD.f _) (fun hg => LO.lda (vs := [_,_]) A85 (.g hg rfl) (fun w hw => cells_part (off := 0) (own_cell hw 3 rfl (show xMv[4]? = some _ from rfl)) ⟨_, rfl⟩) rfl) rfl<|VO.lg rfl rfl (GD.f _) (fun hg => LO.bd (ps := [(_,_)]) (vs := [(_,_)]) (C := [_,_]) B85  ⟨(.r rfl), trivial⟩ rfl ⟨_, [_], [_,_], rfl, rfl, rfl, rfl, rfl⟩) rfl<|VO.lg rfl rfl (GD.f _) (fun hg => LO.neA («as» := [_,_]) (bs := [_,_]) EA85 (.g hg rfl) (.g hg rfl) rfl rfl) rfl<|VO.h rfl<|HO.lo (LO.pkO (.r rfl) (.r rfl) rfl rfl)<|VO.nil ?_))
      refine VE.seqN ?_
      refine VC.cond rfl (fun h185 => ?_) (fun h185 => ?_)
      ·
        (exfalso; rcases h185 with ((((z | z) | z) | z) | z) | z <;> exact z rfl)
      ·
        refine VC.skip (VE.seqN ?_)
        refine VC.seq ?_
        refine VC.perm [] rfl ?_
        show VC _ _ _ _ _ _ [] _ _
        refine VC.reg (VO.l (LO.fa (r := 0) F26_0 (.r rfl) rfl) rfl<|VO.l (LO.lda (vs := [_,_,_,_,_]) A23 (.r rfl) (cells_keep (sub_cells (off := 0) hf1 ⟨_, rfl⟩)) rfl) rfl<|VO.h rfl<|HO.callx (xs := [_,_,_]) (vs := [_,_,_]) C47 ⟨(.r rfl), (.r rfl), (.r rfl), trivial⟩ (fun w2 hw => NewBook_ok xG 5 1 w2 xBook) fun yb _ => VO.h rfl<|HO.lo (LO.mv (.r rfl))<|VO.h rfl<|HO.lo (LO.ex (.r rfl) rfl)<|VO.h rfl<|HO.lo (LO.ex (.r rfl) rfl)<|VO.h rfl<|HO.lo (LO.as (.r rfl))<|VO.h rfl<|HO.lo (LO.as (.r rfl))<|VO.nil ?_)
        refine VE.seqN ?_
        refine VC.seq ?_
        refine VC.seq ?_
        refine VC.reg (VO.l (LO.mv (.r rfl)) rfl<|VO.l (LO.ne (.r rfl) (.r rfl)) rfl<|VO.nil ?_)
        refine VE.seqN ?_
        refine VC.cond rfl (fun h193 => ?_) (fun h193 => ?_)
        ·
          (exfalso; exact absurd h193 (by decide))
        ·
          refine VC.skip (VE.seqN ?_)
          refine VC.seq ?_
          refine VC.res (fun w hw => St.bagD (Rs := []) (St.bagD (Rs := []) ((St.bagD (Rs := []) ((hw.ownNil 109 6)) ).ownNil 154 7))) ?_
          refine VC.reg (VO.l (LO.mv (.r rfl)) rfl<|VO.l (LO.lda (vs := [_,_,_,_,_,_]) A26 (.r rfl) (cells_keep (sub_cells (off := 0) hf1 ⟨_, rfl⟩)) rfl) rfl<|VO.h rfl<|HO.callP (first := []) (cap := []) (xs := [_,_,_]) (vs := [_,_,_]) [_,_,_,_,_,_,_] [] (selK (L1 := [_,_,_,_,_,_,_] ++ []) [5,4,3,6,2,0,1] rfl rfl) (.r rfl) C48 ⟨(.r rfl), (.r rfl), (.r rfl), trivial⟩ (fun w2 hw hh => Add_0 yb.1 (xBk yb.2) (-1) none 0 none 0 (fun _ => 0) [] (fun _ => none) 10 xF f1.p f1.c w2 hh (fun hs => hsF.keep _ (St.fz (R := bkF yb.1 (xBk yb.2) (-1) none 0 [] none 0 (fun _ => 0) [] (fun _ => none)) (rest := []) (selK (L1 := [_,_,_,_,_,_,_]) [5,4,3,6,2,0,1] rfl rfl _ hw) hs)) (xAdd0 _) (show (1 : Int) ≤ 5 ∧ (5 : Int) ≤ 1073741824 by decide) (by decide)) fun ad had => VO.h rfl<|HO.lo (LO.mv (.r rfl))<|VO.h rfl<|HO.lo (LO.ex (.r rfl) rfl)<|VO.h rfl<|HO.lo (LO.ex (.r rfl) rfl)<|VO.h rfl<|HO.lo (LO.as (.r rfl))<|VO.nil ?_)
          have hadn : ad.yN.l.length = 1 := by rw [← ar_len had.1]; exact xNf
          have hadl : ad.tk.length ≤ 800000 := by have z := had.2.2; rw [hadn] at z; exact Nat.le_trans z (by decide)
          refine VE.seqN ?_
          refine VC.seq ?_
          refine VC.reg (VO.l (LO.mv (.r rfl)) rfl<|VO.l (LO.lda (vs := [_,_,_,_,_,_]) A26 (.r rfl) (cells_keep (sub_cells (off := 0) hf2 ⟨_, rfl⟩)) rfl) rfl<|VO.h rfl<|HO.callP (first := []) (cap := []) (xs := [_,_,_]) (vs := [_,_,_]) [_,_,_,_,_,_,_] [_,_,_,_,_,_,_,_] (selK (L1 := [_,_,_,_,_,_,_] ++ [_,_,_,_,_,_,_,_]) [0,1,2,3,4,5,6,7,8,9,10,11,12,13,14] rfl rfl) (.r rfl) C48 ⟨(.r rfl), (.r rfl), (.r rfl), trivial⟩ (fun w2 hw hh => Add_1 yb.1 (xBk yb.2) 10 ad.pm ad.cm [ad.yN] ad.pt ad.ct (fun _ => 0) ad.tk ad.of 20 xH f2.p f2.c w2 hh (fun hs => hsH.keep _ (St.fz (R := bkF yb.1 (xBk yb.2) 10 ad.pm ad.cm [ad.yN] ad.pt ad.ct (fun _ => 0) ad.tk ad.of) (rest := [_,_,_,_,_,_,_,_]) (selK (L1 := [_,_,_,_,_,_,_,_,_,_,_,_,_,_,_]) [0,1,2,3,4,5,6,7,8,9,10,11,12,13,14] rfl rfl _ hw) hs)) (xAdd1 _) (show (1 : Int) ≤ 5 ∧ (5 : Int) ≤ 1073741824 by decide) hadl 0 1 rfl (show 1 ≤ 48 by decide) ad.yN rfl xF had.1 (fun hs => SpI.of_res (St.rightOf (St.fz (R := bkF yb.1 (xBk yb.2) 10 ad.pm ad.cm [ad.yN] ad.pt ad.ct (fun _ => 0) ad.tk ad.of) (rest := [_,_,_,_,_,_,_,_]) (selK (L1 := [_,_,_,_,_,_,_,_,_,_,_,_,_,_,_]) [0,1,2,3,4,5,6,7,8,9,10,11,12,13,14] rfl rfl _ hw) hs)) had.1 0 1 3 7 rfl rfl rfl rfl) [[]] [ad.yN.l.length] (book0 had.2.1) rfl rfl rfl (by decide) (fun _ => by decide)) fun ae hae => VO.h rfl<|HO.lo (LO.mv (.r rfl))<|VO.h rfl<|HO.lo (LO.ex (.r rfl) rfl)<|VO.h rfl<|HO.lo (LO.ex (.r rfl) rfl)<|VO.h rfl<|HO.lo (LO.as (.r rfl))<|VO.nil ?_)
          have haen : ae.yN.l.length = 1 := by rw [← ar_len hae.ar]; exact xNh
          have hes : ae.ev.l.map EvR.m = [⟨4, [0], [0]⟩] := by have z := hae.ev; rw [hadn, haen] at z; exact xEv z
          have hkd := hae.kd
          rw [hes] at hkd
          have hb0 := had.2.1
          rw [hadn] at hb0
          have hb1 := hae.trk
          rw [hes, haen] at hb1
          obtain ⟨htkm, hks⟩ := exB1 hb0 hb1
          refine VE.seqN ?_
          refine VC.seq ?_
          refine VC.reg (VO.l (LO.mv (.r rfl)) rfl<|VO.l (LO.lda (vs := [_,_,_,_,_,_]) A26 (.r rfl) (cells_keep (sub_cells (off := 0) hf2 ⟨_, rfl⟩)) rfl) rfl<|VO.l (LO.call (xs := [_,_,_]) (vs := [_,_,_]) C48 ⟨(.r rfl), (.r rfl), (.r rfl), trivial⟩ (fun w2 hw => xLate_c yb.1 yb.2 _ _ _ _ _ f2.p f2.c w2 (cells_inv (hw.inv 0 _ rfl)) (hsH.keep w2 hw))) rfl<|VO.l (LO.mv (.r rfl)) rfl<|VO.l (LO.ex (.r rfl) rfl) rfl<|VO.l (LO.ex (.r rfl) rfl) rfl<|VO.l (LO.as (.r rfl)) rfl<|VO.nil ?_)
          refine VE.seqN ?_
          refine VC.seq ?_
          refine VC.reg (VO.l (LO.mv (.r rfl)) rfl<|VO.h rfl<|HO.callx (xs := [_]) (vs := [_]) C49 ⟨(.r rfl), trivial⟩ (fun w2 hw => xTracks_c yb.1 _ _ _ _ _ _ ae.tk w2 (cells_inv (hw.inv 0 _ rfl)) (RO.of_own hw 1 rfl) (fun t ht => ⟨(RO.of_bag (E := 3) (z := 1) (P := TkR.ap) (C := TkR.ac) (X := TkR.ar) (f := nC) hw 2 rfl ht), (RO.of_bag (E := 3) (z := 1) (P := TkR.pp) (C := TkR.pc) (X := TkR.pa) (f := nC) hw 5 rfl ht), (RO.of_bag (E := 3) (z := 1) (P := TkR.cp) (C := TkR.cc) (X := TkR.ch) (f := nC) hw 6 rfl ht)⟩) htkm) fun yk _ => VO.l (LO.as (.r rfl)) rfl<|VO.nil ?_)
          refine VE.seqN ?_
          refine VC.seq ?_
          refine VC.reg (VO.l (LO.mv (.r rfl)) rfl<|VO.l (LO.eq (.r rfl) (.r rfl)) rfl<|VO.l (LO.mv (.r rfl)) rfl<|VO.lg rfl rfl (GD.t _) (fun hg => LO.mv (.r rfl)) rfl<|VO.lg rfl rfl (GD.t _) (fun hg => LO.eq (.g hg rfl) (.r rfl)) rfl<|VO.l (LO.pkA (.r rfl) rfl rfl (.r rfl)) rfl<|VO.l (LO.mv (.r rfl)) rfl<|VO.lg rfl rfl (GD.t _) (fun hg => LO.mv (.r rfl)) rfl<|VO.lg rfl rfl (GD.t _) (fun hg => LO.eq (.g hg rfl) (.r rfl)) rfl<|VO.l (LO.pkA (.r rfl) rfl rfl (.r rfl)) rfl<|VO.l (LO.mv (.r rfl)) rfl<|VO.lg rfl rfl (GD.t _) (fun hg => LO.mv (.r rfl)) rfl<|VO.lg rfl rfl (GD.t _) (fun hg => LO.len S102 (.g hg rfl) rfl) rfl<|VO.lg rfl rfl (GD.t _) (fun hg => LO.eq (.g hg rfl) (.r rfl)) rfl<|VO.l (LO.pkA (.r rfl) rfl rfl (.r rfl)) rfl<|VO.l (LO.mv (.r rfl)) rfl<|VO.lg rfl rfl (GD.t _) (fun hg => LO.mv (.r rfl)) rfl<|VO.lg rfl rfl (GD.t _) (fun hg => LO.ixo S102 N109 (fun _ hw => (own_rows hw 0 rfl).some (by rfl)) (.g hg rfl) (.r rfl) (j := 0) rfl Nat.zero_lt_one) rfl<|VO.lg rfl rfl (GD.t _) (fun hg => LO.fa F109_0 (.g hg rfl) rfl) rfl<|VO.lg rfl rfl (GD.t _) (fun hg => LO.ld O3 (.g hg rfl) (fun w hw => cells_part (off := 0) (own_cell hw 0 rfl (show [yk.t][0]? = some yk.t from rfl)) ⟨_, rfl⟩)) rfl<|VO.lg rfl rfl (GD.t _) (fun hg => LO.eq (.g hg rfl) (.r rfl)) rfl<|VO.l (LO.pkA (.r rfl) rfl rfl (.r rfl)) rfl<|VO.l (LO.mv (.r rfl)) rfl<|VO.lg rfl rfl (GD.t _) (fun hg => LO.mv (.r rfl)) rfl<|VO.lg rfl rfl (GD.t _) (fun hg => LO.ixo S102 N109 (fun _ hw => (own_rows hw 0 rfl).some (by rfl)) (.g hg rfl) (.r rfl) (j := 0) rfl Nat.zero_lt_one) rfl<|VO.lg rfl rfl (GD.t _) (fun hg => LO.fa F109_3 (.g hg rfl) rfl) rfl<|VO.lg rfl rfl (GD.t _) (fun hg => LO.ld O3 (.g hg rfl) (fun w hw => cells_part (off := 3) (own_cell hw 0 rfl (show [yk.t][0]? = some yk.t from rfl)) ⟨_, rfl⟩)) rfl<|VO.lg rfl rfl (GD.t _) (fun hg => LO.eq (.g hg rfl) (.r rfl)) rfl<|VO.l (LO.pkA (.r rfl) rfl rfl (.r rfl)) rfl<|VO.l (LO.mv (.r rfl)) rfl<|VO.lg rfl rfl (GD.t _) (fun hg => LO.mv (.r rfl)) rfl<|VO.lg rfl rfl (GD.t _) (fun hg => LO.ixo S102 N109 (fun _ hw => (own_rows hw 0 rfl).some (by rfl)) (.g hg rfl) (.r rfl) (j := 0) rfl Nat.zero_lt_one) rfl<|VO.lg rfl rfl (GD.t _) (fun hg => LO.fa F109_2 (.g hg rfl) rfl) rfl<|VO.lg rfl rfl (GD.t _) (fun hg => LO.ld O40 (.g hg rfl) (fun w hw => cells_part (off := 2) (own_cell hw 0 rfl (show [yk.t][0]? = some yk.t from rfl)) ⟨_, rfl⟩)) rfl<|VO.bc (x := 243) rfl (fun hg23_29 => VO.gT rfl rfl (congrArg Value.bool hg23_29) rfl<|HO.bs (ps := [(_,_), (_,_)]) (vs := [(_,_), (_,_)]) (Z := [_,_]) (C := [_,_]) S40 Z3 N3 ⟨(.r rfl), (.r rfl), trivial⟩ rfl rfl rfl rfl ⟨_, [_], [_,_], rfl, rfl, rfl, rfl, ⟨_, [_], [_,_], rfl, rfl, rfl, rfl, rfl⟩⟩ fun b75 => VO.gT rfl rfl (congrArg Value.bool hg23_29) rfl<|HO.lo (LO.call (xs := [_,_]) (vs := [_,_]) C40 ⟨(.g hg23_29 rfl), (.r rfl), trivial⟩ (fun w2 hw => numbers_c [0,0] [0,0] yk.ap yk.ac (some ⟨b75,0, none⟩) 2 w2 (ints_nat (RO.of_bag (E := 3) (z := 1) (P := TkR.ap) (C := TkR.ac) (X := TkR.ar) (f := nC) (x := yk.t) hw 2 rfl (List.mem_singleton.2 rfl))) (ints_lit [0,0] (cells_inv (hw.inv 0 _ rfl))) (by decide)))<|VO.h rfl<|HO.lo (LO.pkT (.r rfl) hg23_29 (.r rfl))<|VO.h rfl<|HO.lo (LO.mv (.r rfl))<|VO.lg rfl rfl (GD.t _) (fun hg => LO.mv (.r rfl)) rfl<|VO.lg rfl rfl (GD.t _) (fun hg => LO.call (xs := [_]) (vs := [_]) C50 ⟨(.g hg rfl), trivial⟩ (fun w2 hw => xTally_c yb.1 yb.2 _ _ _ ([ad.yN] ++ [ae.yN]) _ _ _ ae.tk ae.of w2 (cells_inv (hw.inv 5 _ rfl)) (hw.inv 8 _ rfl) rfl htkm hks hkd)) rfl<|VO.lg rfl rfl (GD.t _) (fun hg => LO.bd (ps := [(_,_), (_,_), (_,_), (_,_)]) (vs := [(_,_), (_,_), (_,_), (_,_)]) (C := [_,_,_,_,_,_,_,_,_]) B105  ⟨(.r rfl), (.r rfl), (.r rfl), (.r rfl), trivial⟩ rfl ⟨_, [_], [_,_,_,_,_,_,_,_,_], rfl, rfl, rfl, rfl, ⟨_, [_], [_,_,_,_,_,_,_,_,_], rfl, rfl, rfl, rfl, ⟨_, [_], [_,_,_,_,_,_,_,_,_], rfl, rfl, rfl, rfl, ⟨_, [_], [_,_,_,_,_,_,_,_,_], rfl, rfl, rfl, rfl, rfl⟩⟩⟩⟩) rfl<|VO.lg rfl rfl (GD.t _) (fun hg => LO.eqA («as» := [_,_,_,_,_,_,_,_,_]) (bs := [_,_,_,_,_,_,_,_,_]) EA105 (.g hg rfl) (.g hg rfl) rfl rfl) rfl<|VO.h rfl<|HO.lo (LO.pkA (.r rfl) rfl rfl (.r rfl))<|VO.h rfl<|HO.lo (LO.as (.r rfl))<|VO.nil ?_) (fun hg23_29 => (by exfalso; exact absurd (hg23_29.symm.trans (show _ = true from rfl)) (by decide))))
          refine VE.seqN ?_
          refine VC.ret (VE.res (vs := [_]) rfl ⟨rfl, trivial⟩ (fun w hw => ?_))
          exact ⟨rfl, (hst1.call (hst2.call hw)).nil⟩

end Go.Proofs.Ytgemekpofpoopaa

namespace Go.Proofs.Ytgemekpofpoopaa
open Go.SL Go.Proofs Go.Cast Go.Cell
set_option linter.unusedVariables false

theorem C16 : IsFn Try.prog 16 := ⟨_, Try.func16, by decide, rfl⟩
end Go.Proofs.Ytgemekpofpoopaa

namespace Go.Proofs.Ytgemekpofpoopaa
open Go.SL Go.Proofs Go.Cast Go.Cell
set_option linter.unusedVariables false

theorem F63_0 : FieldAt Try.prog 63 0 0 := ⟨_,_, Try.underlying63, rfl, rfl, 0, by kernel_rfl⟩
theorem O5 : IsOne Try.prog 5 := ⟨⟨_, Try.underlying5, rfl⟩, by kernel_rfl⟩
theorem F63_1 : FieldAt Try.prog 63 1 1 := ⟨_,_, Try.underlying63, rfl, rfl, 0, by kernel_rfl⟩
theorem F63_2 : FieldAt Try.prog 63 2 2 := ⟨_,_, Try.underlying63, rfl, rfl, 0, by kernel_rfl⟩
theorem O61 : IsOne Try.prog 61 := ⟨⟨_, Try.underlying61, rfl⟩, by kernel_rfl⟩
theorem S61 : IsSlice Try.prog 61 5 := Try.underlying61
theorem N5 : (Try.prog.info? 5).map (·.size) = some 1 := by kernel_rfl
theorem F63_3 : FieldAt Try.prog 63 3 3 := ⟨_,_, Try.underlying63, rfl, rfl, 0, by kernel_rfl⟩


abbrev uC (n : Nat) : List Value := [.int .u8 (n : Int)]
structure MapA where
  w : Nat
  h : Nat
  pl : Option Addr
  cl : Nat
  lo : List Nat
  pm : Option Addr
  cm : Nat
  mo : List Nat
def MapA.cells (x : MapA) : List Value := [.int .u8 (x.w : Int), .int .u8 (x.h : Int), .slice x.pl x.lo.length x.cl, .slice x.pm x.mo.length x.cm]
abbrev MapA.V (x : MapA) : Value := .agg #[.int .u8 (x.w : Int), .int .u8 (x.h : Int), .slice x.pl x.lo.length x.cl, .slice x.pm x.mo.length x.cm]
structure MapI (w : World) (x : MapA) : Prop where
  lo : RO 1 uC w x.pl x.lo
  mo : RO 1 uC w x.pm x.mo
structure MapK (x : MapA) : Prop where
  w : x.w ≤ 255
  h : x.h ≤ 255
  lo : ∀ n, n ∈ x.lo → n ≤ 255
  mo : ∀ n, n ∈ x.mo → n ≤ 255
  ll : x.lo.length ≤ 9223372036854775807
  ml : x.mo.length ≤ 9223372036854775807
theorem MapI.keep {w0 : World} {x : MapA} (h : MapI w0 x) : ∀ {L : List Res} (w : World), St (bs w0) L w → MapI w x := fun w hw => ⟨h.lo.keep w hw, h.mo.keep w hw⟩
def vAt (l : List Nat) (m i : Nat) : Nat := if 0 < l.length then l.getD (i % l.length) 0 % m else 0
def mapW (x : MapA) : Nat := 1 + x.w % 6
def mapH (x : MapA) : Nat := 1 + x.h % 6
abbrev mapG (x : MapA) : Grid := ⟨0,0,1000, (mapW x : Int), (mapH x : Int)⟩
def mapAt (x : MapA) (i : Nat) : Span := ⟨((vAt x.lo 40 i : Nat) : Int), ((vAt x.lo 40 i : Nat) : Int) + ((vAt x.mo 30 i : Nat) : Int)⟩
def mapTo (x : MapA) (k : Nat) : List Span := (List.range k).map (mapAt x)
def mapVs (x : MapA) : List Span := mapTo x (mapW x * mapH x)
theorem mapTo_succ {x : MapA} {k : Nat} : mapTo x (k + 1) = mapTo x k ++ [mapAt x k] := by unfold mapTo; rw [List.range_succ, List.map_append]; rfl
theorem mapTo_len {x : MapA} {k : Nat} : (mapTo x k).length = k := by unfold mapTo; simp
theorem map_wh (x : MapA) : 1 ≤ mapW x ∧ mapW x ≤ 6 ∧ 1 ≤ mapH x ∧ mapH x ≤ 6 := by unfold mapW mapH; omega
theorem map_area (x : MapA) : mapW x * mapH x ≤ 36 := by obtain ⟨_, h1,_, h2⟩ := map_wh x; exact Nat.mul_le_mul h1 h2
theorem mod_i {n m : Nat} : ((n : Int)).tmod (m : Int) = ((n % m : Nat) : Int) := rfl
theorem vAt_t {l : List Nat} {m i n : Nat} (hn : l[i % l.length]? = some n) : vAt l m i = n % m := by
  have h : 0 < l.length := by have := (List.getElem?_eq_some_iff.1 hn).1; omega
  unfold vAt; rw [if_pos h, List.getD_eq_getElem?_getD, hn]; rfl
theorem vAt_f {l : List Nat} {m i : Nat} (h : ¬ (0 : Int) < (l.length : Int)) : vAt l m i = 0 := by unfold vAt; rw [if_neg (by omega)]
theorem map_eq {x : MapA} {k : Nat} {ml : List Span} {s : Span} (h : ml = mapTo x k) (e : s = mapAt x k) : ml ++ [s] = mapTo x (k + 1) := by rw [h, e, mapTo_succ]
theorem cv8 {n : Nat} (h : n ≤ 255) : IntKind.wrap .i64 ((n : Nat) : Int) = ((n : Nat) : Int) := wi (by omega) (by omega)

set_option maxRecDepth 20000 in
set_option maxHeartbeats 8000000 in
theorem field_c (x : MapA) (w : World) (hx : MapI w x) (hk : MapK x) :
  Calls Try.prog 33 #[x.V] w fun e w' => ∃ y : SlY, True ∧ e = .returned (fieldV (mapG x) y.p (mapVs x).length y.c) ∧ St (bs w) [own 71 2 y.p y.c ((mapVs x).map Span.cells)] w' := by
  obtain ⟨hw1, hw2, hh1, hh2⟩ := map_wh x
  have har := map_area x
  have hkw := hk.w
  have hkh := hk.h
  have hll := hk.ll
  have hml := hk.ml
  refine enter (vs := [_]) (env := [(0,_)]) Try.func33 rfl rfl rfl rfl ?_
  refine VC.seq ?_
  refine VC.reg (VO.h rfl<|HO.box (C := #[_,_,_,_]) rfl rfl fun b1 => VO.h rfl<|HO.alloc (C := #[_,_,_,_,_,_]) Z26 rfl fun b2 => VO.nil ?_)
  refine VE.seqN ?_
  refine VC.seq ?_
  refine VC.reg (VO.l (LO.fa (r := 0) F63_0 (.r rfl) rfl) rfl<|VO.l (LO.ld O5 (.r rfl) (fun _ hw => cells_at hw 1 rfl ⟨_, rfl⟩)) rfl<|VO.l (LO.cv ⟨_, Try.underlying5⟩ Try.underlying3 (.r rfl) (cv8 hkw)) rfl<|VO.l (LO.eqv (LO.rem (.r rfl) (.r rfl) (by omega)) (congrArg (Value.int .i64) (mod_i (m := 6)))) rfl<|VO.l (LO.eqv (LO.add (.r rfl) (.r rfl) (wi (by omega) (by omega))) (congrArg (Value.int .i64) (show (1 : Int) + ((x.w % 6 : Nat) : Int) = ((mapW x : Nat) : Int) by unfold mapW; push_cast; rfl))) rfl<|VO.l (LO.fa (r := 1) F63_1 (.r rfl) rfl) rfl<|VO.l (LO.ld O5 (.r rfl) (fun _ hw => cells_at hw 1 rfl ⟨_, rfl⟩)) rfl<|VO.l (LO.cv ⟨_, Try.underlying5⟩ Try.underlying3 (.r rfl) (cv8 hkh)) rfl<|VO.l (LO.eqv (LO.rem (.r rfl) (.r rfl) (by omega)) (congrArg (Value.int .i64) (mod_i (m := 6)))) rfl<|VO.l (LO.eqv (LO.add (.r rfl) (.r rfl) (wi (by omega) (by omega))) (congrArg (Value.int .i64) (show (1 : Int) + ((x.h % 6 : Nat) : Int) = ((mapH x : Nat) : Int) by unfold mapH; push_cast; rfl))) rfl<|VO.l (LO.bd (ps := [(_,_), (_,_), (_,_)]) (vs := [(_,_), (_,_), (_,_)]) (C := [_,_,_,_,_]) B23  ⟨(.r rfl), (.r rfl), (.r rfl), trivial⟩ rfl ⟨_, [_], [_,_,_,_,_], rfl, rfl, rfl, rfl, ⟨_, [_], [_,_,_,_,_], rfl, rfl, rfl, rfl, ⟨_, [_], [_,_,_,_,_], rfl, rfl, rfl, rfl, rfl⟩⟩⟩) rfl<|VO.l (LO.bd (ps := [(_,_)]) (vs := [(_,_)]) (C := [_,_,_,_,_,_]) B26  ⟨(.r rfl), trivial⟩ rfl ⟨_, [_,_,_,_,_], [_,_,_,_,_,_], rfl, rfl, rfl, rfl, rfl⟩) rfl<|VO.h rfl<|HO.alloc (C := #[_,_,_,_,_,_]) Z26 rfl fun b3 => VO.h0<|HO.st 0 (vs := [_,_,_,_,_,_]) (C' := [_,_,_,_,_,_]) (L' := [_,_,_]) N26 rfl rfl rfl rfl rfl rfl rfl rfl<|VO.nil ?_)
  refine VE.seqN ?_
  refine VC.seq ?_
  refine VC.seq ?_
  refine VC.reg (VO.l (LO.fa (r := 0) F26_0 (.r rfl) rfl) rfl<|VO.l (LO.fa (r := 3) F23_3 (.r rfl) rfl) rfl<|VO.l (LO.ld O3 (.r rfl) (fun _ hw => cells_at hw 0 rfl ⟨_, rfl⟩)) rfl<|VO.l (LO.fa (r := 0) F26_0 (.r rfl) rfl) rfl<|VO.l (LO.fa (r := 4) F23_4 (.r rfl) rfl) rfl<|VO.l (LO.ld O3 (.r rfl) (fun _ hw => cells_at hw 0 rfl ⟨_, rfl⟩)) rfl<|VO.l (LO.eqv (LO.mul (.r rfl) (.r rfl) (wi (by rw [← Int.natCast_mul]; omega) (by rw [← Int.natCast_mul]; omega))) (congrArg (Value.int .i64) (Int.natCast_mul _ _).symm)) rfl<|VO.l (LO.mv (.r rfl)) rfl<|VO.nil ?_)
  refine VE.seqN ?_
  refine VC.block ?_
  refine VC.loopK (α := Nat × (List Span) × (Option Addr) × Nat) 1 (fun gx => [(25, .int .i64 (gx.1 : Nat))]) [(1,_), (2,_), (3,_), (24,_)] (fun gx => [blk b3 (.cells #[.int .i64 0, .int .i64 0, .int .i64 1000, .int .i64 (mapW x : Int), .int .i64 (mapH x : Int), .slice gx.2.2.1 gx.2.1.length gx.2.2.2] 26), own 71 2 gx.2.2.1 gx.2.2.2 (gx.2.1.map Span.cells)]) (fun gx => gx.1 ≤ mapW x * mapH x ∧ gx.2.1 = mapTo x gx.1) (fun gx => mapW x * mapH x - gx.1) (0, [], none, 0) (by exact ⟨Nat.zero_le _, rfl⟩) (.cons rfl (.cons rfl (.cons rfl (.cons rfl (.cons rfl .nil))))) (fun _ h => ((h.ownNil 71 2)).sel [1,0,2,3] rfl) ?_
  rintro ⟨k, ml, po, co⟩ ⟨hkk, hm⟩
  show VC _ _ _ _ _ ([(25, .int .i64 (k : Nat))] ++ _) ([blk b3 (.cells #[.int .i64 0, .int .i64 0, .int .i64 1000, .int .i64 (mapW x : Int), .int .i64 (mapH x : Int), .slice po ml.length co] 26), own 71 2 po co (ml.map Span.cells)] ++ _) _ _
  dsimp only at hkk hm
  have hmll : ml.length = k := by rw [hm, mapTo_len]
  refine VC.seq ?_
  refine VC.reg (VO.l (LO.lt (.r rfl) (.r rfl)) rfl<|VO.nil ?_)
  refine VE.seqN ?_
  refine VC.seq ?_
  refine VC.cond rfl (fun h26 => ?_) (fun h26 => ?_)
  ·
    refine VC.skip (VE.seqN ?_)
    refine VC.seq ?_
    refine VC.block ?_
    refine VC.seq ?_
    refine VC.reg (VO.l (LO.mv (.r rfl)) rfl<|VO.l (LO.as (.r rfl)) rfl<|VO.nil ?_)
    refine VE.seqN ?_
    refine VC.seq ?_
    refine VC.reg (VO.l (LO.bd (ps := []) (vs := []) (C := [_,_]) B71  trivial rfl rfl) rfl<|VO.h rfl<|HO.alloc (C := #[_,_]) Z71 rfl fun b7 => VO.h0<|HO.st 0 (vs := [_,_]) (C' := [_,_]) (L' := [_,_,_,_,_]) N71 rfl rfl rfl rfl rfl rfl rfl rfl<|VO.nil ?_)
    refine VE.seqN ?_
    refine VC.seq ?_
    refine VC.seq ?_
    refine VC.reg (VO.l (LO.fa (r := 2) F63_2 (.r rfl) rfl) rfl<|VO.l (LO.ld O61 (.r rfl) (fun _ hw => cells_at hw 4 rfl ⟨_, rfl⟩)) rfl<|VO.l (LO.len S61 (.r rfl) rfl) rfl<|VO.l (LO.gt (.r rfl) (.r rfl)) rfl<|VO.nil ?_)
    refine VE.seqN ?_
    refine VC.cond rfl (fun h32 => ?_) (fun h32 => ?_)
    ·
      have hnl : k % x.lo.length < x.lo.length := Nat.mod_lt _ (by omega)
      obtain ⟨nl, hln⟩ := get_ex (l := x.lo) hnl
      have hnl2 := hk.lo nl (List.mem_of_getElem? hln)
      have hz := Int.natCast_nonneg (nl % 40)
      have hzz : nl % 40 < 40 := Nat.mod_lt _ (by omega)
      refine VC.drawH [[0,1,2,3,4], [1,2,3,4]] [some 0, some 0, some 0, some 0, some 0, some 0, some 0, some 0, some 0, some 0, some 0, some 0, none] mixed (by kernel_rfl) rfl (LX.l (fun _ hJ => LO.fa (r := 2) F63_2 (.r rfl) rfl) rfl<|LX.l (fun _ hJ => LO.ld O61 (.r rfl) (fun _ hw => cells_at (hJ _ hw) 4 rfl ⟨_, rfl⟩)) rfl<|LX.l (fun _ hJ => LO.mv (.r rfl)) rfl<|LX.l (fun _ hJ => LO.fa (r := 2) F63_2 (.r rfl) rfl) rfl<|LX.l (fun _ hJ => LO.ld O61 (.r rfl) (fun _ hw => cells_at (hJ _ hw) 4 rfl ⟨_, rfl⟩)) rfl<|LX.l (fun _ hJ => LO.len S61 (.r rfl) rfl) rfl<|LX.l (fun _ hJ => LO.eqv (LO.rem (.r rfl) (.r rfl) (by omega)) (congrArg (Value.int .i64) (mod_i (m := x.lo.length)))) rfl<|LX.l (fun _ hJ => LO.ixs S61 N5 (hx.lo.sm) (.r rfl) (.r rfl) rfl hnl) rfl<|LX.l (fun _ hJ => LO.ld O5 (.r rfl) (fun w hw => cells_part (off := 0) ((fun w3 h3 => RO.cel (hx.keep w3 h3).lo hln) w (hJ _ hw)) ⟨_, rfl⟩)) rfl<|LX.l (fun _ hJ => LO.cv ⟨_, Try.underlying5⟩ Try.underlying3 (.r rfl) (cv8 hnl2)) rfl<|LX.l (fun _ hJ => LO.eqv (LO.rem (.r rfl) (.r rfl) (by omega)) (congrArg (Value.int .i64) (mod_i (m := 40)))) rfl<|LX.l (fun _ hJ => LO.fa (r := 0) F71_0 (.r rfl) rfl) rfl<|LX.s<|LX.nil) (HX.s<|HX.s<|HX.s<|HX.s<|HX.s<|HX.s<|HX.s<|HX.s<|HX.s<|HX.s<|HX.s<|HX.s<|HX.h0<|HO.st 0 (vs := [_]) (C' := [_,_]) (L' := [_,_,_,_,_]) N3 rfl rfl rfl rfl rfl rfl rfl rfl<|⟨fun _ hw => hw.sel [1,2,3,4] rfl, HX.nil ?_⟩)
      refine VE.seqN ?_
      refine VC.seq ?_
      refine VC.reg (VO.l (LO.fa (r := 0) F71_0 (.r rfl) rfl) rfl<|VO.l (LO.ld O3 (.r rfl) (fun _ hw => cells_at hw 0 rfl ⟨_, rfl⟩)) rfl<|VO.l (LO.fa (r := 1) F71_1 (.r rfl) rfl) rfl<|VO.h0<|HO.st 0 (vs := [_]) (C' := [_,_]) (L' := [_,_,_,_,_]) N3 rfl rfl rfl rfl rfl rfl rfl rfl<|VO.nil ?_)
      refine VE.seqN ?_
      refine VC.seq ?_
      refine VC.seq ?_
      refine VC.reg (VO.l (LO.fa (r := 3) F63_3 (.r rfl) rfl) rfl<|VO.l (LO.ld O61 (.r rfl) (fun _ hw => cells_at hw 4 rfl ⟨_, rfl⟩)) rfl<|VO.l (LO.len S61 (.r rfl) rfl) rfl<|VO.l (LO.gt (.r rfl) (.r rfl)) rfl<|VO.nil ?_)
      refine VE.seqN ?_
      refine VC.cond rfl (fun h51 => ?_) (fun h51 => ?_)
      ·
        have hnm : k % x.mo.length < x.mo.length := Nat.mod_lt _ (by omega)
        obtain ⟨nm, hmn⟩ := get_ex (l := x.mo) hnm
        have hnm2 := hk.mo nm (List.mem_of_getElem? hmn)
        have hy : nm % 30 < 30 := Nat.mod_lt _ (by omega)
        refine VC.drawH [[0,1,2,3,4], [1,2,3,4]] [some 0, some 0, some 0, some 0, some 0, some 0, some 0, some 0, some 0, some 0, some 0, some 0, some 0, some 0, some 0, none] mixed (by kernel_rfl) rfl (LX.l (fun _ hJ => LO.fa (r := 1) F71_1 (.r rfl) rfl) rfl<|LX.l (fun _ hJ => LO.ld O3 (.r rfl) (fun _ hw => cells_at (hJ _ hw) 0 rfl ⟨_, rfl⟩)) rfl<|LX.l (fun _ hJ => LO.fa (r := 3) F63_3 (.r rfl) rfl) rfl<|LX.l (fun _ hJ => LO.ld O61 (.r rfl) (fun _ hw => cells_at (hJ _ hw) 4 rfl ⟨_, rfl⟩)) rfl<|LX.l (fun _ hJ => LO.mv (.r rfl)) rfl<|LX.l (fun _ hJ => LO.fa (r := 3) F63_3 (.r rfl) rfl) rfl<|LX.l (fun _ hJ => LO.ld O61 (.r rfl) (fun _ hw => cells_at (hJ _ hw) 4 rfl ⟨_, rfl⟩)) rfl<|LX.l (fun _ hJ => LO.len S61 (.r rfl) rfl) rfl<|LX.l (fun _ hJ => LO.eqv (LO.rem (.r rfl) (.r rfl) (by omega)) (congrArg (Value.int .i64) (mod_i (m := x.mo.length)))) rfl<|LX.l (fun _ hJ => LO.ixs S61 N5 (hx.mo.sm) (.r rfl) (.r rfl) rfl hnm) rfl<|LX.l (fun _ hJ => LO.ld O5 (.r rfl) (fun w hw => cells_part (off := 0) ((fun w3 h3 => RO.cel (hx.keep w3 h3).mo hmn) w (hJ _ hw)) ⟨_, rfl⟩)) rfl<|LX.l (fun _ hJ => LO.cv ⟨_, Try.underlying5⟩ Try.underlying3 (.r rfl) (cv8 hnm2)) rfl<|LX.l (fun _ hJ => LO.eqv (LO.rem (.r rfl) (.r rfl) (by omega)) (congrArg (Value.int .i64) (mod_i (m := 30)))) rfl<|LX.l (fun _ hJ => LO.add (.r rfl) (.r rfl) (wi (by omega) (by omega))) rfl<|LX.l (fun _ hJ => LO.fa (r := 1) F71_1 (.r rfl) rfl) rfl<|LX.s<|LX.nil) (HX.s<|HX.s<|HX.s<|HX.s<|HX.s<|HX.s<|HX.s<|HX.s<|HX.s<|HX.s<|HX.s<|HX.s<|HX.s<|HX.s<|HX.s<|HX.h0<|HO.st 0 (vs := [_]) (C' := [_,_]) (L' := [_,_,_,_,_]) N3 rfl rfl rfl rfl rfl rfl rfl rfl<|⟨fun _ hw => hw.sel [1,2,3,4] rfl, HX.nil ?_⟩)
        refine VE.seqN ?_
        refine VC.reg (VO.l (LO.fa (r := 5) F26_1 (.r rfl) rfl) rfl<|VO.l (LO.ld O24 (.r rfl) (fun _ hw => cells_at hw 1 rfl ⟨_, rfl⟩)) rfl<|VO.l (LO.lda (vs := [_,_]) A71 (.r rfl) (fun _ hw => cells_at hw 0 rfl ⟨_, rfl⟩) rfl) rfl<|VO.h rfl<|HO.bs (ps := [(_,_)]) (vs := [(_,_)]) (Z := [_,_]) (C := [_,_]) S24 Z71 N71 ⟨(.r rfl), trivial⟩ rfl rfl rfl rfl ⟨_, [_,_], [_,_], rfl, rfl, rfl, rfl, rfl⟩ fun b14 => VO.h rfl<|HO.appT ((⟨((nl % 40 : Nat) : Int), ((nl % 40 : Nat) : Int) + ((nm % 30 : Nat) : Int)⟩ : Span)) (f := Span.cells) 3 0 (fun R => [_,_,_, R,_,_]) S24 S24 I71 (.r rfl) (.r rfl) rfl rfl rfl rfl rfl rfl rfl (fun _ => rfl) rfl (by omega) fun p4 c4 => VO.l (LO.fa (r := 5) F26_1 (.r rfl) rfl) rfl<|VO.h0<|HO.st 2 (vs := [_]) (C' := [_,_,_,_,_,_]) (L' := [_,_,_,_,_,_]) N24 rfl rfl rfl rfl rfl rfl rfl rfl<|VO.nil ?_)
        refine VE.inN (VE.seqN ?_)
        refine VC.reg (VO.l (LO.add (.r rfl) (.r rfl) (wi (by omega) (by omega))) rfl<|VO.l (LO.mv (.r rfl)) rfl<|VO.nil ?_)
        refine VE.thenN fun a w ha hw => ⟨(k + 1, ml ++ [(⟨((nl % 40 : Nat) : Int), ((nl % 40 : Nat) : Int) + ((nm % 30 : Nat) : Int)⟩ : Span)], p4, c4), ⟨by dsimp only; omega, map_eq hm (by unfold mapAt; rw [vAt_t hln, vAt_t hmn]; all_goals (first | rfl | simp))⟩, (by dsimp only; omega), ha.sub (.cons rfl (.cons rfl (.cons rfl (.cons rfl (.cons rfl .nil))))), hw.sel [2,3,4,5] rfl⟩
      ·
        refine VC.skip (VE.seqN ?_)
        refine VC.reg (VO.l (LO.fa (r := 5) F26_1 (.r rfl) rfl) rfl<|VO.l (LO.ld O24 (.r rfl) (fun _ hw => cells_at hw 1 rfl ⟨_, rfl⟩)) rfl<|VO.l (LO.lda (vs := [_,_]) A71 (.r rfl) (fun _ hw => cells_at hw 0 rfl ⟨_, rfl⟩) rfl) rfl<|VO.h rfl<|HO.bs (ps := [(_,_)]) (vs := [(_,_)]) (Z := [_,_]) (C := [_,_]) S24 Z71 N71 ⟨(.r rfl), trivial⟩ rfl rfl rfl rfl ⟨_, [_,_], [_,_], rfl, rfl, rfl, rfl, rfl⟩ fun b16 => VO.h rfl<|HO.appT ((⟨((nl % 40 : Nat) : Int), ((nl % 40 : Nat) : Int)⟩ : Span)) (f := Span.cells) 3 0 (fun R => [_,_,_, R,_,_]) S24 S24 I71 (.r rfl) (.r rfl) rfl rfl rfl rfl rfl rfl rfl (fun _ => rfl) rfl (by omega) fun p4 c4 => VO.l (LO.fa (r := 5) F26_1 (.r rfl) rfl) rfl<|VO.h0<|HO.st 2 (vs := [_]) (C' := [_,_,_,_,_,_]) (L' := [_,_,_,_,_,_]) N24 rfl rfl rfl rfl rfl rfl rfl rfl<|VO.nil ?_)
        refine VE.inN (VE.seqN ?_)
        refine VC.reg (VO.l (LO.add (.r rfl) (.r rfl) (wi (by omega) (by omega))) rfl<|VO.l (LO.mv (.r rfl)) rfl<|VO.nil ?_)
        refine VE.thenN fun a w ha hw => ⟨(k + 1, ml ++ [(⟨((nl % 40 : Nat) : Int), ((nl % 40 : Nat) : Int)⟩ : Span)], p4, c4), ⟨by dsimp only; omega, map_eq hm (by unfold mapAt; rw [vAt_t hln, vAt_f h51]; all_goals (first | rfl | simp))⟩, (by dsimp only; omega), ha.sub (.cons rfl (.cons rfl (.cons rfl (.cons rfl (.cons rfl .nil))))), hw.sel [2,3,4,5] rfl⟩
    ·
      refine VC.skip (VE.seqN ?_)
      refine VC.seq ?_
      refine VC.reg (VO.l (LO.fa (r := 0) F71_0 (.r rfl) rfl) rfl<|VO.l (LO.ld O3 (.r rfl) (fun _ hw => cells_at hw 0 rfl ⟨_, rfl⟩)) rfl<|VO.l (LO.fa (r := 1) F71_1 (.r rfl) rfl) rfl<|VO.h0<|HO.st 0 (vs := [_]) (C' := [_,_]) (L' := [_,_,_,_,_]) N3 rfl rfl rfl rfl rfl rfl rfl rfl<|VO.nil ?_)
      refine VE.seqN ?_
      refine VC.seq ?_
      refine VC.seq ?_
      refine VC.reg (VO.l (LO.fa (r := 3) F63_3 (.r rfl) rfl) rfl<|VO.l (LO.ld O61 (.r rfl) (fun _ hw => cells_at hw 4 rfl ⟨_, rfl⟩)) rfl<|VO.l (LO.len S61 (.r rfl) rfl) rfl<|VO.l (LO.gt (.r rfl) (.r rfl)) rfl<|VO.nil ?_)
      refine VE.seqN ?_
      refine VC.cond rfl (fun h51 => ?_) (fun h51 => ?_)
      ·
        have hnm : k % x.mo.length < x.mo.length := Nat.mod_lt _ (by omega)
        obtain ⟨nm, hmn⟩ := get_ex (l := x.mo) hnm
        have hnm2 := hk.mo nm (List.mem_of_getElem? hmn)
        have hy : nm % 30 < 30 := Nat.mod_lt _ (by omega)
        refine VC.drawH [[0,1,2,3,4], [1,2,3,4]] [some 0, some 0, some 0, some 0, some 0, some 0, some 0, some 0, some 0, some 0, some 0, some 0, some 0, some 0, some 0, none] mixed (by kernel_rfl) rfl (LX.l (fun _ hJ => LO.fa (r := 1) F71_1 (.r rfl) rfl) rfl<|LX.l (fun _ hJ => LO.ld O3 (.r rfl) (fun _ hw => cells_at (hJ _ hw) 0 rfl ⟨_, rfl⟩)) rfl<|LX.l (fun _ hJ => LO.fa (r := 3) F63_3 (.r rfl) rfl) rfl<|LX.l (fun _ hJ => LO.ld O61 (.r rfl) (fun _ hw => cells_at (hJ _ hw) 4 rfl ⟨_, rfl⟩)) rfl<|LX.l (fun _ hJ => LO.mv (.r rfl)) rfl<|LX.l (fun _ hJ => LO.fa (r := 3) F63_3 (.r rfl) rfl) rfl<|LX.l (fun _ hJ => LO.ld O61 (.r rfl) (fun _ hw => cells_at (hJ _ hw) 4 rfl ⟨_, rfl⟩)) rfl<|LX.l (fun _ hJ => LO.len S61 (.r rfl) rfl) rfl<|LX.l (fun _ hJ => LO.eqv (LO.rem (.r rfl) (.r rfl) (by omega)) (congrArg (Value.int .i64) (mod_i (m := x.mo.length)))) rfl<|LX.l (fun _ hJ => LO.ixs S61 N5 (hx.mo.sm) (.r rfl) (.r rfl) rfl hnm) rfl<|LX.l (fun _ hJ => LO.ld O5 (.r rfl) (fun w hw => cells_part (off := 0) ((fun w3 h3 => RO.cel (hx.keep w3 h3).mo hmn) w (hJ _ hw)) ⟨_, rfl⟩)) rfl<|LX.l (fun _ hJ => LO.cv ⟨_, Try.underlying5⟩ Try.underlying3 (.r rfl) (cv8 hnm2)) rfl<|LX.l (fun _ hJ => LO.eqv (LO.rem (.r rfl) (.r rfl) (by omega)) (congrArg (Value.int .i64) (mod_i (m := 30)))) rfl<|LX.l (fun _ hJ => LO.add (.r rfl) (.r rfl) (wi (by omega) (by omega))) rfl<|LX.l (fun _ hJ => LO.fa (r := 1) F71_1 (.r rfl) rfl) rfl<|LX.s<|LX.nil) (HX.s<|HX.s<|HX.s<|HX.s<|HX.s<|HX.s<|HX.s<|HX.s<|HX.s<|HX.s<|HX.s<|HX.s<|HX.s<|HX.s<|HX.s<|HX.h0<|HO.st 0 (vs := [_]) (C' := [_,_]) (L' := [_,_,_,_,_]) N3 rfl rfl rfl rfl rfl rfl rfl rfl<|⟨fun _ hw => hw.sel [1,2,3,4] rfl, HX.nil ?_⟩)
        refine VE.seqN ?_
        refine VC.reg (VO.l (LO.fa (r := 5) F26_1 (.r rfl) rfl) rfl<|VO.l (LO.ld O24 (.r rfl) (fun _ hw => cells_at hw 1 rfl ⟨_, rfl⟩)) rfl<|VO.l (LO.lda (vs := [_,_]) A71 (.r rfl) (fun _ hw => cells_at hw 0 rfl ⟨_, rfl⟩) rfl) rfl<|VO.h rfl<|HO.bs (ps := [(_,_)]) (vs := [(_,_)]) (Z := [_,_]) (C := [_,_]) S24 Z71 N71 ⟨(.r rfl), trivial⟩ rfl rfl rfl rfl ⟨_, [_,_], [_,_], rfl, rfl, rfl, rfl, rfl⟩ fun b21 => VO.h rfl<|HO.appT ((⟨0,0 + ((nm % 30 : Nat) : Int)⟩ : Span)) (f := Span.cells) 3 0 (fun R => [_,_,_, R,_,_]) S24 S24 I71 (.r rfl) (.r rfl) rfl rfl rfl rfl rfl rfl rfl (fun _ => rfl) rfl (by omega) fun p4 c4 => VO.l (LO.fa (r := 5) F26_1 (.r rfl) rfl) rfl<|VO.h0<|HO.st 2 (vs := [_]) (C' := [_,_,_,_,_,_]) (L' := [_,_,_,_,_,_]) N24 rfl rfl rfl rfl rfl rfl rfl rfl<|VO.nil ?_)
        refine VE.inN (VE.seqN ?_)
        refine VC.reg (VO.l (LO.add (.r rfl) (.r rfl) (wi (by omega) (by omega))) rfl<|VO.l (LO.mv (.r rfl)) rfl<|VO.nil ?_)
        refine VE.thenN fun a w ha hw => ⟨(k + 1, ml ++ [(⟨0,0 + ((nm % 30 : Nat) : Int)⟩ : Span)], p4, c4), ⟨by dsimp only; omega, map_eq hm (by unfold mapAt; rw [vAt_f h32, vAt_t hmn]; all_goals (first | rfl | simp))⟩, (by dsimp only; omega), ha.sub (.cons rfl (.cons rfl (.cons rfl (.cons rfl (.cons rfl .nil))))), hw.sel [2,3,4,5] rfl⟩
      ·
        refine VC.skip (VE.seqN ?_)
        refine VC.reg (VO.l (LO.fa (r := 5) F26_1 (.r rfl) rfl) rfl<|VO.l (LO.ld O24 (.r rfl) (fun _ hw => cells_at hw 1 rfl ⟨_, rfl⟩)) rfl<|VO.l (LO.lda (vs := [_,_]) A71 (.r rfl) (fun _ hw => cells_at hw 0 rfl ⟨_, rfl⟩) rfl) rfl<|VO.h rfl<|HO.bs (ps := [(_,_)]) (vs := [(_,_)]) (Z := [_,_]) (C := [_,_]) S24 Z71 N71 ⟨(.r rfl), trivial⟩ rfl rfl rfl rfl ⟨_, [_,_], [_,_], rfl, rfl, rfl, rfl, rfl⟩ fun b23 => VO.h rfl<|HO.appT ((⟨0,0⟩ : Span)) (f := Span.cells) 3 0 (fun R => [_,_,_, R,_,_]) S24 S24 I71 (.r rfl) (.r rfl) rfl rfl rfl rfl rfl rfl rfl (fun _ => rfl) rfl (by omega) fun p4 c4 => VO.l (LO.fa (r := 5) F26_1 (.r rfl) rfl) rfl<|VO.h0<|HO.st 2 (vs := [_]) (C' := [_,_,_,_,_,_]) (L' := [_,_,_,_,_,_]) N24 rfl rfl rfl rfl rfl rfl rfl rfl<|VO.nil ?_)
        refine VE.inN (VE.seqN ?_)
        refine VC.reg (VO.l (LO.add (.r rfl) (.r rfl) (wi (by omega) (by omega))) rfl<|VO.l (LO.mv (.r rfl)) rfl<|VO.nil ?_)
        refine VE.thenN fun a w ha hw => ⟨(k + 1, ml ++ [(⟨0,0⟩ : Span)], p4, c4), ⟨by dsimp only; omega, map_eq hm (by unfold mapAt; rw [vAt_f h32, vAt_f h51]; all_goals (first | rfl | simp))⟩, (by dsimp only; omega), ha.sub (.cons rfl (.cons rfl (.cons rfl (.cons rfl (.cons rfl .nil))))), hw.sel [2,3,4,5] rfl⟩
  ·
    refine VC.exit (VE.thenX (VE.thenX (VE.inX (VE.seqN ?_))))
    refine VC.seq ?_
    refine VC.reg (VO.l (LO.lda (vs := [_,_,_,_,_,_]) A26 (.r rfl) (fun _ hw => cells_at hw 0 rfl ⟨_, rfl⟩) rfl) rfl<|VO.h0<|HO.st 2 (vs := [_,_,_,_,_,_]) (C' := [_,_,_,_,_,_]) (L' := [_,_,_,_]) N26 rfl rfl rfl rfl rfl rfl rfl rfl<|VO.nil ?_)
    refine VE.seqN ?_
    refine VC.ret (VE.res (vs := [_]) rfl ⟨RV.agg (vs := [_,_,_,_,_,_]) A26 rfl (cells_blk 2 rfl ⟨_, rfl⟩) rfl, trivial⟩ (fun w hw => ?_))
    have hke : k = mapW x * mapH x := by omega
    subst hke
    subst hm
    exact ⟨⟨po, co⟩, trivial, rfl, selK [1] rfl rfl _ hw⟩

set_option maxRecDepth 20000 in
theorem level_c (n : Nat) (w : World) (hn : n ≤ 255) :
  Calls Try.prog 34 #[.int .u8 (n : Int)] w fun e w' => e = .returned (.int .i64 ((1 + n % 50 : Nat) : Int)) ∧ St (bs w) [] w' := by
  refine enter (vs := [_]) (env := [(0,_)]) Try.func34 rfl rfl rfl rfl ?_
  refine VC.seq ?_
  refine VC.reg (VO.l (LO.as (.r rfl)) rfl<|VO.nil ?_)
  refine VE.seqN ?_
  refine VC.seq ?_
  refine VC.reg (VO.l (LO.mv (.r rfl)) rfl<|VO.l (LO.cv ⟨_, Try.underlying5⟩ Try.underlying3 (.r rfl) (cv8 hn)) rfl<|VO.l (LO.eqv (LO.rem (.r rfl) (.r rfl) (by omega)) (congrArg (Value.int .i64) (mod_i (m := 50)))) rfl<|VO.l (LO.eqv (LO.add (.r rfl) (.r rfl) (wi (by omega) (by omega))) (congrArg (Value.int .i64) (show (1 : Int) + ((n % 50 : Nat) : Int) = ((1 + n % 50 : Nat) : Int) by push_cast; rfl))) rfl<|VO.l (LO.as (.r rfl)) rfl<|VO.nil ?_)
  refine VE.seqN ?_
  refine VC.ret (VE.res (vs := [_]) rfl ⟨rfl, trivial⟩ (fun w hw => ?_))
  exact ⟨rfl, hw.nil⟩

end Go.Proofs.Ytgemekpofpoopaa

namespace Go.Proofs.Ytgemekpofpoopaa
open Go.SL Go.Proofs Go.Cast Go.Cell
set_option linter.unusedVariables false

theorem vAt_lt {l : List Nat} {m i : Nat} (h : 0 < m) : vAt l m i < m := by unfold vAt; split <;> first | exact Nat.mod_lt _ h | exact h
theorem mem_at {l : List Int} {n : Int} {i : Nat} (hi : i < l.length) (h : l.getD i 0 = n) : n ∈ l := by
  rw [List.getD_eq_getElem?_getD, List.getElem?_eq_getElem hi] at h
  have h : l[i] = n := h
  rw [← h]; exact List.getElem_mem hi
theorem mem_no {l : List Int} {n : Int} (h : ∀ k, k < l.length → ¬ l.getD k 0 = n) : ¬ n ∈ l := fun hm => by
  obtain ⟨k, hk, e⟩ := List.mem_iff_getElem.1 hm
  refine h k hk ?_
  rw [List.getD_eq_getElem?_getD, List.getElem?_eq_getElem hk]; exact e
end Go.Proofs.Ytgemekpofpoopaa

namespace Go.Proofs.Ytgemekpofpoopaa
open Go.SL Go.Proofs Go.Cast Go.Cell
set_option linter.unusedVariables false

theorem C41 : IsFn Try.prog 41 := ⟨_, Try.func41, by decide, rfl⟩


set_option maxRecDepth 20000 in
theorem member_c (l : List Int) (p : Option Addr) (c : Nat) (n : Int) (w : World) (hl : Ints w p l) (hn : l.length ≤ 1000000) :
  Calls Try.prog 41 #[.slice p l.length c, .int .i64 n] w fun e w' => e = .returned (.bool (decide (n ∈ l))) ∧ St (bs w) [] w' := by
  refine enter (vs := [_,_]) (env := [(0,_), (1,_)]) Try.func41 rfl rfl rfl rfl ?_
  refine VC.seq ?_
  refine VC.reg (VO.l (LO.as (.r rfl)) rfl<|VO.nil ?_)
  refine VE.seqN ?_
  refine VC.seq ?_
  refine VC.seq ?_
  refine VC.reg (VO.l (LO.mv (.r rfl)) rfl<|VO.l (LO.len S40 (.r rfl) rfl) rfl<|VO.l (LO.mv (.r rfl)) rfl<|VO.nil ?_)
  refine VE.seqN ?_
  refine VC.block ?_
  refine VC.loopK (α := Nat) 0 (fun gx => [(9, .int .i64 (gx : Nat))]) [(1,_), (7,_), (8,_)] (fun gx => []) (fun gx => gx ≤ l.length ∧ ∀ k, k < gx → ¬ l.getD k 0 = n) (fun gx => l.length - gx) 0 (by exact ⟨Nat.zero_le _, fun k h => absurd h (Nat.not_lt_zero _)⟩) (.cons rfl (.cons rfl (.cons rfl (.cons rfl .nil)))) (fun _ h => h) ?_
  rintro i ⟨hi, hz⟩
  refine VC.seq ?_
  refine VC.reg (VO.l (LO.lt (.r rfl) (.r rfl)) rfl<|VO.nil ?_)
  refine VE.seqN ?_
  refine VC.seq ?_
  refine VC.cond rfl (fun h10 => ?_) (fun h10 => ?_)
  ·
    refine VC.skip (VE.seqN ?_)
    refine VC.seq ?_
    refine VC.block ?_
    refine VC.seq ?_
    refine VC.reg (VO.l (LO.ixs S40 N3 hl.some (.r rfl) (.r rfl) rfl (by omega)) rfl<|VO.l (LO.ld O3 (.r rfl) (fun w hw => cells_part (off := 0) ((hl.at (j := i) (by omega)) w hw) ⟨_, rfl⟩)) rfl<|VO.l (LO.as (.r rfl)) rfl<|VO.nil ?_)
    refine VE.seqN ?_
    refine VC.seq ?_
    refine VC.reg (VO.l (LO.mv (.r rfl)) rfl<|VO.l (LO.mv (.r rfl)) rfl<|VO.l (LO.eq (.r rfl) (.r rfl)) rfl<|VO.nil ?_)
    refine VE.seqN ?_
    refine VC.cond rfl (fun h15 => ?_) (fun h15 => ?_)
    ·
      refine VC.seq ?_
      refine VC.reg (VO.l (LO.as (.r rfl)) rfl<|VO.nil ?_)
      refine VE.seqN ?_
      refine VC.ret (VE.inR (VE.thenR (VE.thenR (VE.inR (VE.thenR (VE.res (vs := [_]) rfl ⟨rfl, trivial⟩ (fun w hw => ?_)))))))
      refine ⟨congrArg (fun z => Ending.returned (.bool z)) ?_, hw.nil⟩
      first | exact (decide_eq_true (mem_at (i := i) (by omega) h15)).symm | exact (decide_eq_false (mem_no (fun k hk => hz k (by omega)))).symm
    ·
      refine VC.skip (VE.inN (VE.seqN ?_))
      refine VC.reg (VO.l (LO.add (.r rfl) (.r rfl) (wi (by omega) (by omega))) rfl<|VO.l (LO.mv (.r rfl)) rfl<|VO.nil ?_)
      refine VE.thenN fun a w ha hw => ⟨i + 1, ⟨by omega, step_all (P := fun k => ¬ l.getD k 0 = n) hz h15⟩, (by omega), ha.sub (.cons rfl (.cons rfl (.cons rfl (.cons rfl .nil)))), hw⟩
  ·
    refine VC.exit (VE.thenX (VE.thenX (VE.inX (VE.seqN ?_))))
    refine VC.seq ?_
    refine VC.reg (VO.l (LO.as (.r rfl)) rfl<|VO.nil ?_)
    refine VE.seqN ?_
    refine VC.ret (VE.res (vs := [_]) rfl ⟨rfl, trivial⟩ (fun w hw => ?_))
    refine ⟨congrArg (fun z => Ending.returned (.bool z)) ?_, hw.nil⟩
    first | exact (decide_eq_true (mem_at (i := i) (by omega) h15)).symm | exact (decide_eq_false (mem_no (fun k hk => hz k (by omega)))).symm

end Go.Proofs.Ytgemekpofpoopaa

namespace Go.Proofs.Ytgemekpofpoopaa
open Go.SL Go.Proofs Go.Cast Go.Cell
set_option linter.unusedVariables false

theorem A63 : IsAgg Try.prog 63 4 := ⟨⟨_, Try.underlying63, rfl⟩, by kernel_rfl⟩
theorem C33 : IsFn Try.prog 33 := ⟨_, Try.func33, by decide, rfl⟩
theorem C34 : IsFn Try.prog 34 := ⟨_, Try.func34, by decide, rfl⟩
structure MpY where
  p : Option Addr
  c : Nat
  v : List Span
/-- A map of the statements. -/
structure FldOk (G : Grid) (vs : List Span) : Prop where
  grid : gridOk G
  wide : (vs.length : Int) = G.wide * G.high
  n : vs.length = gW G * gH G
  sp : ∀ j, j < vs.length → 0 ≤ (vs.getD j ⟨0,0⟩).lo ∧ (vs.getD j ⟨0,0⟩).lo ≤ (vs.getD j ⟨0,0⟩).hi ∧ (vs.getD j ⟨0,0⟩).hi ≤ 100
  le : vs.length ≤ 36
  pos : 0 < vs.length
theorem mapTo_get {x : MapA} {k j : Nat} (h : j < k) : (mapTo x k).getD j ⟨0,0⟩ = mapAt x j := by
  unfold mapTo; rw [List.getD_eq_getElem?_getD, List.getElem?_map, List.getElem?_range h]; rfl
theorem map_fld (x : MapA) : FldOk (mapG x) (mapVs x) := by
  obtain ⟨h1, h2, h3, h4⟩ := map_wh x
  have hl : (mapVs x).length = mapW x * mapH x := mapTo_len
  have hp : 0 < mapW x * mapH x := Nat.mul_pos (by omega) (by omega)
  refine ⟨by unfold gridOk; dsimp only; omega, ?_, ?_, fun j hj => ?_, by rw [hl]; exact map_area x, by omega⟩
  · rw [hl]; exact Int.natCast_mul _ _
  · rw [hl]; show _ = ((mapW x : Nat) : Int).toNat * ((mapH x : Nat) : Int).toNat; rw [Int.toNat_natCast, Int.toNat_natCast]
  · have h40 : vAt x.lo 40 j < 40 := vAt_lt (by decide)
    have h30 : vAt x.mo 30 j < 30 := vAt_lt (by decide)
    rw [hl] at hj
    unfold mapVs
    rw [mapTo_get hj]
    unfold mapAt
    dsimp only
    omega
theorem field_k (G : Grid) (x : MapA) (w : World) (hx : MapI w x) (hk : MapK x) (hG : G = mapG x) : Calls Try.prog 33 #[x.V] w fun e w' => ∃ y : MpY, FldOk G y.v ∧ e = .returned (fieldV G y.p y.v.length y.c) ∧ St (bs w) [own 71 2 y.p y.c (y.v.map Span.cells)] w' := by
  subst hG
  exact (field_c x w hx hk).mono fun e w' ⟨y,_, h2, h3⟩ => ⟨⟨y.p, y.c, mapVs x⟩, map_fld x, h2, h3⟩
theorem level_k (lv : Int) (n : Nat) (w : World) (hn : n ≤ 255) (hlv : lv = ((1 + n % 50 : Nat) : Int)) : Calls Try.prog 34 #[.int .u8 (n : Int)] w fun e w' => e = .returned (.int .i64 lv) ∧ St (bs w) [] w' := by
  subst hlv
  exact level_c n w hn
end Go.Proofs.Ytgemekpofpoopaa

namespace Go.Proofs.Ytgemekpofpoopaa
open Go.SL Go.Proofs Go.Cast Go.Cell
set_option linter.unusedVariables false
theorem mem_castI {l : List Nat} {p : Nat} : ((p : Int) ∈ l.map fun n : Nat => (n : Int)) ↔ p ∈ l := by
  rw [List.mem_map]
  exact ⟨fun ⟨a, h1, h2⟩ => by have : a = p := by omega
                               subst this; exact h1, fun h => ⟨p, h, rfl⟩⟩
theorem ro_I {w : World} {p : Option Addr} {l : List Nat} (h : RO 1 nC w p l) : RO 1 iC w p (l.map fun n : Nat => (n : Int)) := by
  have e : (l.map fun n : Nat => (n : Int)).map iC = l.map nC := by rw [List.map_map]; rfl
  unfold RO at *; rw [e]; exact h
section
variable {W H : Nat} {vs ts : List Span} {lv : Int} {ar br : ArY} {ow sm : List Int} {i j m p : Nat}
end
end Go.Proofs.Ytgemekpofpoopaa

namespace Go.Proofs.Ytgemekpofpoopaa
open Go.SL Go.Proofs Go.Cast Go.Cell
set_option linter.unusedVariables false



/-- What is read of events. -/
structure EvI (w : World) (p : Option Addr) (l : List EvR) : Prop where
  ev : RO 3 EvR.cells w p l
  f : ∀ e, e ∈ l → RO 1 nC w e.fp e.f
  t : ∀ e, e ∈ l → RO 1 nC w e.tp e.t
theorem EvI.keep {w0 : World} {p : Option Addr} {l : List EvR} (h : EvI w0 p l) : ∀ {L : List Res} (w : World), St (bs w0) L w → EvI w p l := fun w hw => ⟨h.ev.keep w hw, fun e he => (h.f e he).keep w hw, fun e he => (h.t e he).keep w hw⟩
theorem EvI.of_res {β : Bs} {L : List Res} {w : World} {y : EvY} (hw : St β (y.R ++ L) w) : EvI w y.p y.l :=
  ⟨RO.of_own hw 0 rfl, fun e he => RO.of_bag (E := 3) (z := 1) (P := EvR.fp) (C := EvR.fc) (X := EvR.f) (f := nC) hw 1 rfl he, fun e he => RO.of_bag (E := 3) (z := 1) (P := EvR.tp) (C := EvR.tc) (X := EvR.t) (f := nC) hw 2 rfl he⟩
theorem member_k (l : List Nat) (p : Option Addr) (c : Nat) (n : Nat) (w : World) (hl : RO 1 nC w p l) (hn : l.length ≤ 1000000) : Calls Try.prog 41 #[.slice p l.length c, .int .i64 (n : Int)] w fun e w' => e = .returned (.bool (decide (n ∈ l))) ∧ St (bs w) [] w' := by
  have z := member_c (l.map fun n : Nat => (n : Int)) p c n w (ro_I hl) (by rw [List.length_map]; exact hn)
  rw [List.length_map] at z
  refine z.mono fun e w' ⟨h1, h2⟩ => ⟨?_, h2⟩
  rw [h1]
  refine congrArg (fun b => Ending.returned (.bool b)) ?_
  by_cases h : n ∈ l
  · rw [decide_eq_true h, decide_eq_true (mem_castI.2 h)]
  · rw [decide_eq_false h, decide_eq_false fun z => h (mem_castI.1 z)]
end Go.Proofs.Ytgemekpofpoopaa

namespace Go.Proofs.Ytgemekpofpoopaa
open Go.SL Go.Proofs Go.Cast Go.Cell
set_option linter.unusedVariables false
section
variable {W H r n m i j p q : Nat} {oa ob : List Int} {l : List EvM} {x y lv : Int} {vs ts fs ss as_ bs_ : List Span}
theorem one_nat {l : List Nat} (h : l.length = 1) : ∃ a, l = [a] := by
  match l, h with
  | [a],_ => exact ⟨a, rfl⟩
end
end Go.Proofs.Ytgemekpofpoopaa

namespace Go.Proofs.Ytgemekpofpoopaa
open Go.SL Go.Proofs Go.Cast Go.Cell
set_option linter.unusedVariables false



theorem fieldE_zero {G : Grid} {vs : List Span} (h : FldOk G vs) : fieldE 1073741824 ⟨G, vs⟩ = 0 := (fE4 (m := 1073741824) (f := ⟨G, vs⟩) (j := vs.length) h.grid h.wide (fun k hk => if_pos (by have := h.sp k hk; unfold spanOk; dsimp only; omega)) (Nat.le_refl _)).symm
theorem pair_zero {G : Grid} {vs ts : List Span} {lv : Int} {r : Nat} (h : FldOk G vs) (k : FldOk G ts) (h1 : 1 ≤ lv) (h2 : lv ≤ 1073741824) (hr : r ≤ 8) : pairE G vs G ts lv r = 0 := by
  unfold pairE
  rw [if_neg (fun z => z (fieldE_zero h)), if_neg (fun z => z (fieldE_zero k)), if_neg (fun z => z rfl), if_neg (by omega)]
theorem Match_k (G : Grid) (vs : List Span) (p1 : Option Addr) (c1 : Nat) (ts : List Span) (p2 : Option Addr) (c2 : Nat) (lv : Int) (r : Nat) (w : World) (hv1 : Spans w p1 vs) (hv2 : Spans w p2 ts) (h : FldOk G vs) (k : FldOk G ts) (h1 : 1 ≤ lv) (h2 : lv ≤ 1073741824) (hr : r ≤ 8) : Calls Try.prog 27 #[fieldV G p1 vs.length c1, fieldV G p2 ts.length c2, .int .i64 lv, .int .i64 (r : Int)] w fun e w' => ∃ y : EvY, EvP (gW G) (gH G) r (ofL (gW G) (gH G) (mayB vs lv)) (ofL (gW G) (gH G) (mayB ts lv)) (partsL (gW G) (gH G) (mayB vs lv)).length (partsL (gW G) (gH G) (mayB ts lv)).length (y.l.map EvR.m) ∧ e = .returned (.tuple #[.slice y.p y.l.length y.c, .int .i64 0]) ∧ St (bs w) y.R w' :=
  Match_ok G vs p1 c1 G ts p2 c2 lv r w hv1 hv2 (pair_zero h k h1 h2 hr)
structure MvL where
  p : Option Addr
  c : Nat
  l : List Mv
structure MvE (G : Grid) (vs ts : List Span) (lv : Int) (i j r : Nat) (l : List Mv) : Prop where
  eq : l = movesP G vs ts lv i j r
  len : l.length ≤ 289
theorem movesP_len {G : Grid} {vs ts : List Span} {lv : Int} {i j r : Nat} (hr : r ≤ 8) : (movesP G vs ts lv i j r).length ≤ 289 := by
  have h1 := mv_le hr
  have h2 := movesTo_len (W := gW G) (H := gH G) (ka := ksAt (gW G) (gH G) vs lv i) (kb := ksAt (gW G) (gH G) ts lv j) (ofa := ofL (gW G) (gH G) (mayB vs lv)) (ofb := ofL (gW G) (gH G) (mayB ts lv)) (i := i) (j := j) (r := r) (n := (2 * r + 1) * (2 * r + 1))
  unfold movesP movesM; omega
theorem Moves_k (G : Grid) (vs : List Span) (p1 : Option Addr) (c1 : Nat) (ts : List Span) (p2 : Option Addr) (c2 : Nat) (lv : Int) (r i j : Nat) (w : World) (hv1 : Spans w p1 vs) (hv2 : Spans w p2 ts) (h : FldOk G vs) (k : FldOk G ts) (h1 : 1 ≤ lv) (h2 : lv ≤ 1073741824) (hr : r ≤ 8) (hi : i < (partsL (gW G) (gH G) (mayB vs lv)).length) (hj : j < (partsL (gW G) (gH G) (mayB ts lv)).length) : Calls Try.prog 30 #[fieldV G p1 vs.length c1, fieldV G p2 ts.length c2, .int .i64 lv, .int .i64 (r : Int), .int .i64 (i : Int), .int .i64 (j : Int)] w fun e w' => ∃ y : MvL, MvE G vs ts lv i j r y.l ∧ e = .returned (.tuple #[.slice y.p y.l.length y.c, .int .i64 0]) ∧ St (bs w) [own 85 2 y.p y.c (y.l.map Mv.cells)] w' :=
  (Moves_ok G vs p1 c1 G ts p2 c2 lv i j r w hv1 hv2 (by
    unfold moveE
    rw [if_neg (fun z => z (pair_zero h k h1 h2 hr)), if_neg]
    rintro (z | z | z)
    · omega
    · unfold nP at z; omega
    · unfold nP at z; omega)).mono fun e w' ⟨y,_, h2, h3⟩ => ⟨⟨y.p, y.c, movesP G vs ts lv i j r⟩, ⟨rfl, movesP_len hr⟩, h2, h3⟩
theorem ev_lens {n m : Nat} {l : List EvR} (h : GoodEv n m (l.map EvR.m)) (hn : n ≤ 4096) (hm : m ≤ 4096) : ∀ e, e ∈ l → e.f.length ≤ 1000000 ∧ e.t.length ≤ 1000000 := fun e he => by
  have h1 := h.fs e.m (List.mem_map_of_mem he)
  have h2 := h.ts e.m (List.mem_map_of_mem he)
  have k1 := length_le_of_subset (m := List.range n) (h1.1.imp fun z => Nat.ne_of_lt z) (fun x hx => List.mem_range.2 (h1.2 x hx))
  have k2 := length_le_of_subset (m := List.range m) (h2.1.imp fun z => Nat.ne_of_lt z) (fun x hx => List.mem_range.2 (h2.2 x hx))
  rw [List.length_range] at k1 k2
  exact ⟨Nat.le_trans k1 (by omega), Nat.le_trans k2 (by omega)⟩
theorem ev_count {n m : Nat} {l : List EvM} (h : GoodEv n m l) : l.length ≤ n + m := by
  have key : ∀ e, e ∈ l → ∃ t, t < n + m ∧ ((t < n ∧ t ∈ e.f) ∨ (n ≤ t ∧ t - n ∈ e.t)) := fun e he => by
    have h1 := (h.kd e he).2
    by_cases q : 0 < e.f.length
    · obtain ⟨a, ha⟩ := List.exists_mem_of_length_pos q
      have := (h.fs e he).2 a ha
      exact ⟨a, by omega, .inl ⟨this, ha⟩⟩
    · obtain ⟨a, ha⟩ := List.exists_mem_of_length_pos (l := e.t) (by omega)
      have := (h.ts e he).2 a ha
      exact ⟨n + a, by omega, .inr ⟨by omega, by rw [Nat.add_sub_cancel_left]; exact ha⟩⟩
  have : ∀ l : List EvM, (∀ e, e ∈ l → ∃ t, t < n + m ∧ ((t < n ∧ t ∈ e.f) ∨ (n ≤ t ∧ t - n ∈ e.t))) → l.Pairwise (fun a b => (∀ i, i ∈ a.f → i ∉ b.f) ∧ ∀ j, j ∈ a.t → j ∉ b.t) → ∃ ts : List Nat, ts.length = l.length ∧ ts.Nodup ∧ (∀ t, t ∈ ts → t < n + m) ∧ ∀ t, t ∈ ts → ∃ e, e ∈ l ∧ ((t < n ∧ t ∈ e.f) ∨ (n ≤ t ∧ t - n ∈ e.t)) := by
    intro l
    induction l with
    | nil => intro _ _; exact ⟨[], rfl, by simp, by simp, by simp⟩
    | cons a l ih =>
      intro hk hp
      obtain ⟨ts, t1, t2, t3, t4⟩ := ih (fun e he => hk e (by simp [he])) (List.pairwise_cons.1 hp).2
      obtain ⟨t, k1, k2⟩ := hk a (by simp)
      refine ⟨t :: ts, by simp [t1], List.nodup_cons.2 ⟨fun hm => ?_, t2⟩, fun s hs => ?_, fun s hs => ?_⟩
      · obtain ⟨e, he, g⟩ := t4 t hm
        have hap := (List.pairwise_cons.1 hp).1 e he
        rcases k2 with ⟨z1, z2⟩ | ⟨z1, z2⟩ <;> rcases g with ⟨y1, y2⟩ | ⟨y1, y2⟩
        · exact hap.1 _ z2 y2
        · omega
        · omega
        · exact hap.2 _ z2 y2
      · rcases List.mem_cons.1 hs with rfl | q
        · exact k1
        · exact t3 s q
      · rcases List.mem_cons.1 hs with rfl | q
        · exact ⟨a, by simp, k2⟩
        · obtain ⟨e, he, g⟩ := t4 s q; exact ⟨e, by simp [he], g⟩
  obtain ⟨ts, t1, t2, t3,_⟩ := this l key h.apart
  rw [← t1]
  have := length_le_of_subset (m := List.range (n + m)) t2 (fun x hx => List.mem_range.2 (t3 x hx))
  simpa using this
end Go.Proofs.Ytgemekpofpoopaa

namespace Go.Proofs.Ytgemekpofpoopaa
open Go.SL Go.Proofs Go.Cast Go.Cell
set_option linter.unusedVariables false
theorem len_sub {α : Type} : ∀ {l m : List α}, l.Nodup → (∀ x, x ∈ l → x ∈ m) → l.length ≤ m.length
  | [], m,_,_ => Nat.zero_le _
  | a :: l, m, hn, hs => by
    obtain ⟨m1, m2, rfl⟩ := List.append_of_mem (hs a (by simp))
    have hn2 := List.nodup_cons.1 hn
    have := len_sub (m := m1 ++ m2) hn2.2 fun x hx => by
      have h := hs x (by simp [hx])
      rcases List.mem_append.1 h with q | q
      · exact List.mem_append.2 (.inl q)
      · rcases List.mem_cons.1 q with rfl | q
        · exact absurd hx hn2.1
        · exact List.mem_append.2 (.inr q)
    simp only [List.length_append, List.length_cons] at *
    omega
def sw (a : Bool × Int) : Bool × Int := (!a.1, a.2)
theorem sw_sw (a : Bool × Int) : sw (sw a) = a := by unfold sw; simp
section
variable {W H r r2 n m i j : Nat} {oa ob : List Int} {l l2 : List EvM}
theorem pix_uv {p : Nat} (hp : p < W * H) : p / W * W + p % W = p ∧ p % W < W ∧ p / W < H := by
  have hW : 0 < W := Nat.pos_of_ne_zero fun e => by rw [e, Nat.zero_mul] at hp; omega
  exact ⟨by rw [Nat.mul_comm]; exact Nat.div_add_mod p W, Nat.mod_lt _ hW, row_lt hp⟩
theorem jal_sw {a b : Bool × Int} (h : Jal W H r oa ob a b) : Jal W H r ob oa (sw b) (sw a) := by
  obtain ⟨p, v, u, hp, hv, hu, ⟨ha1, ha2⟩, ⟨hb1, hb2⟩⟩ := h
  obtain ⟨e1, e2, e3⟩ := pix_uv hp
  have hq : v * W + u < W * H := by have := pix_lt (W := W) (H := H) (x := u) (y := v) hu.2.2 hv.2.2; rwa [Nat.mul_comm W v] at this
  obtain ⟨d1, d2⟩ := dm_eq (W := W) (p := v * W + u) (a := v) (b := u) (by rw [Nat.mul_comm]) hu.2.2
  refine ⟨v * W + u, p / W, p % W, hq, ?_, ?_, ⟨by rw [hb1]; rfl, hb2⟩, ⟨by rw [e1, ha1]; rfl, by rw [e1]; exact ha2⟩⟩
  · rw [d1]; exact ⟨by omega, by omega, e3⟩
  · rw [d2]; exact ⟨by omega, by omega, e2⟩
theorem eqv_sw {a b : Bool × Int} (h : Eqv (Jal W H r oa ob) a b) : Eqv (Jal W H r ob oa) (sw a) (sw b) := by
  induction h with
  | refl x => exact .refl _
  | base j => exact .symm (.base (jal_sw j))
  | symm _ ih => exact .symm ih
  | trans _ _ h1 h2 => exact .trans h1 h2
theorem jal_mono (hr : r ≤ r2) {a b : Bool × Int} (h : Jal W H r oa ob a b) : Jal W H r2 oa ob a b := by
  obtain ⟨p, v, u, hp, hv, hu, ha, hb⟩ := h
  exact ⟨p, v, u, hp, by omega, by omega, ha, hb⟩
/-- An event is a class. -/
structure EvC (J : Bool × Int → Bool × Int → Prop) (n m : Nat) (e : EvM) (a : Bool × Int) : Prop where
  f : ∀ i, i ∈ e.f ↔ i < n ∧ Eqv J (false, (i : Int)) a
  t : ∀ j, j ∈ e.t ↔ j < m ∧ Eqv J (true, (j : Int)) a
theorem ev_class (h : EvP W H r oa ob n m l) {e : EvM} (he : e ∈ l) : ∃ a, EvC (Jal W H r oa ob) n m e a ∧ ((∃ i : Nat, i < n ∧ a = (false, (i : Int))) ∨ ∃ j : Nat, j < m ∧ a = (true, (j : Int))) := by
  obtain ⟨ld, h1, h2⟩ := h.ex
  rw [h2] at he
  obtain ⟨k, k1, k2, k3, k4, k5⟩ := evsM_mem he
  refine ⟨ndx n k, ⟨fun i => ?_, fun j => ?_⟩, ?_⟩
  · rw [k4, List.mem_filter, List.mem_range, decide_eq_true_eq]
    exact ⟨fun ⟨x, y⟩ => ⟨x, by rw [ndx_lt x] at y; exact (h1 _ _).1 y⟩, fun ⟨x, y⟩ => ⟨x, by rw [ndx_lt x]; exact (h1 _ _).2 y⟩⟩
  · rw [k5, List.mem_filter, List.mem_range, decide_eq_true_eq, ndx_ge]
    exact ⟨fun ⟨x, y⟩ => ⟨x, (h1 _ _).1 y⟩, fun ⟨x, y⟩ => ⟨x, (h1 _ _).2 y⟩⟩
  · by_cases q : k < n
    · exact .inl ⟨k, q, ndx_lt q⟩
    · refine .inr ⟨k - n, by omega, ?_⟩
      have := @ndx_ge n (k - n)
      rwa [show n + (k - n) = k by omega] at this
theorem ev_for (h : EvP W H r oa ob n m l) {a : Bool × Int} (ha : (∃ i : Nat, i < n ∧ a = (false, (i : Int))) ∨ ∃ j : Nat, j < m ∧ a = (true, (j : Int))) : ∃ e, e ∈ l ∧ EvC (Jal W H r oa ob) n m e a := by
  have hg := h.good
  have key : ∀ e, e ∈ l → (∀ b, EvC (Jal W H r oa ob) n m e b → Eqv (Jal W H r oa ob) b a → EvC (Jal W H r oa ob) n m e a) := fun e he b hb hba => ⟨fun i => (hb.f i).trans ⟨fun ⟨x, y⟩ => ⟨x, .trans y hba⟩, fun ⟨x, y⟩ => ⟨x, .trans y (.symm hba)⟩⟩, fun j => (hb.t j).trans ⟨fun ⟨x, y⟩ => ⟨x, .trans y hba⟩, fun ⟨x, y⟩ => ⟨x, .trans y (.symm hba)⟩⟩⟩
  rcases ha with ⟨i, hi, rfl⟩ | ⟨j, hj, rfl⟩
  · obtain ⟨e, he, hf⟩ := hg.allF i hi
    obtain ⟨b, hb,_⟩ := ev_class h he
    exact ⟨e, he, key e he b hb (.symm ((hb.f i).1 hf).2)⟩
  · obtain ⟨e, he, hf⟩ := hg.allT j hj
    obtain ⟨b, hb,_⟩ := ev_class h he
    exact ⟨e, he, key e he b hb (.symm ((hb.t j).1 hf).2)⟩
theorem opp_kind (a b : Nat) (h : 0 < a + b) : (2 ≤ kindM a b ∧ kindM a b ≤ 7) ∧ kindM b a = [0,0,3,2,4,6,5,7].getD (kindM a b).toNat 0 := by
  unfold kindM
  by_cases h1 : a = 0
  · subst h1
    have : b ≠ 0 := by omega
    simp [this]
  · by_cases h2 : b = 0
    · subst h2; simp [h1]
    · by_cases h3 : a = 1 <;> by_cases h4 : b = 1 <;> simp [h1, h2, h3, h4]
def EvM.opp (e : EvM) : EvM := ⟨kindM e.t.length e.f.length, e.t, e.f⟩
/-- The opposite event. -/
theorem ev_back (h : EvP W H r oa ob n m l) (k : EvP W H r ob oa m n l2) {e : EvM} (he : e ∈ l) : e.opp ∈ l2 := by
  obtain ⟨a, ha, hr⟩ := ev_class h he
  obtain ⟨e2, he2, h2⟩ := ev_for k (a := sw a) (by
    rcases hr with ⟨i, hi, rfl⟩ | ⟨j, hj, rfl⟩
    · exact .inr ⟨i, hi, rfl⟩
    · exact .inl ⟨j, hj, rfl⟩)
  have g1 := h.good; have g2 := k.good
  have e1 : e2.f = e.t := asc_ext (g2.fs e2 he2).1 (g1.ts e he).1 fun x => by
    rw [h2.f, ha.t]
    exact and_congr_right fun _ => ⟨fun z => by have y := eqv_sw z; rw [sw_sw] at y; exact y, fun z => eqv_sw z⟩
  have e3 : e2.t = e.f := asc_ext (g2.ts e2 he2).1 (g1.fs e he).1 fun x => by
    rw [h2.t, ha.f]
    exact and_congr_right fun _ => ⟨fun z => by have y := eqv_sw z; rw [sw_sw] at y; exact y, fun z => eqv_sw z⟩
  have e4 := (g2.kd e2 he2).1
  have : e2 = e.opp := by
    cases e2
    unfold EvM.opp
    dsimp only at *
    subst e1; subst e3; subst e4; rfl
  rw [← this]; exact he2
theorem ev_nodup (h : GoodEv n m l) : l.Nodup := by
  refine List.pairwise_iff_getElem.2 fun a b ha hb hab e => ?_
  have hz := List.pairwise_iff_getElem.1 h.apart a b ha hb hab
  have hp := (h.kd l[a] (List.getElem_mem ha)).2
  by_cases q : 0 < l[a].f.length
  · obtain ⟨i, hi⟩ := List.exists_mem_of_length_pos q
    exact hz.1 i hi (e ▸ hi)
  · obtain ⟨j, hj⟩ := List.exists_mem_of_length_pos (l := l[a].t) (by omega)
    exact hz.2 j hj (e ▸ hj)
theorem back_len (h : EvP W H r oa ob n m l) (k : EvP W H r ob oa m n l2) : l.length = l2.length := by
  have key : ∀ {oa ob : List Int} {n m : Nat} {l l2 : List EvM}, EvP W H r oa ob n m l → EvP W H r ob oa m n l2 → l.length ≤ l2.length := fun {oa ob n m l l2} h k => by
    have g := h.good
    have z := len_sub (l := l.map EvM.opp) (m := l2) (by
      refine List.pairwise_map.2 ((ev_nodup g).imp_of_mem fun {a b} ha hb hab e => hab ?_)
      have e1 : a.t = b.t := congrArg EvM.f e
      have e2 : a.f = b.f := congrArg EvM.t e
      have e3 := (g.kd a ha).1; have e4 := (g.kd b hb).1
      rw [e1, e2] at e3
      cases a; cases b
      dsimp only at *
      subst e1; subst e2; subst e3; subst e4; rfl) (fun x hx => by obtain ⟨e, he, rfl⟩ := List.mem_map.1 hx; exact ev_back h k he)
    rwa [List.length_map] at z
  exact Nat.le_antisymm (key h k) (key k h)
/-- With a greater reach each event lies within one. -/
theorem ev_wider (hr : r ≤ r2) (h : EvP W H r oa ob n m l) (k : EvP W H r2 oa ob n m l2) {e : EvM} (he : e ∈ l) : ∃ e2, e2 ∈ l2 ∧ (∀ i, i ∈ e.f → i ∈ e2.f) ∧ ∀ j, j ∈ e.t → j ∈ e2.t := by
  obtain ⟨a, ha, hra⟩ := ev_class h he
  obtain ⟨e2, he2, h2⟩ := ev_for k hra
  exact ⟨e2, he2, fun i hi => (h2.f i).2 ⟨((ha.f i).1 hi).1, ((ha.f i).1 hi).2.mono fun _ _ => jal_mono hr⟩, fun j hj => (h2.t j).2 ⟨((ha.t j).1 hj).1, ((ha.t j).1 hj).2.mono fun _ _ => jal_mono hr⟩⟩
theorem mv_rev {N : Nat} (hN : N = (2 * r + 1) * (2 * r + 1)) {k : Nat} (hk : k < N) : mvAt r (N - 1 - k) = (mvAt r k).neg := by
  subst hN
  have hd := dm (2 * r + 1) k (by omega)
  have hq : k / (2 * r + 1) < 2 * r + 1 := Nat.div_lt_of_lt_mul hk
  obtain ⟨u, hu⟩ : ∃ u, u = k % (2 * r + 1) := ⟨_, rfl⟩
  obtain ⟨v, hv⟩ : ∃ v, v = k / (2 * r + 1) := ⟨_, rfl⟩
  rw [← hu, ← hv] at hd
  rw [← hv] at hq
  have e : (2 * r + 1) * (2 * r + 1) - 1 - k = (2 * r + 1) * (2 * r - v) + (2 * r - u) := by
    have h1 : (2 * r + 1) * (2 * r + 1) = (2 * r + 1) * (2 * r - v) + (2 * r + 1) * v + (2 * r + 1) := by
      rw [← Nat.mul_add, ← Nat.mul_succ]; congr 1; omega
    omega
  obtain ⟨d1, d2⟩ := dm_eq (W := 2 * r + 1) e (show 2 * r - u < 2 * r + 1 by omega)
  unfold mvAt Mv.neg
  rw [d1, d2, ← hu, ← hv]
  dsimp only
  congr 1 <;> omega
theorem moveOk_neg {ka kb : List (List Nat)} {x : Mv} : moveOk W H kb ka ob oa j i x.neg = moveOk W H ka kb oa ob i j x := by
  unfold moveOk
  rw [Bool.and_comm]
  congr 1
  unfold Mv.neg
  dsimp only
  rw [Int.neg_neg, Int.neg_neg]
theorem moves_rev {ka kb : List (List Nat)} : movesM W H kb ka ob oa j i r = ((movesM W H ka kb oa ob i j r).reverse).map Mv.neg := by
  unfold movesM movesTo
  obtain ⟨N, hN⟩ : ∃ N, N = (2 * r + 1) * (2 * r + 1) := ⟨_, rfl⟩
  rw [← hN]
  have e : (List.range N).map (mvAt r) = (((List.range N).map (mvAt r)).reverse).map Mv.neg := by
    refine List.ext_getElem? fun k => ?_
    by_cases hk : k < N
    · rw [List.getElem?_map, List.getElem?_range hk, List.getElem?_map, List.getElem?_reverse (by simpa using hk), List.length_map, List.length_range, List.getElem?_map, List.getElem?_range (by omega)]
      have := mv_rev hN (k := N - 1 - k) (by omega)
      rw [show N - 1 - (N - 1 - k) = k by omega] at this
      exact congrArg some this
    · rw [List.getElem?_eq_none (by simpa using hk), List.getElem?_eq_none (by simpa using hk)]
  have e2 : ((List.range N).map (mvAt r)).filter (moveOk W H kb ka ob oa j i) = ((((List.range N).map (mvAt r)).reverse).map Mv.neg).filter (moveOk W H kb ka ob oa j i) := congrArg (List.filter _) e
  rw [e2, List.filter_map, ← List.filter_reverse]
  congr 1
  refine List.filter_congr fun x _ => ?_
  exact moveOk_neg
theorem moves_back {G : Grid} {vs ts : List Span} {lv : Int} : movesP G ts vs lv j i r = ((movesP G vs ts lv i j r).reverse).map Mv.neg := moves_rev
end
end Go.Proofs.Ytgemekpofpoopaa

namespace Go.Proofs.Ytgemekpofpoopaa
open Go.SL Go.Proofs Go.Cast Go.Cell
set_option linter.unusedVariables false

theorem B63 : Builds Try.prog 63 [(0,1), (1,1), (2,1), (3,1)] [.int .u8 0, .int .u8 0, .slice none 0 0, .slice none 0 0] := Builds.mk fun _ => by kernel_rfl


theorem numbers_k (l m : List Nat) (p : Option Addr) (c : Nat) (q : Option Addr) (d : Nat) (w : World) (hl : RO 1 nC w p l) (hm : RO 1 nC w q m) (hn : l.length ≤ 1000000) : Calls Try.prog 40 #[.slice p l.length c, .slice q m.length d] w fun e w' => e = .returned (.bool (decide (l = m))) ∧ St (bs w) [] w' := by
  have z := numbers_c (l.map fun n : Nat => (n : Int)) (m.map fun n : Nat => (n : Int)) p c q d w (ro_I hl) (ro_I hm) (by rw [List.length_map]; exact hn)
  rw [List.length_map, List.length_map] at z
  refine z.mono fun e w' ⟨h1, h2⟩ => ⟨?_, h2⟩
  rw [h1]
  refine congrArg (fun b => Ending.returned (.bool b)) ?_
  have hinj : Function.Injective (fun n : Nat => (n : Int)) := fun a b e => by have e : (a : Int) = (b : Int) := e; omega
  by_cases h : l = m
  · rw [decide_eq_true h, decide_eq_true (by rw [h])]
  · rw [decide_eq_false h, decide_eq_false fun z => h (List.map_inj_right (fun a b e => hinj e) |>.1 z)]
def fdB (e : EvR) (o : Int) (l : List EvR) (k : Nat) : Bool := (l.take k).any fun t => (decide (e.f = t.t) && decide (e.t = t.f)) && decide (t.kd = o)
theorem fd_succ {e t : EvR} {o : Int} {l : List EvR} {k : Nat} (h : l[k]? = some t) : fdB e o l (k + 1) = (fdB e o l k || ((decide (e.f = t.t) && decide (e.t = t.f)) && decide (t.kd = o))) := by
  obtain ⟨hk, rfl⟩ := List.getElem?_eq_some_iff.1 h
  unfold fdB; rw [List.take_succ_eq_append_getElem hk, List.any_append]; simp
def sbB (l r : List Nat) (k : Nat) : Bool := (l.take k).all fun i => decide (i ∈ r)
theorem sb_succ {l r : List Nat} {k i : Nat} (h : l[k]? = some i) : sbB l r (k + 1) = (sbB l r k && decide (i ∈ r)) := by
  obtain ⟨hk, rfl⟩ := List.getElem?_eq_some_iff.1 h
  unfold sbB; rw [List.take_succ_eq_append_getElem hk, List.all_append]; simp
def isB (e : EvR) (l : List EvR) (k : Nat) : Bool := (l.take k).any fun c => sbB e.f c.f e.f.length && sbB e.t c.t e.t.length
theorem is_succ {e c : EvR} {l : List EvR} {k : Nat} (h : l[k]? = some c) : isB e l (k + 1) = (isB e l k || (sbB e.f c.f e.f.length && sbB e.t c.t e.t.length)) := by
  obtain ⟨hk, rfl⟩ := List.getElem?_eq_some_iff.1 h
  unfold isB; rw [List.take_succ_eq_append_getElem hk, List.any_append]; simp
theorem sb_all {l r : List Nat} (h : ∀ i, i ∈ l → i ∈ r) : sbB l r l.length = true := by
  unfold sbB; rw [List.take_length]; exact List.all_eq_true.2 fun i hi => decide_eq_true (h i hi)
theorem fd_all {W H r n m : Nat} {oa ob : List Int} {l l2 : List EvR} {e : EvR} {o : Int} (h : EvP W H r oa ob n m (l.map EvR.m)) (k : EvP W H r ob oa m n (l2.map EvR.m)) (he : e ∈ l) (ho : o = kindM e.t.length e.f.length) : fdB e o l2 l2.length = true := by
  obtain ⟨t, ht, e2⟩ := List.mem_map.1 (ev_back h k (List.mem_map_of_mem he))
  unfold fdB; rw [List.take_length]
  have h1 : t.f = e.t := congrArg EvM.f e2
  have h2 : t.t = e.f := congrArg EvM.t e2
  have h3 : t.kd = kindM e.t.length e.f.length := congrArg EvM.kd e2
  exact List.any_eq_true.2 ⟨t, ht, by rw [h1, h2, h3, ho]; simp⟩
theorem is_all {W H r r2 n m : Nat} {oa ob : List Int} {l l2 : List EvR} {e : EvR} (hr : r ≤ r2) (h : EvP W H r oa ob n m (l.map EvR.m)) (k : EvP W H r2 oa ob n m (l2.map EvR.m)) (he : e ∈ l) : isB e l2 l2.length = true := by
  obtain ⟨e2, he2, h1, h2⟩ := ev_wider hr h k (List.mem_map_of_mem he)
  obtain ⟨t, ht, rfl⟩ := List.mem_map.1 he2
  unfold isB; rw [List.take_length]
  exact List.any_eq_true.2 ⟨t, ht, by rw [sb_all (show ∀ i, i ∈ e.f → i ∈ t.f from h1), sb_all (show ∀ i, i ∈ e.t → i ∈ t.t from h2)]; rfl⟩
theorem rev_at {l : List Mv} {k : Nat} {d : Mv} (h : l[k]? = some d) : ((l.reverse).map Mv.neg)[l.length - 1 - k]? = some d.neg := by
  obtain ⟨hk, rfl⟩ := List.getElem?_eq_some_iff.1 h
  rw [List.getElem?_map, List.getElem?_reverse (by omega), show l.length - 1 - (l.length - 1 - k) = k by omega, List.getElem?_eq_getElem hk]; rfl
theorem mv_bnd {G : Grid} {vs ts : List Span} {lv : Int} {i j r : Nat} {d : Mv} (h : d ∈ movesP G vs ts lv i j r) : -(r : Int) ≤ d.x ∧ d.x ≤ r ∧ -(r : Int) ≤ d.y ∧ d.y ≤ r := by
  unfold movesP movesM movesTo at h
  obtain ⟨n, hn, rfl⟩ := List.mem_map.1 (List.mem_filter.1 h).1
  obtain ⟨h1, h2⟩ := mv_bd (List.mem_range.1 hn)
  unfold mvAt
  dsimp only
  generalize n % (2 * r + 1) = u at *
  generalize n / (2 * r + 1) = v at *
  omega
set_option maxRecDepth 20000 in
set_option maxHeartbeats 32000000 in
theorem CellBack_c (x : MapA) (l2 : List Nat) (p2 : Option Addr) (c2 : Nat) (l3 : List Nat) (p3 : Option Addr) (c3 : Nat) (n far wd : Nat) (w : World) (hx : MapI w x) (hk : MapK x) (hl2_ : RO 1 uC w p2 l2) (h82 : ∀ n, n ∈ l2 → n ≤ 255) (hb2 : l2.length ≤ 9223372036854775807) (hl3_ : RO 1 uC w p3 l3) (h83 : ∀ n, n ∈ l3 → n ≤ 255) (hb3 : l3.length ≤ 9223372036854775807) (hn : n ≤ 255) (hfar : far ≤ 255) (hwd : wd ≤ 255) :
  Calls Try.prog 10 #[x.V, .slice p2 l2.length c2, .slice p3 l3.length c3, .int .u8 (n : Int), .int .u8 (far : Int), .int .u8 (wd : Int)] w fun e w' => e = .returned (.bool true) ∧ St (bs w) [] w' := by
  obtain ⟨G, hG⟩ : ∃ G : Grid, G = mapG x := ⟨_, rfl⟩
  obtain ⟨lv, hlv⟩ : ∃ lv : Int, lv = ((1 + n % 50 : Nat) : Int) := ⟨_, rfl⟩
  have hlv1 : 1 ≤ lv := by omega
  have hlv2 : lv ≤ 1073741824 := by omega
  obtain ⟨r, hr⟩ : ∃ r, far % 5 = r := ⟨_, rfl⟩
  obtain ⟨r2, hr2⟩ : ∃ r2, r + wd % 4 = r2 := ⟨_, rfl⟩
  have hr8 : r ≤ 8 := by omega
  have hr28 : r2 ≤ 8 := by omega
  have hrr : r ≤ r2 := by omega
  refine enter (vs := [_,_,_,_,_,_]) (env := [(0,_), (1,_), (2,_), (3,_), (4,_), (5,_)]) Try.func10 rfl rfl rfl rfl ?_
  refine VC.seq ?_
  refine VC.reg (VO.h rfl<|HO.box (C := #[_,_,_,_]) rfl rfl fun b1 => VO.l (LO.as (.r rfl)) rfl<|VO.nil ?_)
  refine VE.seqN ?_
  refine VC.seq ?_
  refine VC.reg (VO.l (LO.lda (vs := [_,_,_,_]) A63 (.r rfl) (fun _ hw => cells_at hw 0 rfl ⟨_, rfl⟩) rfl) rfl<|VO.h rfl<|HO.callx (xs := [_]) (vs := [_]) C33 ⟨(.r rfl), trivial⟩ (fun w2 hw => field_k G x w2 (hx.keep w2 hw) hk hG) fun fy hfy => VO.l (LO.mv (.r rfl)) rfl<|VO.l (LO.call (xs := [_]) (vs := [_]) C34 ⟨(.r rfl), trivial⟩ (fun w2 hw => level_k lv n w2 hn hlv)) rfl<|VO.l (LO.mv (.r rfl)) rfl<|VO.l (LO.cv ⟨_, Try.underlying5⟩ Try.underlying3 (.r rfl) (cv8 hfar)) rfl<|VO.l (LO.eqv (LO.rem (.r rfl) (.r rfl) (by omega)) (congrArg (Value.int .i64) (show ((far : Nat) : Int).tmod 5 = (r : Int) from by rw [← hr]; rfl))) rfl<|VO.h rfl<|HO.alloc (C := #[_,_,_,_,_,_]) Z26 rfl fun b3 => VO.h0<|HO.st 0 (vs := [_,_,_,_,_,_]) (C' := [_,_,_,_,_,_]) (L' := [_,_,_]) N26 rfl rfl rfl rfl rfl rfl rfl rfl<|VO.l (LO.as (.r rfl)) rfl<|VO.l (LO.as (.r rfl)) rfl<|VO.nil ?_)
  refine VE.seqN ?_
  refine VC.seq ?_
  refine VC.reg (VO.l (LO.fa (r := 0) F63_0 (.r rfl) rfl) rfl<|VO.l (LO.ld O5 (.r rfl) (fun _ hw => cells_at hw 2 rfl ⟨_, rfl⟩)) rfl<|VO.l (LO.fa (r := 1) F63_1 (.r rfl) rfl) rfl<|VO.l (LO.ld O5 (.r rfl) (fun _ hw => cells_at hw 2 rfl ⟨_, rfl⟩)) rfl<|VO.l (LO.mv (.r rfl)) rfl<|VO.l (LO.mv (.r rfl)) rfl<|VO.l (LO.bd (ps := [(_,_), (_,_), (_,_), (_,_)]) (vs := [(_,_), (_,_), (_,_), (_,_)]) (C := [_,_,_,_]) B63  ⟨(.r rfl), (.r rfl), (.r rfl), (.r rfl), trivial⟩ rfl ⟨_, [_], [_,_,_,_], rfl, rfl, rfl, rfl, ⟨_, [_], [_,_,_,_], rfl, rfl, rfl, rfl, ⟨_, [_], [_,_,_,_], rfl, rfl, rfl, rfl, ⟨_, [_], [_,_,_,_], rfl, rfl, rfl, rfl, rfl⟩⟩⟩⟩) rfl<|VO.h rfl<|HO.callx (xs := [_]) (vs := [_]) C33 ⟨(.r rfl), trivial⟩ (fun w2 hw => field_k G (⟨x.w, x.h, p2, c2, l2, p3, c3, l3⟩ : MapA) w2 ⟨hl2_.keep w2 hw, hl3_.keep w2 hw⟩ ⟨hk.w, hk.h, h82, h83, hb2, hb3⟩ hG) fun fz hfz => VO.h rfl<|HO.alloc (C := #[_,_,_,_,_,_]) Z26 rfl fun b6 => VO.h0<|HO.st 0 (vs := [_,_,_,_,_,_]) (C' := [_,_,_,_,_,_]) (L' := [_,_,_,_,_]) N26 rfl rfl rfl rfl rfl rfl rfl rfl<|VO.nil ?_)
  refine VE.seqN ?_
  refine VC.seq ?_
  refine VC.reg (VO.l (LO.lda (vs := [_,_,_,_,_,_]) A26 (.r rfl) (fun _ hw => cells_at hw 2 rfl ⟨_, rfl⟩) rfl) rfl<|VO.l (LO.lda (vs := [_,_,_,_,_,_]) A26 (.r rfl) (fun _ hw => cells_at hw 0 rfl ⟨_, rfl⟩) rfl) rfl<|VO.l (LO.mv (.r rfl)) rfl<|VO.l (LO.mv (.r rfl)) rfl<|VO.h rfl<|HO.callx (xs := [_,_,_,_]) (vs := [_,_,_,_]) C27 ⟨(.r rfl), (.r rfl), (.r rfl), (.r rfl), trivial⟩ (fun w2 hw => Match_k G fy.v fy.p fy.c fz.v fz.p fz.c lv r w2 (RO.of_own hw 3 rfl) (RO.of_own hw 1 rfl) hfy hfz hlv1 hlv2 hr8) fun e1 he1 => VO.h rfl<|HO.lo (LO.mv (.r rfl))<|VO.h rfl<|HO.lo (LO.ex (.r rfl) rfl)<|VO.h rfl<|HO.lo (LO.ex (.r rfl) rfl)<|VO.h rfl<|HO.lo (LO.as (.r rfl))<|VO.h rfl<|HO.lo (LO.as (.r rfl))<|VO.nil ?_)
  refine VE.seqN ?_
  refine VC.seq ?_
  refine VC.reg (VO.l (LO.lda (vs := [_,_,_,_,_,_]) A26 (.r rfl) (fun _ hw => cells_at hw 3 rfl ⟨_, rfl⟩) rfl) rfl<|VO.l (LO.lda (vs := [_,_,_,_,_,_]) A26 (.r rfl) (fun _ hw => cells_at hw 5 rfl ⟨_, rfl⟩) rfl) rfl<|VO.l (LO.mv (.r rfl)) rfl<|VO.l (LO.mv (.r rfl)) rfl<|VO.h rfl<|HO.callx (xs := [_,_,_,_]) (vs := [_,_,_,_]) C27 ⟨(.r rfl), (.r rfl), (.r rfl), (.r rfl), trivial⟩ (fun w2 hw => Match_k G fz.v fz.p fz.c fy.v fy.p fy.c lv r w2 (RO.of_own hw 4 rfl) (RO.of_own hw 6 rfl) hfz hfy hlv1 hlv2 hr8) fun e2 he2 => VO.h rfl<|HO.lo (LO.mv (.r rfl))<|VO.h rfl<|HO.lo (LO.ex (.r rfl) rfl)<|VO.h rfl<|HO.lo (LO.ex (.r rfl) rfl)<|VO.h rfl<|HO.lo (LO.as (.r rfl))<|VO.h rfl<|HO.lo (LO.as (.r rfl))<|VO.nil ?_)
  refine VE.seqN ?_
  refine VC.seq ?_
  refine VC.reg (VO.l (LO.lda (vs := [_,_,_,_,_,_]) A26 (.r rfl) (fun _ hw => cells_at hw 8 rfl ⟨_, rfl⟩) rfl) rfl<|VO.l (LO.lda (vs := [_,_,_,_,_,_]) A26 (.r rfl) (fun _ hw => cells_at hw 6 rfl ⟨_, rfl⟩) rfl) rfl<|VO.l (LO.mv (.r rfl)) rfl<|VO.l (LO.mv (.r rfl)) rfl<|VO.l (LO.mv (.r rfl)) rfl<|VO.l (LO.cv ⟨_, Try.underlying5⟩ Try.underlying3 (.r rfl) (cv8 hwd)) rfl<|VO.l (LO.eqv (LO.rem (.r rfl) (.r rfl) (by omega)) (congrArg (Value.int .i64) (mod_i (m := 4)))) rfl<|VO.l (LO.eqv (LO.add (.r rfl) (.r rfl) (wi (by omega) (by omega))) (congrArg (Value.int .i64) (show (r : Int) + ((wd % 4 : Nat) : Int) = (r2 : Int) by omega))) rfl<|VO.h rfl<|HO.callx (xs := [_,_,_,_]) (vs := [_,_,_,_]) C27 ⟨(.r rfl), (.r rfl), (.r rfl), (.r rfl), trivial⟩ (fun w2 hw => Match_k G fy.v fy.p fy.c fz.v fz.p fz.c lv r2 w2 (RO.of_own hw 9 rfl) (RO.of_own hw 7 rfl) hfy hfz hlv1 hlv2 hr28) fun e3 he3 => VO.h rfl<|HO.lo (LO.mv (.r rfl))<|VO.h rfl<|HO.lo (LO.ex (.r rfl) rfl)<|VO.h rfl<|HO.lo (LO.ex (.r rfl) rfl)<|VO.h rfl<|HO.lo (LO.as (.r rfl))<|VO.h rfl<|HO.lo (LO.as (.r rfl))<|VO.nil ?_)
  refine VE.seqN ?_
  refine VC.seq ?_
  refine VC.seq ?_
  refine VC.reg (VO.l (LO.mv (.r rfl)) rfl<|VO.l (LO.ne (.r rfl) (.r rfl)) rfl<|VO.l (LO.mv (.r rfl)) rfl<|VO.lg rfl rfl (GD.f _) (fun hg => LO.mv (.r rfl)) rfl<|VO.lg rfl rfl (GD.f _) (fun hg => LO.ne (.g hg rfl) (.r rfl)) rfl<|VO.l (LO.pkO (.r rfl) (.r rfl) rfl rfl) rfl<|VO.l (LO.mv (.r rfl)) rfl<|VO.lg rfl rfl (GD.f _) (fun hg => LO.mv (.r rfl)) rfl<|VO.lg rfl rfl (GD.f _) (fun hg => LO.ne (.g hg rfl) (.r rfl)) rfl<|VO.l (LO.pkO (.r rfl) (.r rfl) rfl rfl) rfl<|VO.l (LO.mv (.r rfl)) rfl<|VO.lg rfl rfl (GD.f _) (fun hg => LO.mv (.r rfl)) rfl<|VO.lg rfl rfl (GD.f _) (fun hg => LO.len S46 (.g hg rfl) rfl) rfl<|VO.lg rfl rfl (GD.f _) (fun hg => LO.mv (.r rfl)) rfl<|VO.lg rfl rfl (GD.f _) (fun hg => LO.len S46 (.g hg rfl) rfl) rfl<|VO.lg rfl rfl (GD.f _) (fun hg => LO.ne (.g hg rfl) (.g hg rfl)) rfl<|VO.l (LO.pkO (.r rfl) (.r rfl) rfl rfl) rfl<|VO.nil ?_)
  refine VE.seqN ?_
  refine VC.cond rfl (fun h102 => ?_) (fun h102 => ?_)
  ·
    (exfalso; (have hbl := back_len he1 he2; rw [List.length_map, List.length_map] at hbl; rcases h102 with (((z | z) | z) | z); all_goals first | omega | exact z rfl))
  ·
    refine VC.skip (VE.seqN ?_)
    refine VC.seq ?_
    refine VC.reg (VO.h rfl<|HO.bs (ps := [(_,_), (_,_), (_,_), (_,_), (_,_), (_,_), (_,_), (_,_)]) (vs := [(_,_), (_,_), (_,_), (_,_), (_,_), (_,_), (_,_), (_,_)]) (Z := [_,_,_,_,_,_,_,_]) (C := [_,_,_,_,_,_,_,_]) S40 Z3 N3 ⟨(.r rfl), (.r rfl), (.r rfl), (.r rfl), (.r rfl), (.r rfl), (.r rfl), (.r rfl), trivial⟩ rfl rfl rfl rfl ⟨_, [_], [_,_,_,_,_,_,_,_], rfl, rfl, rfl, rfl, ⟨_, [_], [_,_,_,_,_,_,_,_], rfl, rfl, rfl, rfl, ⟨_, [_], [_,_,_,_,_,_,_,_], rfl, rfl, rfl, rfl, ⟨_, [_], [_,_,_,_,_,_,_,_], rfl, rfl, rfl, rfl, ⟨_, [_], [_,_,_,_,_,_,_,_], rfl, rfl, rfl, rfl, ⟨_, [_], [_,_,_,_,_,_,_,_], rfl, rfl, rfl, rfl, ⟨_, [_], [_,_,_,_,_,_,_,_], rfl, rfl, rfl, rfl, ⟨_, [_], [_,_,_,_,_,_,_,_], rfl, rfl, rfl, rfl, rfl⟩⟩⟩⟩⟩⟩⟩⟩ fun b17 => VO.h rfl<|HO.lo (LO.as (.r rfl))<|VO.nil ?_)
    refine VE.seqN ?_
    refine VC.seq ?_
    refine VC.seq ?_
    refine VC.rebase fun w1 hst1 => ?_
    have hfF : Cells w1 ⟨b3,0, none⟩ [.int .i64 G.x, .int .i64 G.y, .int .i64 G.size, .int .i64 G.wide, .int .i64 G.high, .slice fy.p fy.v.length fy.c] := cells_inv (hst1.inv 12 _ rfl)
    have hsF : Spans w1 fy.p fy.v := RO.of_own hst1 13 rfl
    have hfH : Cells w1 ⟨b6,0, none⟩ [.int .i64 G.x, .int .i64 G.y, .int .i64 G.size, .int .i64 G.wide, .int .i64 G.high, .slice fz.p fz.v.length fz.c] := cells_inv (hst1.inv 10 _ rfl)
    have hsH : Spans w1 fz.p fz.v := RO.of_own hst1 11 rfl
    have hie1 : EvI w1 e1.p e1.l := EvI.of_res (L := [_,_,_,_,_,_,_,_,_,_,_,_]) (selK [7,8,9,0,1,2,3,4,5,6,10,11,12,13,14] rfl rfl _ hst1)
    have hie2 : EvI w1 e2.p e2.l := EvI.of_res (L := [_,_,_,_,_,_,_,_,_,_,_,_]) (selK [4,5,6,0,1,2,3,7,8,9,10,11,12,13,14] rfl rfl _ hst1)
    have hie3 : EvI w1 e3.p e3.l := EvI.of_res (L := [_,_,_,_,_,_,_,_,_,_,_,_]) (selK [1,2,3,0,4,5,6,7,8,9,10,11,12,13,14] rfl rfl _ hst1)
    have hop : Ints w1 (some ⟨b17,0, none⟩) [0,0,3,2,4,6,5,7] := ints_lit _ (cells_inv (hst1.inv 0 _ rfl))
    have hgr := hfy.grid
    have hgdA := he1.good
    have hgdB := he2.good
    have hgdC := he3.good
    have hyn := hfy.n
    have hyl := hfy.le
    have hp1 : (partsL (gW G) (gH G) (mayB fy.v lv)).length ≤ gW G * gH G := parts_len
    have hp2 : (partsL (gW G) (gH G) (mayB fz.v lv)).length ≤ gW G * gH G := parts_len
    have hl1 := ev_lens hgdA (by omega) (by omega)
    have hl2 := ev_lens hgdB (by omega) (by omega)
    have hl3 := ev_lens hgdC (by omega) (by omega)
    have hc1 := ev_count hgdA
    have hc2 := ev_count hgdB
    have hc3 := ev_count hgdC
    rw [List.length_map] at hc1 hc2 hc3
    refine VC.reg (VO.l (LO.mv (.r rfl)) rfl<|VO.l (LO.len S46 (.r rfl) rfl) rfl<|VO.l (LO.mv (.r rfl)) rfl<|VO.nil ?_)
    refine VE.seqN ?_
    refine VC.block ?_
    refine VC.loopK (α := Nat) 0 (fun gx => [(106, .int .i64 (gx : Nat))]) [(13,_), (14,_), (15,_), (16,_), (19,_), (21,_), (23,_), (104,_), (105,_)] (fun gx => []) (fun gx => gx ≤ e1.l.length) (fun gx => e1.l.length - gx) 0 (by exact Nat.zero_le _) (.cons rfl (.cons rfl (.cons rfl (.cons rfl (.cons rfl (.cons rfl (.cons rfl (.cons rfl (.cons rfl (.cons rfl .nil)))))))))) (fun _ h => h) ?_
    rintro k1 hk1
    refine VC.seq ?_
    refine VC.reg (VO.l (LO.lt (.r rfl) (.r rfl)) rfl<|VO.nil ?_)
    refine VE.seqN ?_
    refine VC.seq ?_
    refine VC.cond rfl (fun h107 => ?_) (fun h107 => ?_)
    ·
      obtain ⟨a1, h1e⟩ := get_ex (l := e1.l) (n := k1) (by omega)
      have hm1 : a1.m ∈ e1.l.map EvR.m := List.mem_map_of_mem (List.mem_of_getElem? h1e)
      have hkk := (hgdA.kd a1.m hm1).1
      have hkp := (hgdA.kd a1.m hm1).2
      have hkk : a1.kd = kindM a1.f.length a1.t.length := hkk
      obtain ⟨hko1, hko2⟩ := opp_kind a1.f.length a1.t.length hkp
      obtain ⟨kd, hkd⟩ : ∃ kd : Nat, a1.kd = kd := ⟨a1.kd.toNat, by omega⟩
      have hopk : kindM a1.t.length a1.f.length = [0,0,3,2,4,6,5,7].getD kd 0 := by rw [hko2, ← hkk, hkd, Int.toNat_natCast]
      refine VC.skip (VE.seqN ?_)
      refine VC.seq ?_
      refine VC.block ?_
      refine VC.seq ?_
      refine VC.reg (VO.l (LO.ixs S46 N81 hie1.ev.sm (.r rfl) (.r rfl) rfl (by omega)) rfl<|VO.l (LO.lda (vs := [_,_,_]) A81 (.r rfl) (fun w hw => cells_part (off := 0) ((fun w3 h3 => RO.cel (hie1.keep w3 h3).ev h1e) w hw) ⟨_, rfl⟩) rfl) rfl<|VO.h rfl<|HO.alloc (C := #[_,_,_]) Z81 rfl fun b18 => VO.h0<|HO.st 0 (vs := [_,_,_]) (C' := [_,_,_]) (L' := [_]) N81 rfl rfl rfl rfl rfl rfl rfl rfl<|VO.nil ?_)
      refine VE.seqN ?_
      refine VC.seq ?_
      refine VC.seq ?_
      refine VC.reg (VO.l (LO.fa (r := 0) F81_0 (.r rfl) rfl) rfl<|VO.l (LO.ld O3 (.r rfl) (fun _ hw => cells_at hw 0 rfl ⟨_, rfl⟩)) rfl<|VO.l (LO.lt (.r rfl) (.r rfl)) rfl<|VO.l (LO.mv (.r rfl)) rfl<|VO.lg rfl rfl (GD.f _) (fun hg => LO.fa (r := 0) F81_0 (.r rfl) rfl) rfl<|VO.lg rfl rfl (GD.f _) (fun hg => LO.ld O3 (.g hg rfl) (fun _ hw => cells_at hw 0 rfl ⟨_, rfl⟩)) rfl<|VO.lg rfl rfl (GD.f _) (fun hg => LO.gt (.g hg rfl) (.r rfl)) rfl<|VO.l (LO.pkO (.r rfl) (.r rfl) rfl rfl) rfl<|VO.nil ?_)
      refine VE.seqN ?_
      refine VC.cond rfl (fun h117 => ?_) (fun h117 => ?_)
      ·
        (exfalso; omega)
      ·
        refine VC.skip (VE.seqN ?_)
        refine VC.seq ?_
        refine VC.reg (VO.l (LO.as (.r rfl)) rfl<|VO.l (LO.as (.r rfl)) rfl<|VO.nil ?_)
        refine VE.seqN ?_
        refine VC.seq ?_
        refine VC.seq ?_
        refine VC.reg (VO.l (LO.mv (.r rfl)) rfl<|VO.l (LO.len S46 (.r rfl) rfl) rfl<|VO.l (LO.mv (.r rfl)) rfl<|VO.nil ?_)
        refine VE.seqN ?_
        refine VC.block ?_
        refine VC.loopK (α := Nat) 0 (fun gx => [(26, .bool (fdB a1 (kindM a1.t.length a1.f.length) e2.l gx)), (120, .int .i64 (gx : Nat))]) [(13,_), (14,_), (15,_), (16,_), (19,_), (21,_), (23,_), (25,_), (27,_), (104,_), (105,_), (106,_), (118,_), (119,_)] (fun gx => []) (fun gx => gx ≤ e2.l.length) (fun gx => e2.l.length - gx) 0 (by exact Nat.zero_le _) (.cons rfl (.cons rfl (.cons rfl (.cons rfl (.cons rfl (.cons rfl (.cons rfl (.cons rfl (.cons rfl (.cons rfl (.cons rfl (.cons rfl (.cons rfl (.cons rfl (.cons rfl (.cons rfl .nil)))))))))))))))) (fun _ h => h) ?_
        rintro k2 hk2
        refine VC.seq ?_
        refine VC.reg (VO.l (LO.lt (.r rfl) (.r rfl)) rfl<|VO.nil ?_)
        refine VE.seqN ?_
        refine VC.seq ?_
        refine VC.cond rfl (fun h121 => ?_) (fun h121 => ?_)
        ·
          obtain ⟨a2, h2e⟩ := get_ex (l := e2.l) (n := k2) (by omega)
          refine VC.skip (VE.seqN ?_)
          refine VC.seq ?_
          refine VC.block ?_
          refine VC.seq ?_
          refine VC.reg (VO.l (LO.ixs S46 N81 hie2.ev.sm (.r rfl) (.r rfl) rfl (by omega)) rfl<|VO.l (LO.lda (vs := [_,_,_]) A81 (.r rfl) (fun w hw => cells_part (off := 0) ((fun w3 h3 => RO.cel (hie2.keep w3 h3).ev h2e) w hw) ⟨_, rfl⟩) rfl) rfl<|VO.h rfl<|HO.alloc (C := #[_,_,_]) Z81 rfl fun b20 => VO.h0<|HO.st 0 (vs := [_,_,_]) (C' := [_,_,_]) (L' := [_,_]) N81 rfl rfl rfl rfl rfl rfl rfl rfl<|VO.nil ?_)
          refine VE.seqN ?_
          refine VC.draw mixed (LL.l (LO.mv (.r rfl)) rfl<|LL.l (LO.mv (.r rfl)) rfl<|LL.lg rfl rfl (GD.f _) (fun hg => LO.fa (r := 1) F81_1 (.r rfl) rfl) rfl<|LL.lg rfl rfl (GD.f _) (fun hg => LO.ld O40 (.g hg rfl) (fun _ hw => cells_at hw 1 rfl ⟨_, rfl⟩)) rfl<|LL.lg rfl rfl (GD.f _) (fun hg => LO.fa (r := 2) F81_2 (.r rfl) rfl) rfl<|LL.lg rfl rfl (GD.f _) (fun hg => LO.ld O40 (.g hg rfl) (fun _ hw => cells_at hw 0 rfl ⟨_, rfl⟩)) rfl<|LL.lg rfl rfl (GD.f _) (fun hg => LO.call (xs := [_,_]) (vs := [_,_]) C40 ⟨(.g hg rfl), (.g hg rfl), trivial⟩ (fun w2 hw => numbers_k a1.f a2.t a1.fp a1.fc a2.tp a2.tc w2 ((hie1.keep w2 hw).f a1 (List.mem_of_getElem? h1e)) ((hie2.keep w2 hw).t a2 (List.mem_of_getElem? h2e)) (hl1 a1 (List.mem_of_getElem? h1e)).1)) rfl<|LL.lg rfl rfl (GD.f _) (fun hg => LO.mv (.g hg rfl)) rfl<|LL.lg rfl rfl (GD.nt _ _) (fun hg => LO.fa (r := 2) F81_2 (.r rfl) rfl) rfl<|LL.lg rfl rfl (GD.nt _ _) (fun hg => LO.ld O40 (.g hg rfl) (fun _ hw => cells_at hw 1 rfl ⟨_, rfl⟩)) rfl<|LL.lg rfl rfl (GD.nt _ _) (fun hg => LO.fa (r := 1) F81_1 (.r rfl) rfl) rfl<|LL.lg rfl rfl (GD.nt _ _) (fun hg => LO.ld O40 (.g hg rfl) (fun _ hw => cells_at hw 0 rfl ⟨_, rfl⟩)) rfl<|LL.lg rfl rfl (GD.nt _ _) (fun hg => LO.call (xs := [_,_]) (vs := [_,_]) C40 ⟨(.g hg rfl), (.g hg rfl), trivial⟩ (fun w2 hw => numbers_k a1.t a2.f a1.tp a1.tc a2.fp a2.fc w2 ((hie1.keep w2 hw).t a1 (List.mem_of_getElem? h1e)) ((hie2.keep w2 hw).f a2 (List.mem_of_getElem? h2e)) (hl1 a1 (List.mem_of_getElem? h1e)).2)) rfl<|LL.lg rfl rfl (GD.f _) (fun hg => LO.pkA (.g hg rfl) rfl (and_e hg) (.r rfl)) rfl<|LL.lg rfl rfl (GD.f _) (fun hg => LO.mv (.g hg rfl)) rfl<|LL.lg rfl rfl (GD.nt _ _) (fun hg => LO.fa (r := 0) F81_0 (.r rfl) rfl) rfl<|LL.lg rfl rfl (GD.nt _ _) (fun hg => LO.ld O3 (.g hg rfl) (fun _ hw => cells_at hw 0 rfl ⟨_, rfl⟩)) rfl<|LL.lg rfl rfl (GD.nt _ _) (fun hg => LO.mv (.r rfl)) rfl<|LL.lg rfl rfl (GD.nt _ _) (fun hg => LO.fa (r := 0) F81_0 (.r rfl) rfl) rfl<|LL.lg rfl rfl (GD.nt _ _) (fun hg => LO.ld O3 (.g hg rfl) (fun _ hw => cells_at hw 1 rfl ⟨_, rfl⟩)) rfl<|LL.lg rfl rfl (GD.nt _ _) (fun hg => LO.ixs S40 N3 hop.some (.g hg rfl) (.g hg rfl) (j := kd) hkd (show kd < 8 by omega)) rfl<|LL.lg rfl rfl (GD.nt _ _) (fun hg => LO.ld O3 (.g hg rfl) (fun w hw => cells_part (off := 0) ((hop.at (j := kd) (show kd < 8 by omega)) w hw) ⟨_, rfl⟩)) rfl<|LL.lg rfl rfl (GD.nt _ _) (fun hg => LO.eq (.g hg rfl) (.g hg rfl)) rfl<|LL.lg rfl rfl (GD.f _) (fun hg => LO.pkA (.g hg rfl) rfl (and_e hg) (.r rfl)) rfl<|LL.l (LO.pkO (.r rfl) (.r rfl) rfl rfl) rfl<|LL.l (LO.as (.r rfl)) rfl<|LL.nil) (by kernel_rfl) ?_
          refine VE.inN (VE.seqN ?_)
          refine VC.reg (VO.l (LO.add (.r rfl) (.r rfl) (wi (by omega) (by omega))) rfl<|VO.l (LO.mv (.r rfl)) rfl<|VO.nil ?_)
          refine VE.thenN fun a w ha hw => ⟨k2 + 1, (by omega), (by omega), ha.sub (.cons (congrArg (fun z => some (Value.bool z)) (by rw [fd_succ h2e, hopk])) (.cons rfl (.cons rfl (.cons rfl (.cons rfl (.cons rfl (.cons rfl (.cons rfl (.cons rfl (.cons rfl (.cons rfl (.cons rfl (.cons rfl (.cons rfl (.cons rfl (.cons rfl .nil)))))))))))))))), hw.sel [1] rfl⟩
        ·
          have hk2e : k2 = e2.l.length := by omega
          subst hk2e
          rw [fd_all he1 he2 (List.mem_of_getElem? h1e) rfl]
          refine VC.exit (VE.thenX (VE.thenX (VE.inX (VE.seqN ?_))))
          refine VC.seq ?_
          refine VC.seq ?_
          refine VC.reg (VO.l (LO.mv (.r rfl)) rfl<|VO.l (LO.len S46 (.r rfl) rfl) rfl<|VO.l (LO.mv (.r rfl)) rfl<|VO.nil ?_)
          refine VE.seqN ?_
          refine VC.block ?_
          refine VC.loopK (α := Nat) 0 (fun gx => [(27, .bool (isB a1 e3.l gx)), (152, .int .i64 (gx : Nat))]) [(13,_), (14,_), (15,_), (16,_), (19,_), (21,_), (23,_), (25,_), (26,_), (104,_), (105,_), (106,_), (150,_), (151,_)] (fun gx => []) (fun gx => gx ≤ e3.l.length) (fun gx => e3.l.length - gx) 0 (by exact Nat.zero_le _) (.cons rfl (.cons rfl (.cons rfl (.cons rfl (.cons rfl (.cons rfl (.cons rfl (.cons rfl (.cons rfl (.cons rfl (.cons rfl (.cons rfl (.cons rfl (.cons rfl (.cons rfl (.cons rfl .nil)))))))))))))))) (fun _ h => h) ?_
          rintro k3 hk3
          refine VC.seq ?_
          refine VC.reg (VO.l (LO.lt (.r rfl) (.r rfl)) rfl<|VO.nil ?_)
          refine VE.seqN ?_
          refine VC.seq ?_
          refine VC.cond rfl (fun h153 => ?_) (fun h153 => ?_)
          ·
            obtain ⟨a3, h3e⟩ := get_ex (l := e3.l) (n := k3) (by omega)
            have hlf := hl1 a1 (List.mem_of_getElem? h1e)
            refine VC.skip (VE.seqN ?_)
            refine VC.seq ?_
            refine VC.block ?_
            refine VC.seq ?_
            refine VC.reg (VO.l (LO.ixs S46 N81 hie3.ev.sm (.r rfl) (.r rfl) rfl (by omega)) rfl<|VO.l (LO.lda (vs := [_,_,_]) A81 (.r rfl) (fun w hw => cells_part (off := 0) ((fun w3 h3 => RO.cel (hie3.keep w3 h3).ev h3e) w hw) ⟨_, rfl⟩) rfl) rfl<|VO.h rfl<|HO.alloc (C := #[_,_,_]) Z81 rfl fun b22 => VO.h0<|HO.st 0 (vs := [_,_,_]) (C' := [_,_,_]) (L' := [_,_]) N81 rfl rfl rfl rfl rfl rfl rfl rfl<|VO.nil ?_)
            refine VE.seqN ?_
            refine VC.seq ?_
            refine VC.reg (VO.l (LO.as (.r rfl)) rfl<|VO.nil ?_)
            refine VE.seqN ?_
            refine VC.seq ?_
            refine VC.seq ?_
            refine VC.reg (VO.l (LO.fa (r := 1) F81_1 (.r rfl) rfl) rfl<|VO.l (LO.ld O40 (.r rfl) (fun _ hw => cells_at hw 1 rfl ⟨_, rfl⟩)) rfl<|VO.l (LO.len S40 (.r rfl) rfl) rfl<|VO.l (LO.mv (.r rfl)) rfl<|VO.nil ?_)
            refine VE.seqN ?_
            refine VC.block ?_
            refine VC.loopK (α := Nat) 0 (fun gx => [(32, .bool (sbB a1.f a3.f gx)), (159, .int .i64 (gx : Nat))]) [(13,_), (14,_), (15,_), (16,_), (19,_), (21,_), (23,_), (25,_), (26,_), (27,_), (31,_), (104,_), (105,_), (106,_), (150,_), (151,_), (152,_), (157,_), (158,_)] (fun gx => []) (fun gx => gx ≤ a1.f.length) (fun gx => a1.f.length - gx) 0 (by exact Nat.zero_le _) (.cons rfl (.cons rfl (.cons rfl (.cons rfl (.cons rfl (.cons rfl (.cons rfl (.cons rfl (.cons rfl (.cons rfl (.cons rfl (.cons rfl (.cons rfl (.cons rfl (.cons rfl (.cons rfl (.cons rfl (.cons rfl (.cons rfl (.cons rfl (.cons rfl .nil))))))))))))))))))))) (fun _ h => h) ?_
            rintro m hm
            refine VC.seq ?_
            refine VC.reg (VO.l (LO.lt (.r rfl) (.r rfl)) rfl<|VO.nil ?_)
            refine VE.seqN ?_
            refine VC.seq ?_
            refine VC.cond rfl (fun h160 => ?_) (fun h160 => ?_)
            ·
              obtain ⟨im, him⟩ := get_ex (l := a1.f) (n := m) (by omega)
              refine VC.skip (VE.seqN ?_)
              refine VC.seq ?_
              refine VC.block ?_
              refine VC.seq ?_
              refine VC.reg (VO.l (LO.ixs S40 N3 (hie1.f a1 (List.mem_of_getElem? h1e)).sm (.r rfl) (.r rfl) rfl (by omega)) rfl<|VO.l (LO.ld O3 (.r rfl) (fun w hw => cells_part (off := 0) ((fun w3 h3 => RO.cel ((hie1.keep w3 h3).f a1 (List.mem_of_getElem? h1e)) him) w hw) ⟨_, rfl⟩)) rfl<|VO.l (LO.as (.r rfl)) rfl<|VO.nil ?_)
              refine VE.seqN ?_
              refine VC.reg (VO.l (LO.mv (.r rfl)) rfl<|VO.l (LO.mv (.r rfl)) rfl<|VO.lg rfl rfl (GD.t _) (fun hg => LO.fa (r := 1) F81_1 (.r rfl) rfl) rfl<|VO.lg rfl rfl (GD.t _) (fun hg => LO.ld O40 (.g hg rfl) (fun _ hw => cells_at hw 0 rfl ⟨_, rfl⟩)) rfl<|VO.lg rfl rfl (GD.t _) (fun hg => LO.mv (.r rfl)) rfl<|VO.lg rfl rfl (GD.t _) (fun hg => LO.call (xs := [_,_]) (vs := [_,_]) C41 ⟨(.g hg rfl), (.g hg rfl), trivial⟩ (fun w2 hw => member_k a3.f a3.fp a3.fc im w2 ((hie3.keep w2 hw).f a3 (List.mem_of_getElem? h3e)) (hl3 a3 (List.mem_of_getElem? h3e)).1)) rfl<|VO.l (LO.pkA (.r rfl) rfl rfl (.r rfl)) rfl<|VO.l (LO.as (.r rfl)) rfl<|VO.nil ?_)
              refine VE.inN (VE.seqN ?_)
              refine VC.reg (VO.l (LO.add (.r rfl) (.r rfl) (wi (by omega) (by omega))) rfl<|VO.l (LO.mv (.r rfl)) rfl<|VO.nil ?_)
              refine VE.thenN fun a w ha hw => ⟨m + 1, (by omega), (by omega), ha.sub (.cons (congrArg (fun z => some (Value.bool z)) (sb_succ him).symm) (.cons rfl (.cons rfl (.cons rfl (.cons rfl (.cons rfl (.cons rfl (.cons rfl (.cons rfl (.cons rfl (.cons rfl (.cons rfl (.cons rfl (.cons rfl (.cons rfl (.cons rfl (.cons rfl (.cons rfl (.cons rfl (.cons rfl (.cons rfl .nil))))))))))))))))))))), hw⟩
            ·
              have hme : m = a1.f.length := by omega
              subst hme
              refine VC.exit (VE.thenX (VE.thenX (VE.inX (VE.seqN ?_))))
              refine VC.seq ?_
              refine VC.seq ?_
              refine VC.reg (VO.l (LO.fa (r := 2) F81_2 (.r rfl) rfl) rfl<|VO.l (LO.ld O40 (.r rfl) (fun _ hw => cells_at hw 1 rfl ⟨_, rfl⟩)) rfl<|VO.l (LO.len S40 (.r rfl) rfl) rfl<|VO.l (LO.mv (.r rfl)) rfl<|VO.nil ?_)
              refine VE.seqN ?_
              refine VC.block ?_
              refine VC.loopK (α := Nat × Bool) 0 (fun gx => [(32, .bool gx.2), (174, .int .i64 (gx.1 : Nat))]) [(13,_), (14,_), (15,_), (16,_), (19,_), (21,_), (23,_), (25,_), (26,_), (27,_), (31,_), (104,_), (105,_), (106,_), (150,_), (151,_), (152,_), (172,_), (173,_)] (fun gx => []) (fun gx => gx.1 ≤ a1.t.length ∧ gx.2 = (sbB a1.f a3.f a1.f.length && sbB a1.t a3.t gx.1)) (fun gx => a1.t.length - gx.1) (0, (sbB a1.f a3.f a1.f.length)) (by exact ⟨Nat.zero_le _, by simp [sbB]⟩) (.cons rfl (.cons rfl (.cons rfl (.cons rfl (.cons rfl (.cons rfl (.cons rfl (.cons rfl (.cons rfl (.cons rfl (.cons rfl (.cons rfl (.cons rfl (.cons rfl (.cons rfl (.cons rfl (.cons rfl (.cons rfl (.cons rfl (.cons rfl (.cons rfl .nil))))))))))))))))))))) (fun _ h => h) ?_
              rintro ⟨m, bb⟩ ⟨hm, hbb⟩
              show VC _ _ _ _ _ ([(32, .bool bb), (174, .int .i64 (m : Nat))] ++ _) ([] ++ _) _ _
              dsimp only at hm hbb
              refine VC.seq ?_
              refine VC.reg (VO.l (LO.lt (.r rfl) (.r rfl)) rfl<|VO.nil ?_)
              refine VE.seqN ?_
              refine VC.seq ?_
              refine VC.cond rfl (fun h175 => ?_) (fun h175 => ?_)
              ·
                obtain ⟨im, him⟩ := get_ex (l := a1.t) (n := m) (by omega)
                refine VC.skip (VE.seqN ?_)
                refine VC.seq ?_
                refine VC.block ?_
                refine VC.seq ?_
                refine VC.reg (VO.l (LO.ixs S40 N3 (hie1.t a1 (List.mem_of_getElem? h1e)).sm (.r rfl) (.r rfl) rfl (by omega)) rfl<|VO.l (LO.ld O3 (.r rfl) (fun w hw => cells_part (off := 0) ((fun w3 h3 => RO.cel ((hie1.keep w3 h3).t a1 (List.mem_of_getElem? h1e)) him) w hw) ⟨_, rfl⟩)) rfl<|VO.l (LO.as (.r rfl)) rfl<|VO.nil ?_)
                refine VE.seqN ?_
                refine VC.reg (VO.l (LO.mv (.r rfl)) rfl<|VO.l (LO.mv (.r rfl)) rfl<|VO.lg rfl rfl (GD.t _) (fun hg => LO.fa (r := 2) F81_2 (.r rfl) rfl) rfl<|VO.lg rfl rfl (GD.t _) (fun hg => LO.ld O40 (.g hg rfl) (fun _ hw => cells_at hw 0 rfl ⟨_, rfl⟩)) rfl<|VO.lg rfl rfl (GD.t _) (fun hg => LO.mv (.r rfl)) rfl<|VO.lg rfl rfl (GD.t _) (fun hg => LO.call (xs := [_,_]) (vs := [_,_]) C41 ⟨(.g hg rfl), (.g hg rfl), trivial⟩ (fun w2 hw => member_k a3.t a3.tp a3.tc im w2 ((hie3.keep w2 hw).t a3 (List.mem_of_getElem? h3e)) (hl3 a3 (List.mem_of_getElem? h3e)).2)) rfl<|VO.l (LO.pkA (.r rfl) rfl rfl (.r rfl)) rfl<|VO.l (LO.as (.r rfl)) rfl<|VO.nil ?_)
                refine VE.inN (VE.seqN ?_)
                refine VC.reg (VO.l (LO.add (.r rfl) (.r rfl) (wi (by omega) (by omega))) rfl<|VO.l (LO.mv (.r rfl)) rfl<|VO.nil ?_)
                refine VE.thenN fun a w ha hw => ⟨(m + 1, (bb && decide (im ∈ a3.t))), ⟨by dsimp only; omega, by dsimp only; rw [sb_succ him, hbb, Bool.and_assoc]⟩, (by dsimp only; omega), ha.sub (.cons rfl (.cons rfl (.cons rfl (.cons rfl (.cons rfl (.cons rfl (.cons rfl (.cons rfl (.cons rfl (.cons rfl (.cons rfl (.cons rfl (.cons rfl (.cons rfl (.cons rfl (.cons rfl (.cons rfl (.cons rfl (.cons rfl (.cons rfl (.cons rfl .nil))))))))))))))))))))), hw⟩
              ·
                have hme : m = a1.t.length := by omega
                subst hme
                refine VC.exit (VE.thenX (VE.thenX (VE.inX (VE.seqN ?_))))
                refine VC.reg (VO.l (LO.mv (.r rfl)) rfl<|VO.l (LO.mv (.r rfl)) rfl<|VO.lg rfl rfl (GD.f _) (fun hg => LO.mv (.r rfl)) rfl<|VO.l (LO.pkO (.r rfl) (.r rfl) rfl rfl) rfl<|VO.l (LO.as (.r rfl)) rfl<|VO.nil ?_)
                refine VE.inN (VE.seqN ?_)
                refine VC.reg (VO.l (LO.add (.r rfl) (.r rfl) (wi (by omega) (by omega))) rfl<|VO.l (LO.mv (.r rfl)) rfl<|VO.nil ?_)
                refine VE.thenN fun a w ha hw => ⟨k3 + 1, (by omega), (by omega), ha.sub (.cons (congrArg (fun z => some (Value.bool z)) (by rw [is_succ h3e, hbb])) (.cons rfl (.cons rfl (.cons rfl (.cons rfl (.cons rfl (.cons rfl (.cons rfl (.cons rfl (.cons rfl (.cons rfl (.cons rfl (.cons rfl (.cons rfl (.cons rfl (.cons rfl .nil)))))))))))))))), hw.sel [1] rfl⟩
          ·
            have hk3e : k3 = e3.l.length := by omega
            subst hk3e
            rw [is_all hrr he1 he3 (List.mem_of_getElem? h1e)]
            refine VC.exit (VE.thenX (VE.thenX (VE.inX (VE.seqN ?_))))
            refine VC.seq ?_
            refine VC.seq ?_
            refine VC.reg (VO.l (LO.mv (.r rfl)) rfl<|VO.l (LO.not (.r rfl)) rfl<|VO.l (LO.mv (.r rfl)) rfl<|VO.lg rfl rfl (GD.f _) (fun hg => LO.mv (.r rfl)) rfl<|VO.lg rfl rfl (GD.f _) (fun hg => LO.not (.g hg rfl)) rfl<|VO.l (LO.pkO (.r rfl) (.r rfl) rfl rfl) rfl<|VO.nil ?_)
            refine VE.seqN ?_
            refine VC.cond rfl (fun h196 => ?_) (fun h196 => ?_)
            ·
              (exfalso; simp at h196)
            ·
              refine VC.skip (VE.seqN ?_)
              refine VC.seq ?_
              refine VC.seq ?_
              refine VC.reg (VO.l (LO.fa (r := 0) F81_0 (.r rfl) rfl) rfl<|VO.l (LO.ld O3 (.r rfl) (fun _ hw => cells_at hw 0 rfl ⟨_, rfl⟩)) rfl<|VO.l (LO.ne (.r rfl) (.r rfl)) rfl<|VO.nil ?_)
              refine VE.seqN ?_
              refine VC.cond rfl (fun h199 => ?_) (fun h199 => ?_)
              ·
                refine VC.exit (VE.thenX (VE.inX (VE.seqN ?_)))
                refine VC.reg (VO.l (LO.add (.r rfl) (.r rfl) (wi (by omega) (by omega))) rfl<|VO.l (LO.mv (.r rfl)) rfl<|VO.nil ?_)
                refine VE.thenN fun a w ha hw => ⟨k1 + 1, (by omega), (by omega), ha.sub (.cons rfl (.cons rfl (.cons rfl (.cons rfl (.cons rfl (.cons rfl (.cons rfl (.cons rfl (.cons rfl (.cons rfl .nil)))))))))), hw.sel [] rfl⟩
              ·
                have hkd4 : a1.kd = 4 := Classical.not_not.1 h199
                obtain ⟨hf1, ht1⟩ := kind_one (hkk.symm.trans hkd4)
                obtain ⟨i, hfi⟩ := one_nat hf1
                obtain ⟨j, htj⟩ := one_nat ht1
                have h0f : a1.f[0]? = some i := by rw [hfi]; rfl
                have h0t : a1.t[0]? = some j := by rw [htj]; rfl
                have hi2 := (hgdA.fs a1.m hm1).2 i (by show i ∈ a1.f; rw [hfi]; simp)
                have hj2 := (hgdA.ts a1.m hm1).2 j (by show j ∈ a1.t; rw [htj]; simp)
                refine VC.skip (VE.seqN ?_)
                refine VC.seq ?_
                refine VC.drawF (G := MvL) (fun y => [(37, .slice y.p y.l.length y.c), (38, .int .i64 0)]) [(13,_), (14,_), (15,_), (16,_), (19,_), (21,_), (23,_), (104,_), (105,_), (106,_), (25,_)] (fun y => [own 85 2 y.p y.c (y.l.map Mv.cells)]) [_] (fun y => MvE G fy.v fz.v lv i j r y.l) 7 [some 0, some 0, some 0, some 0, some 0, some 0, some 0, some 0, some 0, some 0, some 0, some 0, none, none, none, none, none, none] mixed (by kernel_rfl) (LX.l (fun _ hJ => LO.lda (vs := [_,_,_,_,_,_]) A26 (.r rfl) (cells_keep (sub_cells (off := 0) hfF ⟨_, rfl⟩)) rfl) rfl<|LX.l (fun _ hJ => LO.lda (vs := [_,_,_,_,_,_]) A26 (.r rfl) (cells_keep (sub_cells (off := 0) hfH ⟨_, rfl⟩)) rfl) rfl<|LX.l (fun _ hJ => LO.mv (.r rfl)) rfl<|LX.l (fun _ hJ => LO.mv (.r rfl)) rfl<|LX.l (fun _ hJ => LO.fa (r := 1) F81_1 (.r rfl) rfl) rfl<|LX.l (fun _ hJ => LO.ld O40 (.r rfl) (fun _ hw => cells_at (hJ _ hw) 0 rfl ⟨_, rfl⟩)) rfl<|LX.l (fun _ hJ => LO.ixs S40 N3 (hie1.f a1 (List.mem_of_getElem? h1e)).sm (.r rfl) (.r rfl) (j := 0) rfl (by omega)) rfl<|LX.l (fun _ hJ => LO.ld O3 (.r rfl) (fun w hw => cells_part (off := 0) ((fun w3 h3 => RO.cel ((hie1.keep w3 h3).f a1 (List.mem_of_getElem? h1e)) h0f) w (hJ _ hw)) ⟨_, rfl⟩)) rfl<|LX.l (fun _ hJ => LO.fa (r := 2) F81_2 (.r rfl) rfl) rfl<|LX.l (fun _ hJ => LO.ld O40 (.r rfl) (fun _ hw => cells_at (hJ _ hw) 0 rfl ⟨_, rfl⟩)) rfl<|LX.l (fun _ hJ => LO.ixs S40 N3 (hie1.t a1 (List.mem_of_getElem? h1e)).sm (.r rfl) (.r rfl) (j := 0) rfl (by omega)) rfl<|LX.l (fun _ hJ => LO.ld O3 (.r rfl) (fun w hw => cells_part (off := 0) ((fun w3 h3 => RO.cel ((hie1.keep w3 h3).t a1 (List.mem_of_getElem? h1e)) h0t) w (hJ _ hw)) ⟨_, rfl⟩)) rfl<|LX.s<|LX.s<|LX.s<|LX.s<|LX.s<|LX.s<|LX.nil) (fun hf => (HE.mk [12] (by kernel_rfl) rfl ⟨(HEo.op rfl rfl<|HO.callx (xs := [_,_,_,_,_,_]) (vs := [_,_,_,_,_,_]) C30 ⟨(.r rfl), (.r rfl), (.r rfl), (.r rfl), (.r rfl), (.r rfl), trivial⟩ (fun w2 hw => Moves_k G fy.v fy.p fy.c fz.v fz.p fz.c lv r i j w2 (hsF.keep w2 hw) (hsH.keep w2 hw) hfy hfz hlv1 hlv2 hr8 hi2 hj2) fun mv1 hmv1 => ⟨selK (L1 := [_]) [1] rfl rfl, (HE.mk [13] (by kernel_rfl) rfl ⟨(HEo.op rfl rfl<|HO.lo (LO.mv (.r rfl))<|⟨selK (L1 := [_]) [1] rfl rfl, (HE.mk [14,15] (by kernel_rfl) rfl ⟨(HEo.op rfl rfl<|HO.lo (LO.ex (.r rfl) rfl)<|⟨selK (L1 := [_]) [1] rfl rfl, (HE.mk [15,16] (by kernel_rfl) rfl ⟨(HEo.op rfl rfl<|HO.lo (LO.ex (.r rfl) rfl)<|⟨selK (L1 := [_]) [1] rfl rfl, (HE.mk [16] (by kernel_rfl) rfl ⟨(HEo.op rfl rfl<|HO.lo (LO.as (.r rfl))<|⟨selK (L1 := [_]) [1] rfl rfl, (HE.mk [17] (by kernel_rfl) rfl ⟨(HEo.op rfl rfl<|HO.lo (LO.as (.r rfl))<|⟨selK (L1 := [_]) [1] rfl rfl, (HE.fin (by kernel_rfl) (VE.weak (.cons rfl (.cons rfl (.cons rfl (.cons rfl (.cons rfl (.cons rfl (.cons rfl (.cons rfl (.cons rfl (.cons rfl (.cons rfl (.cons rfl (.cons rfl .nil))))))))))))) (selK (L1 := [_] ++ [_]) [0,1] rfl rfl) (hf mv1 hmv1)))⟩), trivial⟩)⟩), trivial⟩)⟩), (HEo.op rfl rfl<|HO.lo (LO.as (.r rfl))<|⟨selK (L1 := [_]) [1] rfl rfl, (HE.mk [15] (by kernel_rfl) rfl ⟨(HEo.op rfl rfl<|HO.lo (LO.ex (.r rfl) rfl)<|⟨selK (L1 := [_]) [1] rfl rfl, (HE.mk [17] (by kernel_rfl) rfl ⟨(HEo.op rfl rfl<|HO.lo (LO.as (.r rfl))<|⟨selK (L1 := [_]) [1] rfl rfl, (HE.fin (by kernel_rfl) (VE.weak (.cons rfl (.cons rfl (.cons rfl (.cons rfl (.cons rfl (.cons rfl (.cons rfl (.cons rfl (.cons rfl (.cons rfl (.cons rfl (.cons rfl (.cons rfl .nil))))))))))))) (selK (L1 := [_] ++ [_]) [0,1] rfl rfl) (hf mv1 hmv1)))⟩), trivial⟩)⟩), trivial⟩)⟩), trivial⟩)⟩), (HEo.op rfl rfl<|HO.lo (LO.ex (.r rfl) rfl)<|⟨selK (L1 := [_]) [1] rfl rfl, (HE.mk [14] (by kernel_rfl) rfl ⟨(HEo.op rfl rfl<|HO.lo (LO.ex (.r rfl) rfl)<|⟨selK (L1 := [_]) [1] rfl rfl, (HE.mk [16] (by kernel_rfl) rfl ⟨(HEo.op rfl rfl<|HO.lo (LO.as (.r rfl))<|⟨selK (L1 := [_]) [1] rfl rfl, (HE.mk [17] (by kernel_rfl) rfl ⟨(HEo.op rfl rfl<|HO.lo (LO.as (.r rfl))<|⟨selK (L1 := [_]) [1] rfl rfl, (HE.fin (by kernel_rfl) (VE.weak (.cons rfl (.cons rfl (.cons rfl (.cons rfl (.cons rfl (.cons rfl (.cons rfl (.cons rfl (.cons rfl (.cons rfl (.cons rfl (.cons rfl (.cons rfl .nil))))))))))))) (selK (L1 := [_] ++ [_]) [0,1] rfl rfl) (hf mv1 hmv1)))⟩), trivial⟩)⟩), trivial⟩)⟩), trivial⟩)⟩), trivial⟩)⟩), trivial⟩)⟩), trivial⟩)) (fun y hy => ?_)

                obtain ⟨mv1, hmv1, rfl⟩ : ∃ mv1 : MvL, MvE G fy.v fz.v lv i j r mv1.l ∧ mv1 = y := ⟨y, hy, rfl⟩
                have hml1 := hmv1.len
                refine VE.seqN ?_
                refine VC.seq ?_
                refine VC.drawF (G := MvL) (fun y => [(39, .slice y.p y.l.length y.c), (40, .int .i64 0)]) [(13,_), (14,_), (15,_), (16,_), (19,_), (21,_), (23,_), (104,_), (105,_), (106,_), (37,_), (38,_)] (fun y => [own 85 2 y.p y.c (y.l.map Mv.cells)]) [_,_] (fun y => MvE G fz.v fy.v lv j i r y.l) 7 [some 0, some 0, some 0, some 0, some 0, some 0, some 0, some 0, some 0, some 0, some 0, some 0, none, none, none, none, none, none] mixed (by kernel_rfl) (LX.l (fun _ hJ => LO.lda (vs := [_,_,_,_,_,_]) A26 (.r rfl) (cells_keep (sub_cells (off := 0) hfH ⟨_, rfl⟩)) rfl) rfl<|LX.l (fun _ hJ => LO.lda (vs := [_,_,_,_,_,_]) A26 (.r rfl) (cells_keep (sub_cells (off := 0) hfF ⟨_, rfl⟩)) rfl) rfl<|LX.l (fun _ hJ => LO.mv (.r rfl)) rfl<|LX.l (fun _ hJ => LO.mv (.r rfl)) rfl<|LX.l (fun _ hJ => LO.fa (r := 2) F81_2 (.r rfl) rfl) rfl<|LX.l (fun _ hJ => LO.ld O40 (.r rfl) (fun _ hw => cells_at (hJ _ hw) 1 rfl ⟨_, rfl⟩)) rfl<|LX.l (fun _ hJ => LO.ixs S40 N3 (hie1.t a1 (List.mem_of_getElem? h1e)).sm (.r rfl) (.r rfl) (j := 0) rfl (by omega)) rfl<|LX.l (fun _ hJ => LO.ld O3 (.r rfl) (fun w hw => cells_part (off := 0) ((fun w3 h3 => RO.cel ((hie1.keep w3 h3).t a1 (List.mem_of_getElem? h1e)) h0t) w (hJ _ hw)) ⟨_, rfl⟩)) rfl<|LX.l (fun _ hJ => LO.fa (r := 1) F81_1 (.r rfl) rfl) rfl<|LX.l (fun _ hJ => LO.ld O40 (.r rfl) (fun _ hw => cells_at (hJ _ hw) 1 rfl ⟨_, rfl⟩)) rfl<|LX.l (fun _ hJ => LO.ixs S40 N3 (hie1.f a1 (List.mem_of_getElem? h1e)).sm (.r rfl) (.r rfl) (j := 0) rfl (by omega)) rfl<|LX.l (fun _ hJ => LO.ld O3 (.r rfl) (fun w hw => cells_part (off := 0) ((fun w3 h3 => RO.cel ((hie1.keep w3 h3).f a1 (List.mem_of_getElem? h1e)) h0f) w (hJ _ hw)) ⟨_, rfl⟩)) rfl<|LX.s<|LX.s<|LX.s<|LX.s<|LX.s<|LX.s<|LX.nil) (fun hf => (HE.mk [12] (by kernel_rfl) rfl ⟨(HEo.op rfl rfl<|HO.callx (xs := [_,_,_,_,_,_]) (vs := [_,_,_,_,_,_]) C30 ⟨(.r rfl), (.r rfl), (.r rfl), (.r rfl), (.r rfl), (.r rfl), trivial⟩ (fun w2 hw => Moves_k G fz.v fz.p fz.c fy.v fy.p fy.c lv r j i w2 (hsH.keep w2 hw) (hsF.keep w2 hw) hfz hfy hlv1 hlv2 hr8 hj2 hi2) fun mv2 hmv2 => ⟨selK (L1 := [_,_]) [1,2] rfl rfl, (HE.mk [13] (by kernel_rfl) rfl ⟨(HEo.op rfl rfl<|HO.lo (LO.mv (.r rfl))<|⟨selK (L1 := [_,_]) [1,2] rfl rfl, (HE.mk [14,15] (by kernel_rfl) rfl ⟨(HEo.op rfl rfl<|HO.lo (LO.ex (.r rfl) rfl)<|⟨selK (L1 := [_,_]) [1,2] rfl rfl, (HE.mk [15,16] (by kernel_rfl) rfl ⟨(HEo.op rfl rfl<|HO.lo (LO.ex (.r rfl) rfl)<|⟨selK (L1 := [_,_]) [1,2] rfl rfl, (HE.mk [16] (by kernel_rfl) rfl ⟨(HEo.op rfl rfl<|HO.lo (LO.as (.r rfl))<|⟨selK (L1 := [_,_]) [1,2] rfl rfl, (HE.mk [17] (by kernel_rfl) rfl ⟨(HEo.op rfl rfl<|HO.lo (LO.as (.r rfl))<|⟨selK (L1 := [_,_]) [1,2] rfl rfl, (HE.fin (by kernel_rfl) (VE.weak (.cons rfl (.cons rfl (.cons rfl (.cons rfl (.cons rfl (.cons rfl (.cons rfl (.cons rfl (.cons rfl (.cons rfl (.cons rfl (.cons rfl (.cons rfl (.cons rfl .nil)))))))))))))) (selK (L1 := [_] ++ [_,_]) [0,1,2] rfl rfl) (hf mv2 hmv2)))⟩), trivial⟩)⟩), trivial⟩)⟩), (HEo.op rfl rfl<|HO.lo (LO.as (.r rfl))<|⟨selK (L1 := [_,_]) [1,2] rfl rfl, (HE.mk [15] (by kernel_rfl) rfl ⟨(HEo.op rfl rfl<|HO.lo (LO.ex (.r rfl) rfl)<|⟨selK (L1 := [_,_]) [1,2] rfl rfl, (HE.mk [17] (by kernel_rfl) rfl ⟨(HEo.op rfl rfl<|HO.lo (LO.as (.r rfl))<|⟨selK (L1 := [_,_]) [1,2] rfl rfl, (HE.fin (by kernel_rfl) (VE.weak (.cons rfl (.cons rfl (.cons rfl (.cons rfl (.cons rfl (.cons rfl (.cons rfl (.cons rfl (.cons rfl (.cons rfl (.cons rfl (.cons rfl (.cons rfl (.cons rfl .nil)))))))))))))) (selK (L1 := [_] ++ [_,_]) [0,1,2] rfl rfl) (hf mv2 hmv2)))⟩), trivial⟩)⟩), trivial⟩)⟩), trivial⟩)⟩), (HEo.op rfl rfl<|HO.lo (LO.ex (.r rfl) rfl)<|⟨selK (L1 := [_,_]) [1,2] rfl rfl, (HE.mk [14] (by kernel_rfl) rfl ⟨(HEo.op rfl rfl<|HO.lo (LO.ex (.r rfl) rfl)<|⟨selK (L1 := [_,_]) [1,2] rfl rfl, (HE.mk [16] (by kernel_rfl) rfl ⟨(HEo.op rfl rfl<|HO.lo (LO.as (.r rfl))<|⟨selK (L1 := [_,_]) [1,2] rfl rfl, (HE.mk [17] (by kernel_rfl) rfl ⟨(HEo.op rfl rfl<|HO.lo (LO.as (.r rfl))<|⟨selK (L1 := [_,_]) [1,2] rfl rfl, (HE.fin (by kernel_rfl) (VE.weak (.cons rfl (.cons rfl (.cons rfl (.cons rfl (.cons rfl (.cons rfl (.cons rfl (.cons rfl (.cons rfl (.cons rfl (.cons rfl (.cons rfl (.cons rfl (.cons rfl .nil)))))))))))))) (selK (L1 := [_] ++ [_,_]) [0,1,2] rfl rfl) (hf mv2 hmv2)))⟩), trivial⟩)⟩), trivial⟩)⟩), trivial⟩)⟩), trivial⟩)⟩), trivial⟩)⟩), trivial⟩)) (fun y hy => ?_)

                obtain ⟨mv2, hmv2, rfl⟩ : ∃ mv2 : MvL, MvE G fz.v fy.v lv j i r mv2.l ∧ mv2 = y := ⟨y, hy, rfl⟩
                have hml : mv2.l = (mv1.l.reverse).map Mv.neg := by rw [hmv2.eq, hmv1.eq, moves_back]
                have hmll : mv2.l.length = mv1.l.length := by rw [hml]; simp
                refine VE.seqN ?_
                refine VC.seq ?_
                refine VC.seq ?_
                refine VC.reg (VO.l (LO.mv (.r rfl)) rfl<|VO.l (LO.ne (.r rfl) (.r rfl)) rfl<|VO.l (LO.mv (.r rfl)) rfl<|VO.lg rfl rfl (GD.f _) (fun hg => LO.mv (.r rfl)) rfl<|VO.lg rfl rfl (GD.f _) (fun hg => LO.ne (.g hg rfl) (.r rfl)) rfl<|VO.l (LO.pkO (.r rfl) (.r rfl) rfl rfl) rfl<|VO.l (LO.mv (.r rfl)) rfl<|VO.lg rfl rfl (GD.f _) (fun hg => LO.mv (.r rfl)) rfl<|VO.lg rfl rfl (GD.f _) (fun hg => LO.len S53 (.g hg rfl) rfl) rfl<|VO.lg rfl rfl (GD.f _) (fun hg => LO.mv (.r rfl)) rfl<|VO.lg rfl rfl (GD.f _) (fun hg => LO.len S53 (.g hg rfl) rfl) rfl<|VO.lg rfl rfl (GD.f _) (fun hg => LO.ne (.g hg rfl) (.g hg rfl)) rfl<|VO.l (LO.pkO (.r rfl) (.r rfl) rfl rfl) rfl<|VO.nil ?_)
                refine VE.seqN ?_
                refine VC.cond rfl (fun h244 => ?_) (fun h244 => ?_)
                ·
                  (exfalso; (rcases h244 with (z | z) | z; all_goals first | omega | exact z rfl))
                ·
                  refine VC.skip (VE.seqN ?_)
                  refine VC.seq ?_
                  refine VC.reg (VO.l (LO.mv (.r rfl)) rfl<|VO.l (LO.len S53 (.r rfl) rfl) rfl<|VO.l (LO.mv (.r rfl)) rfl<|VO.nil ?_)
                  refine VE.seqN ?_
                  refine VC.block ?_
                  refine VC.loopK (α := Nat) 0 (fun gx => [(247, .int .i64 (gx : Nat))]) [(13,_), (14,_), (15,_), (16,_), (19,_), (21,_), (23,_), (39,_), (104,_), (105,_), (106,_), (245,_), (246,_)] (fun gx => []) (fun gx => gx ≤ mv1.l.length) (fun gx => mv1.l.length - gx) 0 (by exact Nat.zero_le _) (.cons rfl (.cons rfl (.cons rfl (.cons rfl (.cons rfl (.cons rfl (.cons rfl (.cons rfl (.cons rfl (.cons rfl (.cons rfl (.cons rfl (.cons rfl (.cons rfl .nil)))))))))))))) (fun _ h => h) ?_
                  rintro m hm
                  refine VC.seq ?_
                  refine VC.reg (VO.l (LO.lt (.r rfl) (.r rfl)) rfl<|VO.nil ?_)
                  refine VE.seqN ?_
                  refine VC.seq ?_
                  refine VC.cond rfl (fun h248 => ?_) (fun h248 => ?_)
                  ·
                    obtain ⟨md, hmd⟩ := get_ex (l := mv1.l) (n := m) (by omega)
                    have hm2 := rev_at hmd
                    rw [← hml] at hm2
                    have hmb := mv_bnd (hmv1.eq ▸ List.mem_of_getElem? hmd)
                    refine VC.skip (VE.seqN ?_)
                    refine VC.seq ?_
                    refine VC.block ?_
                    refine VC.seq ?_
                    refine VC.reg (VO.l (LO.mv (.r rfl)) rfl<|VO.l (LO.ixo S53 N85 (fun _ hw => (own_rows hw 1 rfl).some (by rw [List.length_map])) (.r rfl) (.r rfl) rfl (by omega)) rfl<|VO.l (LO.lda (vs := [_,_]) A85 (.r rfl) (fun w hw => cells_part (off := 0) (own_cell hw 1 rfl hmd) ⟨_, rfl⟩) rfl) rfl<|VO.h rfl<|HO.alloc (C := #[_,_]) Z85 rfl fun b26 => VO.l (LO.as (.r rfl)) rfl<|VO.h0<|HO.st 0 (vs := [_,_]) (C' := [_,_]) (L' := [_,_,_,_]) N85 rfl rfl rfl rfl rfl rfl rfl rfl<|VO.nil ?_)
                    refine VE.seqN ?_
                    refine VC.seq ?_
                    refine VC.draw mixed (LL.l (LO.mv (.r rfl)) rfl<|LL.l (LO.mv (.r rfl)) rfl<|LL.l (LO.len S53 (.r rfl) rfl) rfl<|LL.l (LO.sub (.r rfl) (.r rfl) (wi (by omega) (by omega))) rfl<|LL.l (LO.mv (.r rfl)) rfl<|LL.l (LO.sub (.r rfl) (.r rfl) (wi (by omega) (by omega))) rfl<|LL.l (LO.ixo S53 N85 (fun _ hw => (own_rows hw 1 rfl).some (by rw [List.length_map])) (.r rfl) (.r rfl) (j := mv1.l.length - 1 - m) (by omega) (by omega)) rfl<|LL.l (LO.lda (vs := [_,_]) A85 (.r rfl) (fun w hw => cells_part (off := 0) (own_cell hw 1 rfl hm2) ⟨_, rfl⟩) rfl) rfl<|LL.l (LO.fa (r := 0) F85_0 (.r rfl) rfl) rfl<|LL.l (LO.ld O3 (.r rfl) (fun _ hw => cells_at hw 0 rfl ⟨_, rfl⟩)) rfl<|LL.l (LO.neg (.r rfl) (wi (by omega) (by omega))) rfl<|LL.l (LO.fa (r := 1) F85_1 (.r rfl) rfl) rfl<|LL.l (LO.ld O3 (.r rfl) (fun _ hw => cells_at hw 0 rfl ⟨_, rfl⟩)) rfl<|LL.l (LO.neg (.r rfl) (wi (by omega) (by omega))) rfl<|LL.l (LO.bd (ps := [(_,_), (_,_)]) (vs := [(_,_), (_,_)]) (C := [_,_]) B85  ⟨(.r rfl), (.r rfl), trivial⟩ rfl ⟨_, [_], [_,_], rfl, rfl, rfl, rfl, ⟨_, [_], [_,_], rfl, rfl, rfl, rfl, rfl⟩⟩) rfl<|LL.l (LO.neA («as» := [_,_]) (bs := [_,_]) EA85 (.r rfl) (.r rfl) rfl rfl) rfl<|LL.nil) (by kernel_rfl) ?_
                    refine VE.seqN ?_
                    refine VC.cond rfl (fun h267 => ?_) (fun h267 => ?_)
                    ·
                      (exfalso; simp [Mv.neg] at h267)
                    ·
                      refine VC.skip (VE.inN (VE.seqN ?_))
                      refine VC.reg (VO.l (LO.add (.r rfl) (.r rfl) (wi (by omega) (by omega))) rfl<|VO.l (LO.mv (.r rfl)) rfl<|VO.nil ?_)
                      refine VE.thenN fun a w ha hw => ⟨m + 1, (by omega), (by omega), ha.sub (.cons rfl (.cons rfl (.cons rfl (.cons rfl (.cons rfl (.cons rfl (.cons rfl (.cons rfl (.cons rfl (.cons rfl (.cons rfl (.cons rfl (.cons rfl (.cons rfl .nil)))))))))))))), hw.sel [1,2,3] rfl⟩
                  ·
                    refine VC.exit (VE.thenX (VE.thenX (VE.inX (VE.inN (VE.seqN ?_)))))
                    refine VC.reg (VO.l (LO.add (.r rfl) (.r rfl) (wi (by omega) (by omega))) rfl<|VO.l (LO.mv (.r rfl)) rfl<|VO.nil ?_)
                    refine VE.thenN fun a w ha hw => ⟨k1 + 1, (by omega), (by omega), ha.sub (.cons rfl (.cons rfl (.cons rfl (.cons rfl (.cons rfl (.cons rfl (.cons rfl (.cons rfl (.cons rfl (.cons rfl .nil)))))))))), hw.sel [] rfl⟩
    ·
      refine VC.exit (VE.thenX (VE.thenX (VE.inX (VE.seqN ?_))))
      refine VC.seq ?_
      refine VC.reg (VO.l (LO.call (xs := []) (vs := []) C16 trivial (fun w2 _ => works_c w2)) rfl<|VO.l (LO.as (.r rfl)) rfl<|VO.nil ?_)
      refine VE.seqN ?_
      refine VC.ret (VE.res (vs := [_]) rfl ⟨rfl, trivial⟩ (fun w hw => ?_))
      exact ⟨rfl, St.based hst1 hw⟩

end Go.Proofs.Ytgemekpofpoopaa

namespace Go.Proofs.Ytgemekpofpoopaa
open Go.SL Go.Proofs Go.Cast Go.Cell
set_option linter.unusedVariables false


theorem K5 : Try.prog.cellsOf 5 = 1 := by kernel_rfl
theorem kb_u8 {n : Int} (h : kb .u8 n) : 0 ≤ n ∧ n ≤ 255 := by simpa [kb, IntKind.min, IntKind.max, IntKind.signed, IntKind.bits] using h
section
variable {H : Type} {enc : TypeId × Value → H} {W : World}
theorem rd5 : RD enc Try.prog W 5 fun cs => ∃ n : Nat, cs = uC n ∧ n ≤ 255 := fun n cs x hx => by
  obtain ⟨m, rfl, hm⟩ := RD.int Try.underlying5 _ _ _ hx
  have := kb_u8 hm
  refine ⟨m.toNat, ?_, by omega⟩
  show _ = [Value.int .u8 ((m.toNat : Nat) : Int)]
  rw [Int.toNat_of_nonneg this.1]
theorem rd61 : RD enc Try.prog W 61 fun cs => ∃ (p : Option Addr) (cap : Nat) (l : List Nat), cs = [.slice p l.length cap] ∧ RO 1 uC W p l ∧ (∀ n, n ∈ l → n ≤ 255) ∧ l.length ≤ 9223372036854775807 := fun n cs x hx => by
  obtain ⟨p, cap, rows, rfl, h1, h2, h3⟩ := RD.slice Try.underlying61 K5 (by decide) rd5 _ _ _ hx
  obtain ⟨l, rfl, h5⟩ := rows_map (f := uC) (Q := fun n => n ≤ 255) (fun r hr => (h3 r hr).2)
  exact ⟨p, cap, l, by simp, h2, h5, by simpa using h1⟩
theorem rd63 : RD enc Try.prog W 63 fun cs => ∃ x : MapA, cs = x.cells ∧ MapI W x ∧ MapK x := fun n cs x hx => by
  obtain ⟨css, rfl, hlen,_, hp⟩ := trod_parts Try.underlying63 (zs := [1,1,1,1]) (by kernel_rfl) rfl (by kernel_rfl) hx
  match css, hlen with
  | [c0, c1, c2, c3],_ =>
    obtain ⟨_,_, h0⟩ := hp 0 _ c0 rfl rfl
    obtain ⟨_,_, h1⟩ := hp 1 _ c1 rfl rfl
    obtain ⟨_,_, h2⟩ := hp 2 _ c2 rfl rfl
    obtain ⟨_,_, h3⟩ := hp 3 _ c3 rfl rfl
    obtain ⟨a, rfl, ha⟩ := rd5 _ _ _ h0
    obtain ⟨b, rfl, hb⟩ := rd5 _ _ _ h1
    obtain ⟨p, c, l, rfl, h4, h5, h6⟩ := rd61 _ _ _ h2
    obtain ⟨q, d, m, rfl, h7, h8, h9⟩ := rd61 _ _ _ h3
    exact ⟨⟨a, b, p, c, l, q, d, m⟩, rfl, ⟨h4, h7⟩, ⟨ha, hb, h5, h8, h6, h9⟩⟩
end

end Go.Proofs.Ytgemekpofpoopaa
