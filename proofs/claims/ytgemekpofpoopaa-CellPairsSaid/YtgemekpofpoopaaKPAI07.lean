/-
  The chapter's examples hold.
  CellNil, walked.
  Hulls of moves.
  Maps of the statements.
  Fields within others.
  Narrower maps: plain.
  Fields that moved, fields around, events that hold two areas.
  CellBack, walked.
  The document's sets of pixels.
  The document's parts.
  The document's checks.
  The document's Joined.
  The document's list of parts.
  Areas as the document finds them: plain; bags that grow.
  The document's areas.
  The document's Areas; joined, gaps and areas as both say.
  CellAreas, walked.
  The document's Tree.
  What touches, and kinds, as the document has them.
  One event, as the document finds it.
-/
import Derived.Test.YtgemekpofpoopaaKPAI06

set_option linter.unusedSimpArgs false
namespace Go.Proofs.Ytgemekpofpoopaa
open Go.SL Go.Proofs Go.Cast Go.Cell
set_option linter.unusedVariables false

theorem C56 : IsFn Try.prog 56 := ⟨_, Try.func56, by decide, rfl⟩
theorem C17 : IsFn Try.prog 17 := ⟨_, Try.func17, by decide, rfl⟩
theorem C26 : IsFn Try.prog 26 := ⟨_, Try.func26, by decide, rfl⟩
theorem EA71 : FlatA Try.prog 71 2 := ⟨⟨_, Try.underlying71, rfl⟩, by kernel_rfl, by kernel_rfl⟩
theorem C20 : IsFn Try.prog 20 := ⟨_, Try.func20, by decide, rfl⟩
theorem C22 : IsFn Try.prog 22 := ⟨_, Try.func22, by decide, rfl⟩
theorem C24 : IsFn Try.prog 24 := ⟨_, Try.func24, by decide, rfl⟩
theorem C27 : IsFn Try.prog 27 := ⟨_, Try.func27, by decide, rfl⟩
theorem C30 : IsFn Try.prog 30 := ⟨_, Try.func30, by decide, rfl⟩
theorem EA85 : FlatA Try.prog 85 2 := ⟨⟨_, Try.underlying85, rfl⟩, by kernel_rfl, by kernel_rfl⟩
theorem C47 : IsFn Try.prog 47 := ⟨_, Try.func47, by decide, rfl⟩
theorem C48 : IsFn Try.prog 48 := ⟨_, Try.func48, by decide, rfl⟩
theorem C49 : IsFn Try.prog 49 := ⟨_, Try.func49, by decide, rfl⟩
theorem F109_0 : FieldAt Try.prog 109 0 0 := ⟨_,_, Try.underlying109, rfl, rfl, 0, by kernel_rfl⟩
theorem C50 : IsFn Try.prog 50 := ⟨_, Try.func50, by decide, rfl⟩
theorem EA105 : FlatA Try.prog 105 9 := ⟨⟨_, Try.underlying105, rfl⟩, by kernel_rfl, by kernel_rfl⟩


theorem rowF_c (b : Nat) (w : World) (h : Ints w (some ⟨b, 0, none⟩) [5,5,2,5,5,5,0,1]) : Calls Try.prog (56) #[.slice (some ⟨b, 0, none⟩) 8 8] w fun e w' => ∃ y : SlY, True ∧ e = .returned (fieldV xG y.p xF.length y.c) ∧ St (bs w) [own 71 2 y.p y.c (xF.map Span.cells)] w' := row_c [5,5,2,5,5,5,0,1] _ 8 w h (by decide)
theorem rowH_c (b : Nat) (w : World) (h : Ints w (some ⟨b, 0, none⟩) [0,1,5,5,2,5,5,5]) : Calls Try.prog (56) #[.slice (some ⟨b, 0, none⟩) 8 8] w fun e w' => ∃ y : SlY, True ∧ e = .returned (fieldV xG y.p xH.length y.c) ∧ St (bs w) [own 71 2 y.p y.c (xH.map Span.cells)] w' := row_c [0,1,5,5,2,5,5,5] _ 8 w h (by decide)
theorem xJoin2_c (p : Option Addr) (c : Nat) (w : World) (hv : Spans w p xF) : Calls Try.prog (20) #[fieldV xG p xF.length c, .int .i64 5, .int .i64 0, .int .i64 2] w fun e w' => e = .returned (.tuple #[.int .i64 3, .int .i64 0]) ∧ St (bs w) [] w' := by
  have z := Joined_ok xG xF p c 5 0 2 w hv xP2
  rw [xJ2] at z; exact z
theorem xJoin3_c (p : Option Addr) (c : Nat) (w : World) (hv : Spans w p xF) : Calls Try.prog (20) #[fieldV xG p xF.length c, .int .i64 5, .int .i64 0, .int .i64 3] w fun e w' => e = .returned (.tuple #[.int .i64 2, .int .i64 0]) ∧ St (bs w) [] w' := by
  have z := Joined_ok xG xF p c 5 0 3 w hv xP3
  rw [xJ3] at z; exact z
theorem xGap2_c (p : Option Addr) (c : Nat) (w : World) (hv : Spans w p xF) : Calls Try.prog (22) #[fieldV xG p xF.length c, .int .i64 5, .int .i64 0, .int .i64 2] w fun e w' => e = .returned (.tuple #[.int .i64 1, .int .i64 0]) ∧ St (bs w) [] w' :=
  (Gap_ok xG xF p c 5 0 2 w hv xP2).mono fun e w' ⟨z, h1, h2, h3⟩ => ⟨by rw [h2, xGap2 h1], h3⟩
theorem xGap3_c (p : Option Addr) (c : Nat) (w : World) (hv : Spans w p xF) : Calls Try.prog (22) #[fieldV xG p xF.length c, .int .i64 5, .int .i64 0, .int .i64 3] w fun e w' => e = .returned (.tuple #[.int .i64 (-1), .int .i64 0]) ∧ St (bs w) [] w' :=
  (Gap_ok xG xF p c 5 0 3 w hv xP3).mono fun e w' ⟨z, h1, h2, h3⟩ => ⟨by rw [h2, xGap3 h1], h3⟩
structure XtY where
  p : Option Addr
  c : Nat
  p1 : Option Addr
  c1 : Nat
  p2 : Option Addr
  c2 : Nat
theorem xTree_c (p : Option Addr) (c b : Nat) (w : World) (hv : Spans w p xF) (hl : Ints w (some ⟨b, 0, none⟩) [1,5]) : Calls Try.prog (24) #[fieldV xG p xF.length c, .slice (some ⟨b, 0, none⟩) 2 2] w fun e w' => ∃ y : XtY, True ∧ e = .returned (.tuple #[.slice y.p 2 y.c, .int .i64 0]) ∧ St (bs w) [own 40 1 y.p y.c (([⟨y.p1, y.c1, [-1]⟩, ⟨y.p2, y.c2, [0]⟩] : List (RowA Int)).map rowC), bagR 3 1 iC [⟨y.p1, y.c1, [-1]⟩, ⟨y.p2, y.c2, [0]⟩]] w' :=
  (Tree_ok xG xF p c [1,5] _ 2 w hv hl xTreeE).mono fun e w' ⟨y, h1, h2, h3⟩ => by
    rw [xTree] at h1
    obtain ⟨p1, c1, p2, c2, e1⟩ := row_list2 h1
    rw [e1] at h2 h3
    exact ⟨⟨y.p, y.c, p1, c1, p2, c2⟩, trivial, h2, h3⟩
structure XeY where
  p : Option Addr
  c : Nat
  fp : Option Addr
  fc : Nat
  tp : Option Addr
  tc : Nat
def XeY.e (y : XeY) : EvR := ⟨4, y.fp, y.fc, [0], y.tp, y.tc, [0]⟩
theorem ev_list {l : List EvR} {e : EvM} (h : l.map EvR.m = [e]) : ∃ fp fc tp tc, l = [⟨e.kd, fp, fc, e.f, tp, tc, e.t⟩] := by
  rcases l with _ | ⟨a,_ | ⟨b, r⟩⟩
  · cases h
  · obtain ⟨kd, fp, fc, f, tp, tc, t⟩ := a
    have h := (List.cons.inj h).1
    subst h; exact ⟨fp, fc, tp, tc, rfl⟩
  · cases (List.cons.inj h).2
theorem xMatch_c (p : Option Addr) (c : Nat) (q : Option Addr) (d : Nat) (w : World) (hv : Spans w p xF) (hu : Spans w q xH) : Calls Try.prog (27) #[fieldV xG p xF.length c, fieldV xG q xH.length d, .int .i64 5, .int .i64 1] w fun e w' => ∃ y : XeY, True ∧ e = .returned (.tuple #[.slice y.p 1 y.c, .int .i64 0]) ∧ St (bs w) [own 81 3 y.p y.c ([y.e].map EvR.cells), bagD ([y.e].map EvR.fR), bagD ([y.e].map EvR.tR)] w' :=
  (Match_ok xG xF p c xG xH q d 5 1 w hv hu xPair).mono fun e w' ⟨y, h1, h2, h3⟩ => by
    rw [xNf, xNh] at h1
    obtain ⟨fp, fc, tp, tc, e1⟩ := ev_list (xEv h1)
    obtain ⟨l, yp, yc⟩ := y
    subst e1
    exact ⟨⟨yp, yc, fp, fc, tp, tc⟩, trivial, h2, h3⟩
def xMv : List Mv := [⟨-1, -1⟩, ⟨0, -1⟩, ⟨1, -1⟩, ⟨-1,0⟩, ⟨1,0⟩, ⟨-1,1⟩, ⟨0,1⟩, ⟨1,1⟩]
theorem xMoves_c (p : Option Addr) (c : Nat) (q : Option Addr) (d : Nat) (w : World) (hv : Spans w p xF) (hu : Spans w q xH) : Calls Try.prog (30) #[fieldV xG p xF.length c, fieldV xG q xH.length d, .int .i64 5, .int .i64 1, .int .i64 0, .int .i64 0] w fun e w' => ∃ y : SlY, True ∧ e = .returned (.tuple #[.slice y.p 8 y.c, .int .i64 0]) ∧ St (bs w) [own 85 2 y.p y.c (xMv.map Mv.cells)] w' :=
  (Moves_ok xG xF p c xG xH q d 5 0 0 1 w hv hu xMoveE).mono fun e w' ⟨y, h1, h2, h3⟩ => by
    rw [xMoves] at h2 h3
    exact ⟨y, trivial, h2, h3⟩
structure XaY where
  p : Option Addr
  c : Nat
  pp : Option Addr
  pc : Nat
  kp : Option Addr
  kc : Nat
  p1 : Option Addr
  c1 : Nat
  p2 : Option Addr
  c2 : Nat
def XaY.a (y : XaY) : AreaR := ⟨⟨y.pp, y.pc, [0,1,2]⟩, y.kp, y.kc, [⟨y.p1, y.c1, [0]⟩, ⟨y.p2, y.c2, [2]⟩], ⟨0,2,0,0,10,15⟩⟩
structure XaI (w : World) (y : XaY) : Prop where
  ar : RO 8 AreaR.cells w y.p [y.a]
  px : Ints w y.pp [0,1,2]
  kr : RR 1 iC w y.kp [⟨y.p1, y.c1, [0]⟩, ⟨y.p2, y.c2, [2]⟩]
theorem rr_nat {w : World} {p : Option Addr} {rs : List (RowA Nat)} (h : RR 1 nC w p rs) : RR 1 iC w p (rs.map fun r => (⟨r.p, r.c, r.l.map fun n : Nat => (n : Int)⟩ : RowA Int)) := by
  refine ⟨?_, fun x hx => ?_⟩
  · have h1 := h.1
    unfold RO at h1 ⊢
    rw [List.map_map]
    have e : (rowC ∘ fun r : RowA Nat => (⟨r.p, r.c, r.l.map fun n : Nat => (n : Int)⟩ : RowA Int)) = rowC := by
      funext r; show [Value.slice r.p (r.l.map _).length r.c] = _; rw [List.length_map]; rfl
    rw [e]; exact h1
  · obtain ⟨r, hr, rfl⟩ := List.mem_map.1 hx
    have := h.2 r hr
    exact ⟨by show (r.l.map _).length ≤ r.c; rw [List.length_map]; exact this.1, ints_nat this.2⟩
structure XaF (y : ArY) (z : XaY) : Prop where
  ar : ArP (gW xG) (gH xG) xF 5 y
  l : y.l = [z.a]
  p : y.p = z.p
theorem xAreas_c (p : Option Addr) (c : Nat) (w : World) (hv : Spans w p xF) : Calls Try.prog (17) #[fieldV xG p xF.length c, .int .i64 5] w fun e w' => ∃ y : ArY × XaY, XaF y.1 y.2 ∧ e = .returned (.tuple #[.slice y.2.p 1 y.2.c, .int .i64 0]) ∧ St (bs w) (y.1.R (ofL (gW xG) (gH xG) (mayB xF 5))) w' :=
  (Areas_ok xG xF p c 5 w hv xF_open).mono fun e w' ⟨y, h1, h2, h3⟩ => by
    obtain ⟨pp, pc, kp, kc, p1, c1, p2, c2, hl⟩ := exAr h1 xAreas
    rw [hl] at h2
    exact ⟨⟨y, ⟨y.p, y.c, pp, pc, kp, kc, p1, c1, p2, c2⟩⟩, ⟨h1, hl, rfl⟩, h2, h3⟩
theorem XaI.of {y : ArY} {z : XaY} {β : Bs} {L : List Res} {w : World} (h : XaF y z) (hw : St β (y.R (ofL (gW xG) (gH xG) (mayB xF 5)) ++ L) w) : XaI w z := by
  have hS := SpI.of_res hw h.ar 0 1 3 7 rfl rfl rfl rfl
  have hR : RR 1 nC w y.pr y.rs := RR.of_own hw 5 6 rfl rfl
  have hl := h.l
  refine ⟨?_, ?_, ?_⟩
  · have := hS.ar; rw [hl, h.p] at this; exact this
  · exact ints_nat (hR.2 z.a.px (by rw [← h.ar.px, hl]; exact List.mem_singleton.2 rfl)).2
  · exact rr_nat (hS.kr z.a (by rw [hl]; exact List.mem_singleton.2 rfl))
theorem XaI.keep {w0 : World} {y : XaY} (h : XaI w0 y) : ∀ {L : List Res} (w : World), St (bs w0) L w → XaI w y := fun w hw => ⟨h.ar.keep w hw, h.px.keep w hw, h.kr.keep w hw⟩
theorem rr_lit2 {w : World} {b1 b2 b3 : Nat} {x y : Int} (h1 : Ints w (some ⟨b1,0, none⟩) [x]) (h2 : Ints w (some ⟨b2,0, none⟩) [y]) (h3 : Cells w ⟨b3,0, none⟩ [.slice (some ⟨b1,0, none⟩) 1 1, .slice (some ⟨b2,0, none⟩) 1 1]) : RR 1 iC w (some ⟨b3,0, none⟩) [⟨some ⟨b1,0, none⟩, 1, [x]⟩, ⟨some ⟨b2,0, none⟩, 1, [y]⟩] := by
  refine ⟨RO.ofC (fun _ => rfl) h3, fun r hr => ?_⟩
  rcases List.mem_cons.1 hr with rfl | hr
  · exact ⟨Nat.le_refl _, h1⟩
  · have hr := List.mem_singleton.1 hr; subst hr; exact ⟨Nat.le_refl _, h2⟩
theorem two_rows {a b : RowA Int} (ha : a.l.length = 1) (hb : b.l.length = 1) : ∀ x, x ∈ [a, b] → x.l.length ≤ 1000000 := fun x hx => by
  rcases List.mem_cons.1 hx with rfl | hx
  · omega
  · have hx := List.mem_singleton.1 hx; subst hx; omega
abbrev xBk (bm : Nat) : BkH := ⟨xG, 5,1, bm⟩
theorem xBook : bookE xG 5 1 = 0 := by kernel_rfl
theorem xAdd0 (bm : Nat) : addE (xBk bm) (-1) 0 10 xG xF = 0 := rfl
theorem xAdd1 (bm : Nat) : addE (xBk bm) 10 1 20 xG xH = 0 := rfl
theorem xLate (bm n : Nat) : addE (xBk bm) 20 n 20 xG xH = 17 := rfl
theorem xLate_c (b bm : Nat) (q : BkQ) (pt : Option Addr) (nt ct : Nat) (kd : Nat → Int) (p : Option Addr) (c : Nat) (w : World) (hb : Cells w ⟨b, 0, none⟩ (bkC (xBk bm) 20 q pt nt ct kd)) (hv : Spans w p xH) : Calls Try.prog (48) #[.pointer (some ⟨b, 0, none⟩), .int .i64 20, fieldV xG p xH.length c] w fun e w' => e = .returned (.tuple #[.slice none 0 0, .int .i64 17]) ∧ St (bs w) [] w' := by
  have z := Add_e b (xBk bm) 20 q pt nt ct kd 20 xG xH p c w hb hv (by rw [xLate]; decide)
  rw [xLate] at z; exact z
structure XkY where
  p : Option Addr
  c : Nat
  ap : Option Addr
  ac : Nat
  pp : Option Addr
  pc : Nat
  cp : Option Addr
  cc : Nat
def XkY.t (y : XkY) : TkR := ⟨1,0, y.ap, y.ac, [0,0], 0, y.pp, y.pc, [], y.cp, y.cc, []⟩
theorem xk_list {tk : List TkR} (h : tk.map TkR.m = [⟨1,0, [0,0], 0, [], []⟩]) : ∃ ap ac pp pc cp cc, tk = [⟨1,0, ap, ac, [0,0], 0, pp, pc, [], cp, cc, []⟩] := by
  obtain ⟨t, rfl, hm⟩ := tk_list h
  obtain ⟨bg, fr, ap, ac, ar, en, pp, pc, pa, cp, cc, ch⟩ := t
  cases hm
  exact ⟨ap, ac, pp, pc, cp, cc, rfl⟩
theorem xTracks_c (b : Nat) (h : BkH) (la : Int) (q : BkQ) (pt : Option Addr) (ct : Nat) (kd : Nat → Int) (tk : List TkR) (w : World) (hb : Cells w ⟨b, 0, none⟩ (bkC h la q pt tk.length ct kd)) (htk : RO 6 TkR.cells w pt tk) (hti : ∀ t, t ∈ tk → TkI w t) (hm : tk.map TkR.m = [⟨1,0, [0,0], 0, [], []⟩]) : Calls Try.prog (49) #[.pointer (some ⟨b, 0, none⟩)] w fun e w' => ∃ y : XkY, True ∧ e = .returned (.slice y.p 1 y.c) ∧ St (bs w) [own 109 6 y.p y.c ([y.t].map TkR.cells), bagD ([y.t].map TkR.aR), bagD ([y.t].map TkR.pR), bagD ([y.t].map TkR.cR)] w' :=
  (Tracks_ok b h la q pt ct kd tk w hb htk hti (fun t ht => by
    obtain ⟨_,_,_,_,_,_, rfl⟩ := xk_list hm
    have := List.mem_singleton.1 ht; subst this
    exact ⟨(show 2 ≤ 1000000000 by decide), (show 0 ≤ 1000000000 by decide), (show 0 ≤ 1000000000 by decide)⟩) (by obtain ⟨_,_,_,_,_,_, rfl⟩ := xk_list hm; exact (show 1 ≤ 1000000 by decide))).mono fun e w' ⟨y, h1, h2, h3⟩ => by
    rw [hm] at h1
    obtain ⟨l, yp, yc⟩ := y
    obtain ⟨ap, ac, pp, pc, cp, cc, rfl⟩ := xk_list h1
    exact ⟨⟨yp, yc, ap, ac, pp, pc, cp, cc⟩, trivial, h2, h3⟩
theorem xTally_c (b bm : Nat) (la : Int) (pm : Option Addr) (cm : Nat) (ys : List ArY) (pt : Option Addr) (ct : Nat) (kd : Nat → Int) (tk : List TkR) (of : Nat × Nat → Option Nat) (w : World) (hb : Cells w ⟨b, 0, none⟩ (bkC (xBk bm) la ⟨pm, ys.length, cm⟩ pt tk.length ct kd)) (ho : (mapR plV niV bm (ofI of)).inv w) (hys : ys.length = 2) (hm : tk.map TkR.m = [⟨1,0, [0,0], 0, [], []⟩]) (hk : ∀ a, a ∈ [((0 : Int), (0 : Int)), (1,0)] ↔ (ofI of a).isSome = true) (hkd : kd = kdF (fun _ => 0) [⟨4, [0], [0]⟩]) :
    Calls Try.prog (50) #[.pointer (some ⟨b, 0, none⟩)] w fun e w' => e = .returned (.agg #[.int .i64 2, .int .i64 2, .int .i64 1, .int .i64 0, .int .i64 0, .int .i64 1, .int .i64 0, .int .i64 0, .int .i64 0]) ∧ St (bs w) [] w' := by
  have z := Tally_ok b (xBk bm) la ⟨pm, ys.length, cm⟩ pt ct kd tk w hb of ho [((0 : Int), (0 : Int)), (1,0)] (by decide) hk
  obtain ⟨_,_,_,_,_,_, rfl⟩ := xk_list hm
  subst hkd
  rw [hys] at z
  exact z

set_option maxRecDepth 20000 in
set_option maxHeartbeats 16000000 in
theorem works_c (w : World) :
  Calls Try.prog 16 #[] w fun e w' => e = .returned (.bool true) ∧ St (bs w) [] w' := by
  refine enter (vs := []) (env := []) Try.func16 rfl rfl rfl rfl ?_
  refine VC.seq ?_
  refine VC.reg (VO.l (LO.as (.r rfl)) rfl<|VO.nil ?_)
  refine VE.seqN ?_
  refine VC.seq ?_
  refine VC.reg (VO.h rfl<|HO.bs (ps := [(_,_), (_,_), (_,_), (_,_), (_,_), (_,_), (_,_), (_,_)]) (vs := [(_,_), (_,_), (_,_), (_,_), (_,_), (_,_), (_,_), (_,_)]) (Z := [_,_,_,_,_,_,_,_]) (C := [_,_,_,_,_,_,_,_]) S40 Z3 N3 ⟨(.r rfl), (.r rfl), (.r rfl), (.r rfl), (.r rfl), (.r rfl), (.r rfl), (.r rfl), trivial⟩ rfl rfl rfl rfl ⟨_, [_], [_,_,_,_,_,_,_,_], rfl, rfl, rfl, rfl, ⟨_, [_], [_,_,_,_,_,_,_,_], rfl, rfl, rfl, rfl, ⟨_, [_], [_,_,_,_,_,_,_,_], rfl, rfl, rfl, rfl, ⟨_, [_], [_,_,_,_,_,_,_,_], rfl, rfl, rfl, rfl, ⟨_, [_], [_,_,_,_,_,_,_,_], rfl, rfl, rfl, rfl, ⟨_, [_], [_,_,_,_,_,_,_,_], rfl, rfl, rfl, rfl, ⟨_, [_], [_,_,_,_,_,_,_,_], rfl, rfl, rfl, rfl, ⟨_, [_], [_,_,_,_,_,_,_,_], rfl, rfl, rfl, rfl, rfl⟩⟩⟩⟩⟩⟩⟩⟩ fun b1 => VO.h rfl<|HO.callx (xs := [_]) (vs := [_]) C56 ⟨(.r rfl), trivial⟩ (fun w2 hw => rowF_c b1 w2 (ints_lit _ (cells_inv (hw.inv 0 _ rfl)))) fun f1 _ => VO.h rfl<|HO.bs (ps := [(_,_), (_,_), (_,_), (_,_), (_,_), (_,_), (_,_), (_,_)]) (vs := [(_,_), (_,_), (_,_), (_,_), (_,_), (_,_), (_,_), (_,_)]) (Z := [_,_,_,_,_,_,_,_]) (C := [_,_,_,_,_,_,_,_]) S40 Z3 N3 ⟨(.r rfl), (.r rfl), (.r rfl), (.r rfl), (.r rfl), (.r rfl), (.r rfl), (.r rfl), trivial⟩ rfl rfl rfl rfl ⟨_, [_], [_,_,_,_,_,_,_,_], rfl, rfl, rfl, rfl, ⟨_, [_], [_,_,_,_,_,_,_,_], rfl, rfl, rfl, rfl, ⟨_, [_], [_,_,_,_,_,_,_,_], rfl, rfl, rfl, rfl, ⟨_, [_], [_,_,_,_,_,_,_,_], rfl, rfl, rfl, rfl, ⟨_, [_], [_,_,_,_,_,_,_,_], rfl, rfl, rfl, rfl, ⟨_, [_], [_,_,_,_,_,_,_,_], rfl, rfl, rfl, rfl, ⟨_, [_], [_,_,_,_,_,_,_,_], rfl, rfl, rfl, rfl, ⟨_, [_], [_,_,_,_,_,_,_,_], rfl, rfl, rfl, rfl, rfl⟩⟩⟩⟩⟩⟩⟩⟩ fun b3 => VO.h rfl<|HO.callx (xs := [_]) (vs := [_]) C56 ⟨(.r rfl), trivial⟩ (fun w2 hw => rowH_c b3 w2 (ints_lit _ (cells_inv (hw.inv 0 _ rfl)))) fun f2 _ => VO.h rfl<|HO.alloc (C := #[_,_,_,_,_,_]) Z26 rfl fun b5 => VO.h rfl<|HO.alloc (C := #[_,_,_,_,_,_]) Z26 rfl fun b6 => VO.h0<|HO.st 1 (vs := [_,_,_,_,_,_]) (C' := [_,_,_,_,_,_]) (L' := [_,_,_,_,_,_]) N26 rfl rfl rfl rfl rfl rfl rfl rfl<|VO.h0<|HO.st 0 (vs := [_,_,_,_,_,_]) (C' := [_,_,_,_,_,_]) (L' := [_,_,_,_,_,_]) N26 rfl rfl rfl rfl rfl rfl rfl rfl<|VO.nil ?_)
  refine VE.seqN ?_
  refine VC.seq ?_
  refine VC.rebase fun w1 hst1 => ?_
  have hf1 : Cells w1 ⟨b5,0, none⟩ [.int .i64 xG.x, .int .i64 xG.y, .int .i64 xG.size, .int .i64 xG.wide, .int .i64 xG.high, .slice f1.p xF.length f1.c] := cells_inv (hst1.inv 1 _ rfl)
  have hsF : Spans w1 f1.p xF := RO.of_own hst1 4 rfl
  have hf2 : Cells w1 ⟨b6,0, none⟩ [.int .i64 xG.x, .int .i64 xG.y, .int .i64 xG.size, .int .i64 xG.wide, .int .i64 xG.high, .slice f2.p xH.length f2.c] := cells_inv (hst1.inv 0 _ rfl)
  have hsH : Spans w1 f2.p xH := RO.of_own hst1 2 rfl
  refine VC.reg (VO.l (LO.lda (vs := [_,_,_,_,_,_]) A26 (.r rfl) (cells_keep (sub_cells (off := 0) hf1 ⟨_, rfl⟩)) rfl) rfl<|VO.h rfl<|HO.callx (xs := [_,_]) (vs := [_,_]) C17 ⟨(.r rfl), (.r rfl), trivial⟩ (fun w2 hw => xAreas_c f1.p f1.c w2 (hsF.keep w2 hw)) fun yaa hyaf => VO.h rfl<|HO.lo (LO.mv (.r rfl))<|VO.h rfl<|HO.lo (LO.ex (.r rfl) rfl)<|VO.h rfl<|HO.lo (LO.ex (.r rfl) rfl)<|VO.h rfl<|HO.lo (LO.as (.r rfl))<|VO.h rfl<|HO.lo (LO.as (.r rfl))<|VO.nil ?_)
  refine VE.seqN ?_
  refine VC.seq ?_
  refine VC.seq ?_
  obtain ⟨yy, ya⟩ := yaa
  dsimp only at hyaf
  refine VC.rebase fun w2 hst2 => ?_
  have hya0 : XaI w2 ya := XaI.of (L := []) hyaf (selK [0,1,2,3,4,5,6,7] rfl rfl _ hst2)
  have hya : ∀ {L : List Res} (w : World), St (bs w2) L w → XaI w ya := fun w hw => hya0.keep w hw
  have hf1 := cells_keep hf1 _ hst2
  have hf2 := cells_keep hf2 _ hst2
  have hsF := hsF.keep _ hst2
  have hsH := hsH.keep _ hst2
  refine VC.reg (VO.l (LO.mv (.r rfl)) rfl<|VO.l (LO.ne (.r rfl) (.r rfl)) rfl<|VO.l (LO.mv (.r rfl)) rfl<|VO.lg rfl rfl (GD.f _) (fun hg => LO.mv (.r rfl)) rfl<|VO.lg rfl rfl (GD.f _) (fun hg => LO.len S29 (.g hg rfl) rfl) rfl<|VO.lg rfl rfl (GD.f _) (fun hg => LO.ne (.g hg rfl) (.r rfl)) rfl<|VO.l (LO.pkO (.r rfl) (.r rfl) rfl rfl) rfl<|VO.l (LO.mv (.r rfl)) rfl<|VO.lg rfl rfl (GD.f _) (fun hg => LO.mv (.r rfl)) rfl<|VO.lg rfl rfl (GD.f _) (fun hg => LO.ixs S29 N73 hya0.ar.sm (.g hg rfl) (.r rfl) (j := 0) rfl Nat.zero_lt_one) rfl<|VO.lg rfl rfl (GD.f _) (fun hg => LO.fa F73_0 (.g hg rfl) rfl) rfl<|VO.lg rfl rfl (GD.f _) (fun hg => LO.ld O40 (.g hg rfl) (fun w hw => cells_part (off := 0) ((fun w3 h3 => RO.cel (hya w3 h3).ar (show [ya.a][0]? = some ya.a from rfl)) w hw) ⟨_, rfl⟩)) rfl<|VO.bc (x := 33) rfl (fun hg3_7 => (by exfalso; exact absurd hg3_7 (by decide))) (fun hg3_7 => VO.gT rfl rfl (congrArg Value.bool hg3_7) rfl<|HO.bs (ps := [(_,_), (_,_), (_,_)]) (vs := [(_,_), (_,_), (_,_)]) (Z := [_,_,_]) (C := [_,_,_]) S40 Z3 N3 ⟨(.r rfl), (.r rfl), (.r rfl), trivial⟩ rfl rfl rfl rfl ⟨_, [_], [_,_,_], rfl, rfl, rfl, rfl, ⟨_, [_], [_,_,_], rfl, rfl, rfl, rfl, ⟨_, [_], [_,_,_], rfl, rfl, rfl, rfl, rfl⟩⟩⟩ fun b17 => VO.gT rfl rfl (congrArg Value.bool hg3_7) rfl<|HO.lo (LO.call (xs := [_,_]) (vs := [_,_]) C40 ⟨(.g (by rw [hg3_7]; rfl) rfl), (.r rfl), trivial⟩ (fun w2 hw => numbers_c [0,1,2] [0,1,2] ya.pp ya.pc (some ⟨b17,0, none⟩) 3 w2 (hya w2 hw).px (ints_lit [0,1,2] (cells_inv (hw.inv 0 _ rfl))) (by decide)))<|VO.gT rfl rfl (congrArg Value.bool hg3_7) rfl<|HO.lo (LO.not (.r rfl))<|VO.h rfl<|HO.lo (LO.pkF (.r rfl) hg3_7 (.r rfl))<|VO.h rfl<|HO.lo (LO.mv (.r rfl))<|VO.lg rfl rfl (GD.f _) (fun hg => LO.mv (.r rfl)) rfl<|VO.lg rfl rfl (GD.f _) (fun hg => LO.ixs S29 N73 hya0.ar.sm (.g hg rfl) (.r rfl) (j := 0) rfl Nat.zero_lt_one) rfl<|VO.lg rfl rfl (GD.f _) (fun hg => LO.fa F73_1 (.g hg rfl) rfl) rfl<|VO.lg rfl rfl (GD.f _) (fun hg => LO.ld O41 (.g hg rfl) (fun w hw => cells_part (off := 1) ((fun w3 h3 => RO.cel (hya w3 h3).ar (show [ya.a][0]? = some ya.a from rfl)) w hw) ⟨_, rfl⟩)) rfl<|VO.bc (x := 42) rfl (fun hg3_16 => (by exfalso; exact absurd hg3_16 (by decide))) (fun hg3_16 => VO.gT rfl rfl (congrArg Value.bool hg3_16) rfl<|HO.bs (ps := [(_,_)]) (vs := [(_,_)]) (Z := [_]) (C := [_]) S40 Z3 N3 ⟨(.r rfl), trivial⟩ rfl rfl rfl rfl ⟨_, [_], [_], rfl, rfl, rfl, rfl, rfl⟩ fun b18 => VO.gT rfl rfl (congrArg Value.bool hg3_16) rfl<|HO.bs (ps := [(_,_)]) (vs := [(_,_)]) (Z := [_]) (C := [_]) S40 Z3 N3 ⟨(.r rfl), trivial⟩ rfl rfl rfl rfl ⟨_, [_], [_], rfl, rfl, rfl, rfl, rfl⟩ fun b19 => VO.gT rfl rfl (congrArg Value.bool hg3_16) rfl<|HO.bs (ps := [(_,_), (_,_)]) (vs := [(_,_), (_,_)]) (Z := [_,_]) (C := [_,_]) S41 Z40 N40 ⟨(.r rfl), (.r rfl), trivial⟩ rfl rfl rfl rfl ⟨_, [_], [_,_], rfl, rfl, rfl, rfl, ⟨_, [_], [_,_], rfl, rfl, rfl, rfl, rfl⟩⟩ fun b20 => VO.gT rfl rfl (congrArg Value.bool hg3_16) rfl<|HO.lo (LO.call (xs := [_,_]) (vs := [_,_]) C26 ⟨(.g (by rw [hg3_16]; rfl) rfl), (.r rfl), trivial⟩ (fun w2 hw => lists_c [⟨ya.p1, ya.c1, [0]⟩, ⟨ya.p2, ya.c2, [2]⟩] [⟨some ⟨b18,0, none⟩, 1, [0]⟩, ⟨some ⟨b19,0, none⟩, 1, [2]⟩] ya.kp ya.kc (some ⟨b20,0, none⟩) 2 w2 (hya w2 hw).kr (rr_lit2 (ints_lit [0] (cells_inv (hw.inv 2 _ rfl))) (ints_lit [2] (cells_inv (hw.inv 1 _ rfl))) (cells_inv (hw.inv 0 _ rfl))) (show 2 ≤ 1000000 by decide) (two_rows rfl rfl)))<|VO.gT rfl rfl (congrArg Value.bool hg3_16) rfl<|HO.lo (LO.not (.r rfl))<|VO.h rfl<|HO.lo (LO.pkF (.r rfl) hg3_16 (.r rfl))<|VO.h rfl<|HO.lo (LO.mv (.r rfl))<|VO.lg rfl rfl (GD.f _) (fun hg => LO.mv (.r rfl)) rfl<|VO.lg rfl rfl (GD.f _) (fun hg => LO.ixs S29 N73 hya0.ar.sm (.g hg rfl) (.r rfl) (j := 0) rfl Nat.zero_lt_one) rfl<|VO.lg rfl rfl (GD.f _) (fun hg => LO.fa F73_2 (.g hg rfl) rfl) rfl<|VO.lg rfl rfl (GD.f _) (fun hg => LO.lda (vs := [_,_]) A71 (.g hg rfl) (fun w hw => cells_part (off := 2) ((fun w3 h3 => RO.cel (hya w3 h3).ar (show [ya.a][0]? = some ya.a from rfl)) w hw) ⟨_, rfl⟩) rfl) rfl<|VO.lg rfl rfl (GD.f _) (fun hg => LO.bd (ps := [(_,_), (_,_)]) (vs := [(_,_), (_,_)]) (C := [_,_]) B71  ⟨(.r rfl), (.r rfl), trivial⟩ rfl ⟨_, [_], [_,_], rfl, rfl, rfl, rfl, ⟨_, [_], [_,_], rfl, rfl, rfl, rfl, rfl⟩⟩) rfl<|VO.lg rfl rfl (GD.f _) (fun hg => LO.neA («as» := [_,_]) (bs := [_,_]) EA71 (.g hg rfl) (.g hg rfl) rfl rfl) rfl<|VO.h rfl<|HO.lo (LO.pkO (.r rfl) (.r rfl) rfl rfl)<|VO.h rfl<|HO.lo (LO.mv (.r rfl))<|VO.lg rfl rfl (GD.f _) (fun hg => LO.mv (.r rfl)) rfl<|VO.lg rfl rfl (GD.f _) (fun hg => LO.ixs S29 N73 hya0.ar.sm (.g hg rfl) (.r rfl) (j := 0) rfl Nat.zero_lt_one) rfl<|VO.lg rfl rfl (GD.f _) (fun hg => LO.fa F73_4 (.g hg rfl) rfl) rfl<|VO.lg rfl rfl (GD.f _) (fun hg => LO.lda (vs := [_,_]) A71 (.g hg rfl) (fun w hw => cells_part (off := 6) ((fun w3 h3 => RO.cel (hya w3 h3).ar (show [ya.a][0]? = some ya.a from rfl)) w hw) ⟨_, rfl⟩) rfl) rfl<|VO.lg rfl rfl (GD.f _) (fun hg => LO.bd (ps := [(_,_), (_,_)]) (vs := [(_,_), (_,_)]) (C := [_,_]) B71  ⟨(.r rfl), (.r rfl), trivial⟩ rfl ⟨_, [_], [_,_], rfl, rfl, rfl, rfl, ⟨_, [_], [_,_], rfl, rfl, rfl, rfl, rfl⟩⟩) rfl<|VO.lg rfl rfl (GD.f _) (fun hg => LO.neA («as» := [_,_]) (bs := [_,_]) EA71 (.g hg rfl) (.g hg rfl) rfl rfl) rfl<|VO.h rfl<|HO.lo (LO.pkO (.r rfl) (.r rfl) rfl rfl)<|VO.nil ?_)))
  refine VE.seqN ?_
  refine VC.cond rfl (fun h68 => ?_) (fun h68 => ?_)
  ·
    (exfalso; rcases h68 with (z | z) | z <;> exact z rfl)
  ·
    refine VC.skip (VE.seqN ?_)
    refine VC.seq ?_
    refine VC.perm [] rfl ?_
    show VC _ _ _ _ _ _ [] _ _
    refine VC.reg (VO.l (LO.lda (vs := [_,_,_,_,_,_]) A26 (.r rfl) (cells_keep (sub_cells (off := 0) hf1 ⟨_, rfl⟩)) rfl) rfl<|VO.l (LO.call (xs := [_,_,_,_]) (vs := [_,_,_,_]) C20 ⟨(.r rfl), (.r rfl), (.r rfl), (.r rfl), trivial⟩ (fun w2 hw => xJoin2_c f1.p f1.c w2 (hsF.keep w2 hw))) rfl<|VO.l (LO.mv (.r rfl)) rfl<|VO.l (LO.ex (.r rfl) rfl) rfl<|VO.l (LO.ex (.r rfl) rfl) rfl<|VO.l (LO.as (.r rfl)) rfl<|VO.l (LO.as (.r rfl)) rfl<|VO.nil ?_)
    refine VE.seqN ?_
    refine VC.seq ?_
    refine VC.reg (VO.l (LO.lda (vs := [_,_,_,_,_,_]) A26 (.r rfl) (cells_keep (sub_cells (off := 0) hf1 ⟨_, rfl⟩)) rfl) rfl<|VO.l (LO.call (xs := [_,_,_,_]) (vs := [_,_,_,_]) C20 ⟨(.r rfl), (.r rfl), (.r rfl), (.r rfl), trivial⟩ (fun w2 hw => xJoin3_c f1.p f1.c w2 (hsF.keep w2 hw))) rfl<|VO.l (LO.mv (.r rfl)) rfl<|VO.l (LO.ex (.r rfl) rfl) rfl<|VO.l (LO.ex (.r rfl) rfl) rfl<|VO.l (LO.as (.r rfl)) rfl<|VO.l (LO.as (.r rfl)) rfl<|VO.nil ?_)
    refine VE.seqN ?_
    refine VC.seq ?_
    refine VC.reg (VO.l (LO.lda (vs := [_,_,_,_,_,_]) A26 (.r rfl) (cells_keep (sub_cells (off := 0) hf1 ⟨_, rfl⟩)) rfl) rfl<|VO.l (LO.call (xs := [_,_,_,_]) (vs := [_,_,_,_]) C22 ⟨(.r rfl), (.r rfl), (.r rfl), (.r rfl), trivial⟩ (fun w2 hw => xGap2_c f1.p f1.c w2 (hsF.keep w2 hw))) rfl<|VO.l (LO.mv (.r rfl)) rfl<|VO.l (LO.ex (.r rfl) rfl) rfl<|VO.l (LO.ex (.r rfl) rfl) rfl<|VO.l (LO.as (.r rfl)) rfl<|VO.l (LO.as (.r rfl)) rfl<|VO.nil ?_)
    refine VE.seqN ?_
    refine VC.seq ?_
    refine VC.reg (VO.l (LO.lda (vs := [_,_,_,_,_,_]) A26 (.r rfl) (cells_keep (sub_cells (off := 0) hf1 ⟨_, rfl⟩)) rfl) rfl<|VO.l (LO.call (xs := [_,_,_,_]) (vs := [_,_,_,_]) C22 ⟨(.r rfl), (.r rfl), (.r rfl), (.r rfl), trivial⟩ (fun w2 hw => xGap3_c f1.p f1.c w2 (hsF.keep w2 hw))) rfl<|VO.l (LO.mv (.r rfl)) rfl<|VO.l (LO.ex (.r rfl) rfl) rfl<|VO.l (LO.ex (.r rfl) rfl) rfl<|VO.l (LO.as (.r rfl)) rfl<|VO.l (LO.as (.r rfl)) rfl<|VO.nil ?_)
    refine VE.seqN ?_
    refine VC.seq ?_
    refine VC.seq ?_
    refine VC.reg (VO.l (LO.mv (.r rfl)) rfl<|VO.l (LO.ne (.r rfl) (.r rfl)) rfl<|VO.l (LO.mv (.r rfl)) rfl<|VO.lg rfl rfl (GD.f _) (fun hg => LO.mv (.r rfl)) rfl<|VO.lg rfl rfl (GD.f _) (fun hg => LO.ne (.g hg rfl) (.r rfl)) rfl<|VO.l (LO.pkO (.r rfl) (.r rfl) rfl rfl) rfl<|VO.l (LO.mv (.r rfl)) rfl<|VO.lg rfl rfl (GD.f _) (fun hg => LO.mv (.r rfl)) rfl<|VO.lg rfl rfl (GD.f _) (fun hg => LO.ne (.g hg rfl) (.r rfl)) rfl<|VO.l (LO.pkO (.r rfl) (.r rfl) rfl rfl) rfl<|VO.l (LO.mv (.r rfl)) rfl<|VO.lg rfl rfl (GD.f _) (fun hg => LO.mv (.r rfl)) rfl<|VO.lg rfl rfl (GD.f _) (fun hg => LO.ne (.g hg rfl) (.r rfl)) rfl<|VO.l (LO.pkO (.r rfl) (.r rfl) rfl rfl) rfl<|VO.l (LO.mv (.r rfl)) rfl<|VO.lg rfl rfl (GD.f _) (fun hg => LO.mv (.r rfl)) rfl<|VO.lg rfl rfl (GD.f _) (fun hg => LO.ne (.g hg rfl) (.r rfl)) rfl<|VO.l (LO.pkO (.r rfl) (.r rfl) rfl rfl) rfl<|VO.l (LO.mv (.r rfl)) rfl<|VO.lg rfl rfl (GD.f _) (fun hg => LO.mv (.r rfl)) rfl<|VO.lg rfl rfl (GD.f _) (fun hg => LO.ne (.g hg rfl) (.r rfl)) rfl<|VO.l (LO.pkO (.r rfl) (.r rfl) rfl rfl) rfl<|VO.l (LO.mv (.r rfl)) rfl<|VO.lg rfl rfl (GD.f _) (fun hg => LO.mv (.r rfl)) rfl<|VO.lg rfl rfl (GD.f _) (fun hg => LO.ne (.g hg rfl) (.r rfl)) rfl<|VO.l (LO.pkO (.r rfl) (.r rfl) rfl rfl) rfl<|VO.l (LO.mv (.r rfl)) rfl<|VO.lg rfl rfl (GD.f _) (fun hg => LO.mv (.r rfl)) rfl<|VO.lg rfl rfl (GD.f _) (fun hg => LO.ne (.g hg rfl) (.r rfl)) rfl<|VO.l (LO.pkO (.r rfl) (.r rfl) rfl rfl) rfl<|VO.nil ?_)
    refine VE.seqN ?_
    refine VC.cond rfl (fun h118 => ?_) (fun h118 => ?_)
    ·
      (exfalso; exact absurd h118 (by decide))
    ·
      refine VC.skip (VE.seqN ?_)
      refine VC.seq ?_
      refine VC.reg (VO.l (LO.lda (vs := [_,_,_,_,_,_]) A26 (.r rfl) (cells_keep (sub_cells (off := 0) hf1 ⟨_, rfl⟩)) rfl) rfl<|VO.h rfl<|HO.bs (ps := [(_,_), (_,_)]) (vs := [(_,_), (_,_)]) (Z := [_,_]) (C := [_,_]) S40 Z3 N3 ⟨(.r rfl), (.r rfl), trivial⟩ rfl rfl rfl rfl ⟨_, [_], [_,_], rfl, rfl, rfl, rfl, ⟨_, [_], [_,_], rfl, rfl, rfl, rfl, rfl⟩⟩ fun b21 => VO.h rfl<|HO.callx (xs := [_,_]) (vs := [_,_]) C24 ⟨(.r rfl), (.r rfl), trivial⟩ (fun w2 hw => xTree_c f1.p f1.c b21 w2 (hsF.keep w2 hw) (ints_lit [1,5] (cells_inv (hw.inv 0 _ rfl)))) fun yt _ => VO.h rfl<|HO.lo (LO.mv (.r rfl))<|VO.h rfl<|HO.lo (LO.ex (.r rfl) rfl)<|VO.h rfl<|HO.lo (LO.ex (.r rfl) rfl)<|VO.h rfl<|HO.lo (LO.as (.r rfl))<|VO.h rfl<|HO.lo (LO.as (.r rfl))<|VO.nil ?_)
      refine VE.seqN ?_
      refine VC.seq ?_
      refine VC.reg (VO.l (LO.lda (vs := [_,_,_,_,_,_]) A26 (.r rfl) (cells_keep (sub_cells (off := 0) hf1 ⟨_, rfl⟩)) rfl) rfl<|VO.l (LO.lda (vs := [_,_,_,_,_,_]) A26 (.r rfl) (cells_keep (sub_cells (off := 0) hf2 ⟨_, rfl⟩)) rfl) rfl<|VO.h rfl<|HO.callx (xs := [_,_,_,_]) (vs := [_,_,_,_]) C27 ⟨(.r rfl), (.r rfl), (.r rfl), (.r rfl), trivial⟩ (fun w2 hw => xMatch_c f1.p f1.c f2.p f2.c w2 (hsF.keep w2 hw) (hsH.keep w2 hw)) fun ye _ => VO.h rfl<|HO.lo (LO.mv (.r rfl))<|VO.h rfl<|HO.lo (LO.ex (.r rfl) rfl)<|VO.h rfl<|HO.lo (LO.ex (.r rfl) rfl)<|VO.h rfl<|HO.lo (LO.as (.r rfl))<|VO.h rfl<|HO.lo (LO.as (.r rfl))<|VO.nil ?_)
      refine VE.seqN ?_
      refine VC.seq ?_
      refine VC.reg (VO.l (LO.lda (vs := [_,_,_,_,_,_]) A26 (.r rfl) (cells_keep (sub_cells (off := 0) hf1 ⟨_, rfl⟩)) rfl) rfl<|VO.l (LO.lda (vs := [_,_,_,_,_,_]) A26 (.r rfl) (cells_keep (sub_cells (off := 0) hf2 ⟨_, rfl⟩)) rfl) rfl<|VO.h rfl<|HO.callx (xs := [_,_,_,_,_,_]) (vs := [_,_,_,_,_,_]) C30 ⟨(.r rfl), (.r rfl), (.r rfl), (.r rfl), (.r rfl), (.r rfl), trivial⟩ (fun w2 hw => xMoves_c f1.p f1.c f2.p f2.c w2 (hsF.keep w2 hw) (hsH.keep w2 hw)) fun ym _ => VO.h rfl<|HO.lo (LO.mv (.r rfl))<|VO.h rfl<|HO.lo (LO.ex (.r rfl) rfl)<|VO.h rfl<|HO.lo (LO.ex (.r rfl) rfl)<|VO.h rfl<|HO.lo (LO.as (.r rfl))<|VO.h rfl<|HO.lo (LO.as (.r rfl))<|VO.nil ?_)
      refine VE.seqN ?_
      refine VC.seq ?_
      refine VC.seq ?_
      refine VC.reg (VO.l (LO.mv (.r rfl)) rfl<|VO.l (LO.ne (.r rfl) (.r rfl)) rfl<|VO.l (LO.mv (.r rfl)) rfl<|VO.lg rfl rfl (GD.f _) (fun hg => LO.mv (.r rfl)) rfl<|VO.lg rfl rfl (GD.f _) (fun hg => LO.ne (.g hg rfl) (.r rfl)) rfl<|VO.l (LO.pkO (.r rfl) (.r rfl) rfl rfl) rfl<|VO.l (LO.mv (.r rfl)) rfl<|VO.lg rfl rfl (GD.f _) (fun hg => LO.mv (.r rfl)) rfl<|VO.lg rfl rfl (GD.f _) (fun hg => LO.ne (.g hg rfl) (.r rfl)) rfl<|VO.l (LO.pkO (.r rfl) (.r rfl) rfl rfl) rfl<|VO.l (LO.mv (.r rfl)) rfl<|VO.lg rfl rfl (GD.f _) (fun hg => LO.mv (.r rfl)) rfl<|VO.bc (x := 147) rfl (fun hg14_10 => (by exfalso; exact absurd hg14_10 (by decide))) (fun hg14_10 => VO.gT rfl rfl (congrArg Value.bool hg14_10) rfl<|HO.bs (ps := [(_,_)]) (vs := [(_,_)]) (Z := [_]) (C := [_]) S40 Z3 N3 ⟨(.r rfl), trivial⟩ rfl rfl rfl rfl ⟨_, [_], [_], rfl, rfl, rfl, rfl, rfl⟩ fun b28 => VO.gT rfl rfl (congrArg Value.bool hg14_10) rfl<|HO.bs (ps := [(_,_)]) (vs := [(_,_)]) (Z := [_]) (C := [_]) S40 Z3 N3 ⟨(.r rfl), trivial⟩ rfl rfl rfl rfl ⟨_, [_], [_], rfl, rfl, rfl, rfl, rfl⟩ fun b29 => VO.gT rfl rfl (congrArg Value.bool hg14_10) rfl<|HO.bs (ps := [(_,_), (_,_)]) (vs := [(_,_), (_,_)]) (Z := [_,_]) (C := [_,_]) S41 Z40 N40 ⟨(.r rfl), (.r rfl), trivial⟩ rfl rfl rfl rfl ⟨_, [_], [_,_], rfl, rfl, rfl, rfl, ⟨_, [_], [_,_], rfl, rfl, rfl, rfl, rfl⟩⟩ fun b30 => VO.gT rfl rfl (congrArg Value.bool hg14_10) rfl<|HO.lo (LO.call (xs := [_,_]) (vs := [_,_]) C26 ⟨(.g (by rw [hg14_10]; rfl) rfl), (.r rfl), trivial⟩ (fun w2 hw => lists_c [⟨yt.p1, yt.c1, [-1]⟩, ⟨yt.p2, yt.c2, [0]⟩] [⟨some ⟨b28,0, none⟩, 1, [-1]⟩, ⟨some ⟨b29,0, none⟩, 1, [0]⟩] yt.p yt.c (some ⟨b30,0, none⟩) 2 w2 (RR.of_own hw 7 8 rfl rfl) (rr_lit2 (ints_lit [-1] (cells_inv (hw.inv 2 _ rfl))) (ints_lit [0] (cells_inv (hw.inv 1 _ rfl))) (cells_inv (hw.inv 0 _ rfl))) (show 2 ≤ 1000000 by decide) (two_rows rfl rfl)))<|VO.gT rfl rfl (congrArg Value.bool hg14_10) rfl<|HO.lo (LO.not (.r rfl))<|VO.h rfl<|HO.lo (LO.pkF (.r rfl) hg14_10 (.r rfl))<|VO.h rfl<|HO.lo (LO.mv (.r rfl))<|VO.lg rfl rfl (GD.f _) (fun hg => LO.mv (.r rfl)) rfl<|VO.lg rfl rfl (GD.f _) (fun hg => LO.len S46 (.g hg rfl) rfl) rfl<|VO.lg rfl rfl (GD.f _) (fun hg => LO.ne (.g hg rfl) (.r rfl)) rfl<|VO.h rfl<|HO.lo (LO.pkO (.r rfl) (.r rfl) rfl rfl)<|VO.h rfl<|HO.lo (LO.mv (.r rfl))<|VO.lg rfl rfl (GD.f _) (fun hg => LO.mv (.r rfl)) rfl<|VO.lg rfl rfl (GD.f _) (fun hg => LO.ixo S46 N81 (fun _ hw => (own_rows hw 4 rfl).some (by rfl)) (.g hg rfl) (.r rfl) (j := 0) rfl Nat.zero_lt_one) rfl<|VO.lg rfl rfl (GD.f _) (fun hg => LO.fa F81_0 (.g hg rfl) rfl) rfl<|VO.lg rfl rfl (GD.f _) (fun hg => LO.ld O3 (.g hg rfl) (fun w hw => cells_part (off := 0) (own_cell hw 4 rfl (show [ye.e][0]? = some ye.e from rfl)) ⟨_, rfl⟩)) rfl<|VO.lg rfl rfl (GD.f _) (fun hg => LO.ne (.g hg rfl) (.r rfl)) rfl<|VO.h rfl<|HO.lo (LO.pkO (.r rfl) (.r rfl) rfl rfl)<|VO.h rfl<|HO.lo (LO.mv (.r rfl))<|VO.lg rfl rfl (GD.f _) (fun hg => LO.mv (.r rfl)) rfl<|VO.lg rfl rfl (GD.f _) (fun hg => LO.len S53 (.g hg rfl) rfl) rfl<|VO.lg rfl rfl (GD.f _) (fun hg => LO.ne (.g hg rfl) (.r rfl)) rfl<|VO.h rfl<|HO.lo (LO.pkO (.r rfl) (.r rfl) rfl rfl)<|VO.h rfl<|HO.lo (LO.mv (.r rfl))<|VO.lg rfl rfl (GD.f _) (fun hg => LO.mv (.r rfl)) rfl<|VO.lg rfl rfl (GD.f _) (fun hg => LO.ixo S53 N85 (fun _ hw => (own_rows hw 3 rfl).some (by rfl)) (.g hg rfl) (.r rfl) (j := 3) rfl (by decide)) rfl<|VO.lg rfl rfl (GD.f _) (fun hg => LO.lda (vs := [_,_]) A85 (.g hg rfl) (fun w hw => cells_part (off := 0) (own_cell hw 3 rfl (show xMv[3]? = some _ from rfl)) ⟨_, rfl⟩) rfl) rfl<|VO.lg rfl rfl (GD.f _) (fun hg => LO.bd (ps := [(_,_)]) (vs := [(_,_)]) (C := [_,_]) B85  ⟨(.r rfl), trivial⟩ rfl ⟨_, [_], [_,_], rfl, rfl, rfl, rfl, rfl⟩) rfl<|VO.lg rfl rfl (GD.f _) (fun hg => LO.neA («as» := [_,_]) (bs := [_,_]) EA85 (.g hg rfl) (.g hg rfl) rfl rfl) rfl<|VO.h rfl<|HO.lo (LO.pkO (.r rfl) (.r rfl) rfl rfl)<|VO.h rfl<|HO.lo (LO.mv (.r rfl))<|VO.lg rfl rfl (GD.f _) (fun hg => LO.mv (.r rfl)) rfl<|VO.lg rfl rfl (GD.f _) (fun hg => LO.ixo S53 N85 (fun _ hw => (own_rows hw 3 rfl).some (by rfl)) (.g hg rfl) (.r rfl) (j := 4) rfl (by decide)) rfl<|VO.lg rfl rfl (GD.f _) (fun hg => LO.lda (vs := [_,_]) A85 (.g hg rfl) (fun w hw => cells_part (off := 0) (own_cell hw 3 rfl (show xMv[4]? = some _ from rfl)) ⟨_, rfl⟩) rfl) rfl<|VO.lg rfl rfl (GD.f _) (fun hg => LO.bd (ps := [(_,_)]) (vs := [(_,_)]) (C := [_,_]) B85  ⟨(.r rfl), trivial⟩ rfl ⟨_, [_], [_,_], rfl, rfl, rfl, rfl, rfl⟩) rfl<|VO.lg rfl rfl (GD.f _) (fun hg => LO.neA («as» := [_,_]) (bs := [_,_]) EA85 (.g hg rfl) (.g hg rfl) rfl rfl) rfl<|VO.h rfl<|HO.lo (LO.pkO (.r rfl) (.r rfl) rfl rfl)<|VO.nil ?_))
      refine VE.seqN ?_
      refine VC.cond rfl (fun h185 => ?_) (fun h185 => ?_)
      ·
        (exfalso; rcases h185 with ((((z | z) | z) | z) | z) | z <;> exact z rfl)
      ·
        refine VC.skip (VE.seqN ?_)
        refine VC.seq ?_
        refine VC.perm [] rfl ?_
        show VC _ _ _ _ _ _ [] _ _
        refine VC.reg (VO.l (LO.fa (r := 0) F26_0 (.r rfl) rfl) rfl<|VO.l (LO.lda (vs := [_,_,_,_,_]) A23 (.r rfl) (cells_keep (sub_cells (off := 0) hf1 ⟨_, rfl⟩)) rfl) rfl<|VO.h rfl<|HO.callx (xs := [_,_,_]) (vs := [_,_,_]) C47 ⟨(.r rfl), (.r rfl), (.r rfl), trivial⟩ (fun w2 hw => NewBook_ok xG 5 1 w2 xBook) fun yb _ => VO.h rfl<|HO.lo (LO.mv (.r rfl))<|VO.h rfl<|HO.lo (LO.ex (.r rfl) rfl)<|VO.h rfl<|HO.lo (LO.ex (.r rfl) rfl)<|VO.h rfl<|HO.lo (LO.as (.r rfl))<|VO.h rfl<|HO.lo (LO.as (.r rfl))<|VO.nil ?_)
        refine VE.seqN ?_
        refine VC.seq ?_
        refine VC.seq ?_
        refine VC.reg (VO.l (LO.mv (.r rfl)) rfl<|VO.l (LO.ne (.r rfl) (.r rfl)) rfl<|VO.nil ?_)
        refine VE.seqN ?_
        refine VC.cond rfl (fun h193 => ?_) (fun h193 => ?_)
        ·
          (exfalso; exact absurd h193 (by decide))
        ·
          refine VC.skip (VE.seqN ?_)
          refine VC.seq ?_
          refine VC.res (fun w hw => St.bagD (Rs := []) (St.bagD (Rs := []) ((St.bagD (Rs := []) ((hw.ownNil 109 6)) ).ownNil 154 7))) ?_
          refine VC.reg (VO.l (LO.mv (.r rfl)) rfl<|VO.l (LO.lda (vs := [_,_,_,_,_,_]) A26 (.r rfl) (cells_keep (sub_cells (off := 0) hf1 ⟨_, rfl⟩)) rfl) rfl<|VO.h rfl<|HO.callP (first := []) (cap := []) (xs := [_,_,_]) (vs := [_,_,_]) [_,_,_,_,_,_,_] [] (selK (L1 := [_,_,_,_,_,_,_] ++ []) [5,4,3,6,2,0,1] rfl rfl) (.r rfl) C48 ⟨(.r rfl), (.r rfl), (.r rfl), trivial⟩ (fun w2 hw hh => Add_0 yb.1 (xBk yb.2) (-1) none 0 none 0 (fun _ => 0) [] (fun _ => none) 10 xF f1.p f1.c w2 hh (fun hs => hsF.keep _ (St.fz (R := bkF yb.1 (xBk yb.2) (-1) none 0 [] none 0 (fun _ => 0) [] (fun _ => none)) (rest := []) (selK (L1 := [_,_,_,_,_,_,_]) [5,4,3,6,2,0,1] rfl rfl _ hw) hs)) (xAdd0 _) (show (1 : Int) ≤ 5 ∧ (5 : Int) ≤ 1073741824 by decide) (by decide)) fun ad had => VO.h rfl<|HO.lo (LO.mv (.r rfl))<|VO.h rfl<|HO.lo (LO.ex (.r rfl) rfl)<|VO.h rfl<|HO.lo (LO.ex (.r rfl) rfl)<|VO.h rfl<|HO.lo (LO.as (.r rfl))<|VO.nil ?_)
          have hadn : ad.yN.l.length = 1 := by rw [← ar_len had.1]; exact xNf
          have hadl : ad.tk.length ≤ 800000 := by have z := had.2.2; rw [hadn] at z; exact Nat.le_trans z (by decide)
          refine VE.seqN ?_
          refine VC.seq ?_
          refine VC.reg (VO.l (LO.mv (.r rfl)) rfl<|VO.l (LO.lda (vs := [_,_,_,_,_,_]) A26 (.r rfl) (cells_keep (sub_cells (off := 0) hf2 ⟨_, rfl⟩)) rfl) rfl<|VO.h rfl<|HO.callP (first := []) (cap := []) (xs := [_,_,_]) (vs := [_,_,_]) [_,_,_,_,_,_,_] [_,_,_,_,_,_,_,_] (selK (L1 := [_,_,_,_,_,_,_] ++ [_,_,_,_,_,_,_,_]) [0,1,2,3,4,5,6,7,8,9,10,11,12,13,14] rfl rfl) (.r rfl) C48 ⟨(.r rfl), (.r rfl), (.r rfl), trivial⟩ (fun w2 hw hh => Add_1 yb.1 (xBk yb.2) 10 ad.pm ad.cm [ad.yN] ad.pt ad.ct (fun _ => 0) ad.tk ad.of 20 xH f2.p f2.c w2 hh (fun hs => hsH.keep _ (St.fz (R := bkF yb.1 (xBk yb.2) 10 ad.pm ad.cm [ad.yN] ad.pt ad.ct (fun _ => 0) ad.tk ad.of) (rest := [_,_,_,_,_,_,_,_]) (selK (L1 := [_,_,_,_,_,_,_,_,_,_,_,_,_,_,_]) [0,1,2,3,4,5,6,7,8,9,10,11,12,13,14] rfl rfl _ hw) hs)) (xAdd1 _) (show (1 : Int) ≤ 5 ∧ (5 : Int) ≤ 1073741824 by decide) hadl 0 1 rfl (show 1 ≤ 48 by decide) ad.yN rfl xF had.1 (fun hs => SpI.of_res (St.rightOf (St.fz (R := bkF yb.1 (xBk yb.2) 10 ad.pm ad.cm [ad.yN] ad.pt ad.ct (fun _ => 0) ad.tk ad.of) (rest := [_,_,_,_,_,_,_,_]) (selK (L1 := [_,_,_,_,_,_,_,_,_,_,_,_,_,_,_]) [0,1,2,3,4,5,6,7,8,9,10,11,12,13,14] rfl rfl _ hw) hs)) had.1 0 1 3 7 rfl rfl rfl rfl) [[]] [ad.yN.l.length] (book0 had.2.1) rfl rfl rfl (by decide) (fun _ => by decide)) fun ae hae => VO.h rfl<|HO.lo (LO.mv (.r rfl))<|VO.h rfl<|HO.lo (LO.ex (.r rfl) rfl)<|VO.h rfl<|HO.lo (LO.ex (.r rfl) rfl)<|VO.h rfl<|HO.lo (LO.as (.r rfl))<|VO.nil ?_)
          have haen : ae.yN.l.length = 1 := by rw [← ar_len hae.ar]; exact xNh
          have hes : ae.ev.l.map EvR.m = [⟨4, [0], [0]⟩] := by have z := hae.ev; rw [hadn, haen] at z; exact xEv z
          have hkd := hae.kd
          rw [hes] at hkd
          have hb0 := had.2.1
          rw [hadn] at hb0
          have hb1 := hae.trk
          rw [hes, haen] at hb1
          obtain ⟨htkm, hks⟩ := exB1 hb0 hb1
          refine VE.seqN ?_
          refine VC.seq ?_
          refine VC.reg (VO.l (LO.mv (.r rfl)) rfl<|VO.l (LO.lda (vs := [_,_,_,_,_,_]) A26 (.r rfl) (cells_keep (sub_cells (off := 0) hf2 ⟨_, rfl⟩)) rfl) rfl<|VO.l (LO.call (xs := [_,_,_]) (vs := [_,_,_]) C48 ⟨(.r rfl), (.r rfl), (.r rfl), trivial⟩ (fun w2 hw => xLate_c yb.1 yb.2 _ _ _ _ _ f2.p f2.c w2 (cells_inv (hw.inv 0 _ rfl)) (hsH.keep w2 hw))) rfl<|VO.l (LO.mv (.r rfl)) rfl<|VO.l (LO.ex (.r rfl) rfl) rfl<|VO.l (LO.ex (.r rfl) rfl) rfl<|VO.l (LO.as (.r rfl)) rfl<|VO.nil ?_)
          refine VE.seqN ?_
          refine VC.seq ?_
          refine VC.reg (VO.l (LO.mv (.r rfl)) rfl<|VO.h rfl<|HO.callx (xs := [_]) (vs := [_]) C49 ⟨(.r rfl), trivial⟩ (fun w2 hw => xTracks_c yb.1 _ _ _ _ _ _ ae.tk w2 (cells_inv (hw.inv 0 _ rfl)) (RO.of_own hw 1 rfl) (fun t ht => ⟨(RO.of_bag (E := 3) (z := 1) (P := TkR.ap) (C := TkR.ac) (X := TkR.ar) (f := nC) hw 2 rfl ht), (RO.of_bag (E := 3) (z := 1) (P := TkR.pp) (C := TkR.pc) (X := TkR.pa) (f := nC) hw 5 rfl ht), (RO.of_bag (E := 3) (z := 1) (P := TkR.cp) (C := TkR.cc) (X := TkR.ch) (f := nC) hw 6 rfl ht)⟩) htkm) fun yk _ => VO.l (LO.as (.r rfl)) rfl<|VO.nil ?_)
          refine VE.seqN ?_
          refine VC.seq ?_
          refine VC.reg (VO.l (LO.mv (.r rfl)) rfl<|VO.l (LO.eq (.r rfl) (.r rfl)) rfl<|VO.l (LO.mv (.r rfl)) rfl<|VO.lg rfl rfl (GD.t _) (fun hg => LO.mv (.r rfl)) rfl<|VO.lg rfl rfl (GD.t _) (fun hg => LO.eq (.g hg rfl) (.r rfl)) rfl<|VO.l (LO.pkA (.r rfl) rfl rfl (.r rfl)) rfl<|VO.l (LO.mv (.r rfl)) rfl<|VO.lg rfl rfl (GD.t _) (fun hg => LO.mv (.r rfl)) rfl<|VO.lg rfl rfl (GD.t _) (fun hg => LO.eq (.g hg rfl) (.r rfl)) rfl<|VO.l (LO.pkA (.r rfl) rfl rfl (.r rfl)) rfl<|VO.l (LO.mv (.r rfl)) rfl<|VO.lg rfl rfl (GD.t _) (fun hg => LO.mv (.r rfl)) rfl<|VO.lg rfl rfl (GD.t _) (fun hg => LO.len S102 (.g hg rfl) rfl) rfl<|VO.lg rfl rfl (GD.t _) (fun hg => LO.eq (.g hg rfl) (.r rfl)) rfl<|VO.l (LO.pkA (.r rfl) rfl rfl (.r rfl)) rfl<|VO.l (LO.mv (.r rfl)) rfl<|VO.lg rfl rfl (GD.t _) (fun hg => LO.mv (.r rfl)) rfl<|VO.lg rfl rfl (GD.t _) (fun hg => LO.ixo S102 N109 (fun _ hw => (own_rows hw 0 rfl).some (by rfl)) (.g hg rfl) (.r rfl) (j := 0) rfl Nat.zero_lt_one) rfl<|VO.lg rfl rfl (GD.t _) (fun hg => LO.fa F109_0 (.g hg rfl) rfl) rfl<|VO.lg rfl rfl (GD.t _) (fun hg => LO.ld O3 (.g hg rfl) (fun w hw => cells_part (off := 0) (own_cell hw 0 rfl (show [yk.t][0]? = some yk.t from rfl)) ⟨_, rfl⟩)) rfl<|VO.lg rfl rfl (GD.t _) (fun hg => LO.eq (.g hg rfl) (.r rfl)) rfl<|VO.l (LO.pkA (.r rfl) rfl rfl (.r rfl)) rfl<|VO.l (LO.mv (.r rfl)) rfl<|VO.lg rfl rfl (GD.t _) (fun hg => LO.mv (.r rfl)) rfl<|VO.lg rfl rfl (GD.t _) (fun hg => LO.ixo S102 N109 (fun _ hw => (own_rows hw 0 rfl).some (by rfl)) (.g hg rfl) (.r rfl) (j := 0) rfl Nat.zero_lt_one) rfl<|VO.lg rfl rfl (GD.t _) (fun hg => LO.fa F109_3 (.g hg rfl) rfl) rfl<|VO.lg rfl rfl (GD.t _) (fun hg => LO.ld O3 (.g hg rfl) (fun w hw => cells_part (off := 3) (own_cell hw 0 rfl (show [yk.t][0]? = some yk.t from rfl)) ⟨_, rfl⟩)) rfl<|VO.lg rfl rfl (GD.t _) (fun hg => LO.eq (.g hg rfl) (.r rfl)) rfl<|VO.l (LO.pkA (.r rfl) rfl rfl (.r rfl)) rfl<|VO.l (LO.mv (.r rfl)) rfl<|VO.lg rfl rfl (GD.t _) (fun hg => LO.mv (.r rfl)) rfl<|VO.lg rfl rfl (GD.t _) (fun hg => LO.ixo S102 N109 (fun _ hw => (own_rows hw 0 rfl).some (by rfl)) (.g hg rfl) (.r rfl) (j := 0) rfl Nat.zero_lt_one) rfl<|VO.lg rfl rfl (GD.t _) (fun hg => LO.fa F109_2 (.g hg rfl) rfl) rfl<|VO.lg rfl rfl (GD.t _) (fun hg => LO.ld O40 (.g hg rfl) (fun w hw => cells_part (off := 2) (own_cell hw 0 rfl (show [yk.t][0]? = some yk.t from rfl)) ⟨_, rfl⟩)) rfl<|VO.bc (x := 243) rfl (fun hg23_29 => VO.gT rfl rfl (congrArg Value.bool hg23_29) rfl<|HO.bs (ps := [(_,_), (_,_)]) (vs := [(_,_), (_,_)]) (Z := [_,_]) (C := [_,_]) S40 Z3 N3 ⟨(.r rfl), (.r rfl), trivial⟩ rfl rfl rfl rfl ⟨_, [_], [_,_], rfl, rfl, rfl, rfl, ⟨_, [_], [_,_], rfl, rfl, rfl, rfl, rfl⟩⟩ fun b75 => VO.gT rfl rfl (congrArg Value.bool hg23_29) rfl<|HO.lo (LO.call (xs := [_,_]) (vs := [_,_]) C40 ⟨(.g hg23_29 rfl), (.r rfl), trivial⟩ (fun w2 hw => numbers_c [0,0] [0,0] yk.ap yk.ac (some ⟨b75,0, none⟩) 2 w2 (ints_nat (RO.of_bag (E := 3) (z := 1) (P := TkR.ap) (C := TkR.ac) (X := TkR.ar) (f := nC) (x := yk.t) hw 2 rfl (List.mem_singleton.2 rfl))) (ints_lit [0,0] (cells_inv (hw.inv 0 _ rfl))) (by decide)))<|VO.h rfl<|HO.lo (LO.pkT (.r rfl) hg23_29 (.r rfl))<|VO.h rfl<|HO.lo (LO.mv (.r rfl))<|VO.lg rfl rfl (GD.t _) (fun hg => LO.mv (.r rfl)) rfl<|VO.lg rfl rfl (GD.t _) (fun hg => LO.call (xs := [_]) (vs := [_]) C50 ⟨(.g hg rfl), trivial⟩ (fun w2 hw => xTally_c yb.1 yb.2 _ _ _ ([ad.yN] ++ [ae.yN]) _ _ _ ae.tk ae.of w2 (cells_inv (hw.inv 5 _ rfl)) (hw.inv 8 _ rfl) rfl htkm hks hkd)) rfl<|VO.lg rfl rfl (GD.t _) (fun hg => LO.bd (ps := [(_,_), (_,_), (_,_), (_,_)]) (vs := [(_,_), (_,_), (_,_), (_,_)]) (C := [_,_,_,_,_,_,_,_,_]) B105  ⟨(.r rfl), (.r rfl), (.r rfl), (.r rfl), trivial⟩ rfl ⟨_, [_], [_,_,_,_,_,_,_,_,_], rfl, rfl, rfl, rfl, ⟨_, [_], [_,_,_,_,_,_,_,_,_], rfl, rfl, rfl, rfl, ⟨_, [_], [_,_,_,_,_,_,_,_,_], rfl, rfl, rfl, rfl, ⟨_, [_], [_,_,_,_,_,_,_,_,_], rfl, rfl, rfl, rfl, rfl⟩⟩⟩⟩) rfl<|VO.lg rfl rfl (GD.t _) (fun hg => LO.eqA («as» := [_,_,_,_,_,_,_,_,_]) (bs := [_,_,_,_,_,_,_,_,_]) EA105 (.g hg rfl) (.g hg rfl) rfl rfl) rfl<|VO.h rfl<|HO.lo (LO.pkA (.r rfl) rfl rfl (.r rfl))<|VO.h rfl<|HO.lo (LO.as (.r rfl))<|VO.nil ?_) (fun hg23_29 => (by exfalso; exact absurd (hg23_29.symm.trans (show _ = true from rfl)) (by decide))))
          refine VE.seqN ?_
          refine VC.ret (VE.res (vs := [_]) rfl ⟨rfl, trivial⟩ (fun w hw => ?_))
          exact ⟨rfl, (hst1.call (hst2.call hw)).nil⟩

end Go.Proofs.Ytgemekpofpoopaa

namespace Go.Proofs.Ytgemekpofpoopaa
open Go.SL Go.Proofs Go.Cast Go.Cell
set_option linter.unusedVariables false

theorem C15 : IsFn Try.prog 15 := ⟨_, Try.func15, by decide, rfl⟩
theorem C16 : IsFn Try.prog 16 := ⟨_, Try.func16, by decide, rfl⟩
end Go.Proofs.Ytgemekpofpoopaa

namespace Go.Proofs.Ytgemekpofpoopaa
open Go.SL Go.Proofs Go.Cast Go.Cell
set_option linter.unusedVariables false

theorem S56 : IsSlice Try.prog 56 87 := Try.underlying56
theorem N87 : (Try.prog.info? 87).map (·.size) = some 2 := by kernel_rfl
theorem F87_0 : FieldAt Try.prog 87 0 0 := ⟨_,_, Try.underlying87, rfl, rfl, 0, by kernel_rfl⟩
theorem F87_1 : FieldAt Try.prog 87 1 1 := ⟨_,_, Try.underlying87, rfl, rfl, 0, by kernel_rfl⟩


end Go.Proofs.Ytgemekpofpoopaa

namespace Go.Proofs.Ytgemekpofpoopaa
open Go.SL Go.Proofs Go.Cast Go.Cell
set_option linter.unusedVariables false

theorem sq_bd {a : Int} (h1 : -100 ≤ a) (h2 : a ≤ 100) : 0 ≤ a * a ∧ a * a ≤ 10000 := by
  have key : ∀ n : Nat, n ≤ 100 → ((n : Int)) * n ≤ 10000 := fun n hn => by
    have := Nat.mul_le_mul hn hn
    have h : ((n * n : Nat) : Int) ≤ 10000 := by omega
    rw [Int.natCast_mul] at h; exact h
  rcases Int.le_total 0 a with h | h
  · obtain ⟨n, rfl⟩ : ∃ n : Nat, a = n := ⟨a.toNat, by omega⟩
    exact ⟨Int.mul_nonneg h h, key n (by omega)⟩
  · obtain ⟨n, rfl⟩ : ∃ n : Nat, a = -(n : Int) := ⟨(-a).toNat, by omega⟩
    rw [Int.neg_mul_neg]
    exact ⟨Int.mul_nonneg (by omega) (by omega), key n (by omega)⟩

end Go.Proofs.Ytgemekpofpoopaa

namespace Go.Proofs.Ytgemekpofpoopaa
open Go.SL Go.Proofs Go.Cast Go.Cell
set_option linter.unusedVariables false

theorem mem_at {l : List Int} {n : Int} {i : Nat} (hi : i < l.length) (h : l.getD i 0 = n) : n ∈ l := by
  rw [List.getD_eq_getElem?_getD, List.getElem?_eq_getElem hi] at h
  have h : l[i] = n := h
  rw [← h]; exact List.getElem_mem hi
theorem mem_no {l : List Int} {n : Int} (h : ∀ k, k < l.length → ¬ l.getD k 0 = n) : ¬ n ∈ l := fun hm => by
  obtain ⟨k, hk, e⟩ := List.mem_iff_getElem.1 hm
  refine h k hk ?_
  rw [List.getD_eq_getElem?_getD, List.getElem?_eq_getElem hk]; exact e
end Go.Proofs.Ytgemekpofpoopaa

namespace Go.Proofs.Ytgemekpofpoopaa
open Go.SL Go.Proofs Go.Cast Go.Cell
set_option linter.unusedVariables false
theorem mem_castI {l : List Nat} {p : Nat} : ((p : Int) ∈ l.map fun n : Nat => (n : Int)) ↔ p ∈ l := by
  rw [List.mem_map]
  exact ⟨fun ⟨a, h1, h2⟩ => by have : a = p := by omega
                               subst this; exact h1, fun h => ⟨p, h, rfl⟩⟩
theorem ro_I {w : World} {p : Option Addr} {l : List Nat} (h : RO 1 nC w p l) : RO 1 iC w p (l.map fun n : Nat => (n : Int)) := by
  have e : (l.map fun n : Nat => (n : Int)).map iC = l.map nC := by rw [List.map_map]; rfl
  unfold RO at *; rw [e]; exact h
section
variable {W H : Nat} {vs ts : List Span} {lv : Int} {ar br : ArY} {ow sm : List Int} {i j m p : Nat}
end
end Go.Proofs.Ytgemekpofpoopaa

namespace Go.Proofs.Ytgemekpofpoopaa
open Go.SL Go.Proofs Go.Cast Go.Cell
set_option linter.unusedVariables false



/-- What is read of events. -/
structure EvI (w : World) (p : Option Addr) (l : List EvR) : Prop where
  ev : RO 3 EvR.cells w p l
  f : ∀ e, e ∈ l → RO 1 nC w e.fp e.f
  t : ∀ e, e ∈ l → RO 1 nC w e.tp e.t
theorem EvI.keep {w0 : World} {p : Option Addr} {l : List EvR} (h : EvI w0 p l) : ∀ {L : List Res} (w : World), St (bs w0) L w → EvI w p l := fun w hw => ⟨h.ev.keep w hw, fun e he => (h.f e he).keep w hw, fun e he => (h.t e he).keep w hw⟩
end Go.Proofs.Ytgemekpofpoopaa

namespace Go.Proofs.Ytgemekpofpoopaa
open Go.SL Go.Proofs Go.Cast Go.Cell
set_option linter.unusedVariables false

theorem numbers_k (l m : List Nat) (p : Option Addr) (c : Nat) (q : Option Addr) (d : Nat) (w : World) (hl : RO 1 nC w p l) (hm : RO 1 nC w q m) (hn : l.length ≤ 1000000) : Calls Try.prog 40 #[.slice p l.length c, .slice q m.length d] w fun e w' => e = .returned (.bool (decide (l = m))) ∧ St (bs w) [] w' := by
  have z := numbers_c (l.map fun n : Nat => (n : Int)) (m.map fun n : Nat => (n : Int)) p c q d w (ro_I hl) (ro_I hm) (by rw [List.length_map]; exact hn)
  rw [List.length_map, List.length_map] at z
  refine z.mono fun e w' ⟨h1, h2⟩ => ⟨?_, h2⟩
  rw [h1]
  refine congrArg (fun b => Ending.returned (.bool b)) ?_
  have hinj : Function.Injective (fun n : Nat => (n : Int)) := fun a b e => by have e : (a : Int) = (b : Int) := e; omega
  by_cases h : l = m
  · rw [decide_eq_true h, decide_eq_true (by rw [h])]
  · rw [decide_eq_false h, decide_eq_false fun z => h (List.map_inj_right (fun a b e => hinj e) |>.1 z)]
end Go.Proofs.Ytgemekpofpoopaa

namespace Go.Proofs.Ytgemekpofpoopaa
open Go.SL Go.Proofs Go.Cast Go.Cell
set_option linter.unusedVariables false

theorem S142 : IsSlice Try.prog 142 4 := Try.underlying142
theorem Z4 : ZeroOf Try.prog 4 (.bool false) := by unfold ZeroOf; kernel_rfl
theorem N4 : (Try.prog.info? 4).map (·.size) = some 1 := by kernel_rfl
theorem I4 : EInfo Try.prog 4 1 1 (.bool false) := ⟨by kernel_rfl, by kernel_rfl, by unfold ZeroOf; kernel_rfl, rfl, by decide⟩


abbrev bC (b : Bool) : List Value := [.bool b]
theorem getB {l : List Bool} {n : Nat} (h : n < l.length) : l[n]? = some (l.getD n false) := by rw [List.getD_eq_getElem?_getD, List.getElem?_eq_getElem h]; rfl
theorem rg_succ {f : Nat → Bool} {k : Nat} : (List.range (k + 1)).map f = (List.range k).map f ++ [f k] := by rw [List.range_succ, List.map_append]; rfl
theorem may_bool {vs : List Span} {lv : Int} {k : Nat} {ml : List Bool} (h : ml = setB k (mayB vs lv)) : ml ++ [decide (lv ≤ (vs.getD k ⟨0,0⟩).hi)] = setB (k + 1) (mayB vs lv) := by rw [h]; unfold setB; rw [rg_succ]; rfl

set_option maxRecDepth 20000 in
set_option maxHeartbeats 4000000 in
theorem rMay_c (g : Grid) (vs : List Span) (pv : Option Addr) (cv : Nat) (lv : Int) (w : World) (hv : Spans w pv vs) (hn : vs.length ≤ 1000000) :
  Calls Try.prog 68 #[fieldV g pv vs.length cv, .int .i64 lv] w fun e w' => ∃ y : SlY, True ∧ e = .returned (.slice y.p (setB vs.length (mayB vs lv)).length y.c) ∧ St (bs w) [own 4 1 y.p y.c ((setB vs.length (mayB vs lv)).map bC)] w' := by
  refine enter (vs := [_,_]) (env := [(0,_), (1,_)]) Try.func68 rfl rfl rfl rfl ?_
  refine VC.seq ?_
  refine VC.reg (VO.h rfl<|HO.box (C := #[_,_,_,_,_,_]) rfl rfl fun b1 => VO.l (LO.as (.r rfl)) rfl<|VO.nil ?_)
  refine VE.seqN ?_
  refine VC.seq ?_
  refine VC.reg (VO.l (LO.as (.r rfl)) rfl<|VO.nil ?_)
  refine VE.seqN ?_
  refine VC.seq ?_
  refine VC.seq ?_
  refine VC.reg (VO.l (LO.as (.r rfl)) rfl<|VO.nil ?_)
  refine VE.seqN ?_
  refine VC.block ?_
  refine VC.loopK (α := Nat × (List Bool) × (Option Addr) × Nat) 0 (fun gx => [(5, .slice gx.2.2.1 gx.2.1.length gx.2.2.2), (6, .int .i64 (gx.1 : Nat))]) [(1,_), (2,_)] (fun gx => [own 4 1 gx.2.2.1 gx.2.2.2 (gx.2.1.map bC)]) (fun gx => gx.1 ≤ vs.length ∧ gx.2.1 = setB gx.1 (mayB vs lv)) (fun gx => vs.length - gx.1) (0, [], none, 0) (by exact ⟨Nat.zero_le _, rfl⟩) (.cons rfl (.cons rfl (.cons rfl (.cons rfl .nil)))) (fun _ h => (h.ownNil 4 1)) ?_
  rintro ⟨k, ml, po, co⟩ ⟨hkk, hm⟩
  show VC _ _ _ _ _ ([(5, .slice po ml.length co), (6, .int .i64 (k : Nat))] ++ _) ([own 4 1 po co (ml.map bC)] ++ _) _ _
  dsimp only at hkk hm
  have hmll : ml.length = k := by rw [hm, setB_len]
  refine VC.seq ?_
  refine VC.seq ?_
  refine VC.reg (VO.l (LO.mv (.r rfl)) rfl<|VO.l (LO.fa (r := 5) F26_1 (.r rfl) rfl) rfl<|VO.l (LO.ld O24 (.r rfl) (fun _ hw => cells_at hw 1 rfl ⟨_, rfl⟩)) rfl<|VO.l (LO.len S24 (.r rfl) rfl) rfl<|VO.l (LO.lt (.r rfl) (.r rfl)) rfl<|VO.nil ?_)
  refine VE.seqN ?_
  refine VC.cond rfl (fun h11 => ?_) (fun h11 => ?_)
  ·
    refine VC.skip (VE.seqN ?_)
    refine VC.seq ?_
    refine VC.block ?_
    refine VC.reg (VO.l (LO.mv (.r rfl)) rfl<|VO.l (LO.fa (r := 5) F26_1 (.r rfl) rfl) rfl<|VO.l (LO.ld O24 (.r rfl) (fun _ hw => cells_at hw 1 rfl ⟨_, rfl⟩)) rfl<|VO.l (LO.mv (.r rfl)) rfl<|VO.l (LO.ixs S24 N71 hv.some (.r rfl) (.r rfl) rfl (by omega)) rfl<|VO.l (LO.fa F71_1 (.r rfl) rfl) rfl<|VO.l (LO.ld O3 (.r rfl) (fun w hw => cells_part (off := 1) ((hv.at (j := k) (by omega)) w hw) ⟨_, rfl⟩)) rfl<|VO.l (LO.mv (.r rfl)) rfl<|VO.l (LO.ge (.r rfl) (.r rfl)) rfl<|VO.h rfl<|HO.bs (ps := [(_,_)]) (vs := [(_,_)]) (Z := [_]) (C := [_]) S142 Z4 N4 ⟨(.r rfl), trivial⟩ rfl rfl rfl rfl ⟨_, [_], [_], rfl, rfl, rfl, rfl, rfl⟩ fun b3 => VO.h rfl<|HO.appT ((decide (lv ≤ (vs.getD k ⟨0,0⟩).hi))) 1 0 (fun R => [_, R,_]) S142 S142 I4 (.r rfl) (.r rfl) rfl rfl rfl rfl rfl rfl rfl (fun _ => rfl) rfl (by omega) fun p10 c10 => VO.h rfl<|HO.lo (LO.as (.r rfl))<|VO.nil ?_)
    refine VE.inN (VE.seqN ?_)
    refine VC.reg (VO.l (LO.mv (.r rfl)) rfl<|VO.l (LO.add (.r rfl) (.r rfl) (wi (by omega) (by omega))) rfl<|VO.l (LO.as (.r rfl)) rfl<|VO.nil ?_)
    refine VE.thenN fun a w ha hw => ⟨(k + 1, ml ++ [decide (lv ≤ (vs.getD k ⟨0,0⟩).hi)], p10, c10), ⟨by dsimp only; omega, may_bool hm⟩, (by dsimp only; omega), ha.sub (.cons rfl (.cons rfl (.cons rfl (.cons rfl .nil)))), hw.sel [1,2] rfl⟩
  ·
    have hke : k = vs.length := by omega
    subst hke
    subst hm
    refine VC.exit (VE.thenX (VE.thenX (VE.inX (VE.seqN ?_))))
    refine VC.seq ?_
    refine VC.reg (VO.l (LO.mv (.r rfl)) rfl<|VO.l (LO.as (.r rfl)) rfl<|VO.nil ?_)
    refine VE.seqN ?_
    refine VC.ret (VE.res (vs := [_]) rfl ⟨rfl, trivial⟩ (fun w hw => ?_))
    exact ⟨⟨po, co⟩, trivial, rfl, selK [0] rfl rfl _ hw⟩

set_option maxRecDepth 20000 in
theorem rNear_c (g : Grid) (p q : Nat) (w : World) (hg : gridOk g) (hp : p < gW g * gH g) (hq : q < gW g * gH g) :
  Calls Try.prog 72 #[gridV g, .int .i64 (p : Int), .int .i64 (q : Int)] w fun e w' => e = .returned (.bool (nearB (gW g) p q)) ∧ St (bs w) [] w' := by
  have har := area_le hg
  obtain ⟨hW, hH, hW1, hW2, hH1, hH2⟩ := gWi hg
  have hp1 := divb hg hp
  have hq1 := divb hg hq
  have hp2 : p % gW g < gW g := Nat.mod_lt _ (by omega)
  have hq2 : q % gW g < gW g := Nat.mod_lt _ (by omega)
  refine enter (vs := [_,_,_]) (env := [(0,_), (1,_), (2,_)]) Try.func72 rfl rfl rfl rfl ?_
  refine VC.seq ?_
  refine VC.reg (VO.h rfl<|HO.box (C := #[_,_,_,_,_]) rfl rfl fun b1 => VO.l (LO.as (.r rfl)) rfl<|VO.nil ?_)
  refine VE.seqN ?_
  refine VC.seq ?_
  refine VC.draw mixed (LL.l (LO.mv (.r rfl)) rfl<|LL.l (LO.fa (r := 3) F23_3 (.r rfl) rfl) rfl<|LL.l (LO.ld O3 (.r rfl) (fun _ hw => cells_at hw 0 rfl ⟨_, rfl⟩)) rfl<|LL.l (LO.eqv (LO.rem (.r rfl) (.r rfl) (by omega)) (congrArg (Value.int .i64) (mod_n hg p))) rfl<|LL.l (LO.mv (.r rfl)) rfl<|LL.l (LO.fa (r := 3) F23_3 (.r rfl) rfl) rfl<|LL.l (LO.ld O3 (.r rfl) (fun _ hw => cells_at hw 0 rfl ⟨_, rfl⟩)) rfl<|LL.l (LO.eqv (LO.rem (.r rfl) (.r rfl) (by omega)) (congrArg (Value.int .i64) (mod_n hg q))) rfl<|LL.l (LO.sub (.r rfl) (.r rfl) (wi (by omega) (by omega))) rfl<|LL.l (LO.mv (.r rfl)) rfl<|LL.l (LO.fa (r := 3) F23_3 (.r rfl) rfl) rfl<|LL.l (LO.ld O3 (.r rfl) (fun _ hw => cells_at hw 0 rfl ⟨_, rfl⟩)) rfl<|LL.l (LO.eqv (LO.quo (.r rfl) (.r rfl) (by omega) (wi (by rw [div_n hg]; have := divb hg (p := p) (by omega); omega) (by rw [div_n hg]; have := divb hg (p := p) (by omega); omega))) (congrArg (Value.int .i64) (div_n hg p))) rfl<|LL.l (LO.mv (.r rfl)) rfl<|LL.l (LO.fa (r := 3) F23_3 (.r rfl) rfl) rfl<|LL.l (LO.ld O3 (.r rfl) (fun _ hw => cells_at hw 0 rfl ⟨_, rfl⟩)) rfl<|LL.l (LO.eqv (LO.quo (.r rfl) (.r rfl) (by omega) (wi (by rw [div_n hg]; have := divb hg (p := q) (by omega); omega) (by rw [div_n hg]; have := divb hg (p := q) (by omega); omega))) (congrArg (Value.int .i64) (div_n hg q))) rfl<|LL.l (LO.sub (.r rfl) (.r rfl) (wi (by omega) (by omega))) rfl<|LL.l (LO.as (.r rfl)) rfl<|LL.l (LO.as (.r rfl)) rfl<|LL.nil) (by kernel_rfl) ?_
  refine VE.seqN ?_
  refine VC.seq ?_
  refine VC.reg (VO.l (LO.mv (.r rfl)) rfl<|VO.l (LO.mv (.r rfl)) rfl<|VO.l (LO.mul (.r rfl) (.r rfl) (wi (by have := sq_bd (a := ((p % gW g : Nat) : Int) - ((q % gW g : Nat) : Int)) (by omega) (by omega); omega) (by have := sq_bd (a := ((p % gW g : Nat) : Int) - ((q % gW g : Nat) : Int)) (by omega) (by omega); omega))) rfl<|VO.l (LO.mv (.r rfl)) rfl<|VO.l (LO.mv (.r rfl)) rfl<|VO.l (LO.mul (.r rfl) (.r rfl) (wi (by have := sq_bd (a := ((p / gW g : Nat) : Int) - ((q / gW g : Nat) : Int)) (by omega) (by omega); omega) (by have := sq_bd (a := ((p / gW g : Nat) : Int) - ((q / gW g : Nat) : Int)) (by omega) (by omega); omega))) rfl<|VO.l (LO.add (.r rfl) (.r rfl) (wi (by have := sq_bd (a := ((p % gW g : Nat) : Int) - ((q % gW g : Nat) : Int)) (by omega) (by omega); have := sq_bd (a := ((p / gW g : Nat) : Int) - ((q / gW g : Nat) : Int)) (by omega) (by omega); omega) (by have := sq_bd (a := ((p % gW g : Nat) : Int) - ((q % gW g : Nat) : Int)) (by omega) (by omega); have := sq_bd (a := ((p / gW g : Nat) : Int) - ((q / gW g : Nat) : Int)) (by omega) (by omega); omega))) rfl<|VO.l (LO.eq (.r rfl) (.r rfl)) rfl<|VO.l (LO.as (.r rfl)) rfl<|VO.nil ?_)
  refine VE.seqN ?_
  refine VC.ret (VE.res (vs := [_]) rfl ⟨rfl, trivial⟩ (fun w hw => ?_))
  exact ⟨rfl, hw.nil⟩

set_option maxRecDepth 20000 in
theorem rHas_c (l : List Int) (p : Option Addr) (c : Nat) (n : Int) (w : World) (hl : Ints w p l) (hn : l.length ≤ 1000000) :
  Calls Try.prog 75 #[.slice p l.length c, .int .i64 n] w fun e w' => e = .returned (.bool (decide (n ∈ l))) ∧ St (bs w) [] w' := by
  refine enter (vs := [_,_]) (env := [(0,_), (1,_)]) Try.func75 rfl rfl rfl rfl ?_
  refine VC.seq ?_
  refine VC.reg (VO.l (LO.as (.r rfl)) rfl<|VO.nil ?_)
  refine VE.seqN ?_
  refine VC.seq ?_
  refine VC.seq ?_
  refine VC.reg (VO.l (LO.as (.r rfl)) rfl<|VO.nil ?_)
  refine VE.seqN ?_
  refine VC.block ?_
  refine VC.loopK (α := Nat) 0 (fun gx => [(5, .int .i64 (gx : Nat))]) [(0,_), (1,_)] (fun gx => []) (fun gx => gx ≤ l.length ∧ ∀ k, k < gx → ¬ l.getD k 0 = n) (fun gx => l.length - gx) 0 (by exact ⟨Nat.zero_le _, fun k h => absurd h (Nat.not_lt_zero _)⟩) (.cons rfl (.cons rfl (.cons rfl .nil))) (fun _ h => h) ?_
  rintro i ⟨hi, hz⟩
  refine VC.seq ?_
  refine VC.seq ?_
  refine VC.reg (VO.l (LO.mv (.r rfl)) rfl<|VO.l (LO.mv (.r rfl)) rfl<|VO.l (LO.len S40 (.r rfl) rfl) rfl<|VO.l (LO.lt (.r rfl) (.r rfl)) rfl<|VO.nil ?_)
  refine VE.seqN ?_
  refine VC.cond rfl (fun h9 => ?_) (fun h9 => ?_)
  ·
    refine VC.skip (VE.seqN ?_)
    refine VC.seq ?_
    refine VC.block ?_
    refine VC.seq ?_
    refine VC.reg (VO.l (LO.mv (.r rfl)) rfl<|VO.l (LO.mv (.r rfl)) rfl<|VO.l (LO.ixs S40 N3 hl.some (.r rfl) (.r rfl) rfl (by omega)) rfl<|VO.l (LO.ld O3 (.r rfl) (fun w hw => cells_part (off := 0) ((hl.at (j := i) (by omega)) w hw) ⟨_, rfl⟩)) rfl<|VO.l (LO.mv (.r rfl)) rfl<|VO.l (LO.eq (.r rfl) (.r rfl)) rfl<|VO.nil ?_)
    refine VE.seqN ?_
    refine VC.cond rfl (fun h17 => ?_) (fun h17 => ?_)
    ·
      refine VC.seq ?_
      refine VC.reg (VO.l (LO.as (.r rfl)) rfl<|VO.nil ?_)
      refine VE.seqN ?_
      refine VC.ret (VE.inR (VE.thenR (VE.thenR (VE.inR (VE.thenR (VE.res (vs := [_]) rfl ⟨rfl, trivial⟩ (fun w hw => ?_)))))))
      refine ⟨congrArg (fun z => Ending.returned (.bool z)) ?_, hw.nil⟩
      first | exact (decide_eq_true (mem_at (i := i) (by omega) h17)).symm | exact (decide_eq_false (mem_no (fun k hk => hz k (by omega)))).symm
    ·
      refine VC.skip (VE.inN (VE.seqN ?_))
      refine VC.reg (VO.l (LO.mv (.r rfl)) rfl<|VO.l (LO.add (.r rfl) (.r rfl) (wi (by omega) (by omega))) rfl<|VO.l (LO.as (.r rfl)) rfl<|VO.nil ?_)
      refine VE.thenN fun a w ha hw => ⟨i + 1, ⟨by omega, step_all (P := fun k => ¬ l.getD k 0 = n) hz h17⟩, (by omega), ha.sub (.cons rfl (.cons rfl (.cons rfl .nil))), hw⟩
  ·
    refine VC.exit (VE.thenX (VE.thenX (VE.inX (VE.seqN ?_))))
    refine VC.seq ?_
    refine VC.reg (VO.l (LO.as (.r rfl)) rfl<|VO.nil ?_)
    refine VE.seqN ?_
    refine VC.ret (VE.res (vs := [_]) rfl ⟨rfl, trivial⟩ (fun w hw => ?_))
    refine ⟨congrArg (fun z => Ending.returned (.bool z)) ?_, hw.nil⟩
    first | exact (decide_eq_true (mem_at (i := i) (by omega) h17)).symm | exact (decide_eq_false (mem_no (fun k hk => hz k (by omega)))).symm

set_option maxRecDepth 20000 in
set_option maxHeartbeats 4000000 in
theorem rList_c (b : List Bool) (p : Option Addr) (c : Nat) (w : World) (hb : RO 1 bC w p b) (hn : b.length ≤ 1000000) :
  Calls Try.prog 124 #[.slice p b.length c] w fun e w' => ∃ y : SlY, True ∧ e = .returned (.slice y.p (listM b).length y.c) ∧ St (bs w) [own 3 1 y.p y.c ((listM b).map nC)] w' := by
  refine enter (vs := [_]) (env := [(0,_)]) Try.func124 rfl rfl rfl rfl ?_
  refine VC.seq ?_
  refine VC.reg (VO.l (LO.as (.r rfl)) rfl<|VO.nil ?_)
  refine VE.seqN ?_
  refine VC.seq ?_
  refine VC.reg (VO.l (LO.as (.r rfl)) rfl<|VO.nil ?_)
  refine VE.seqN ?_
  refine VC.seq ?_
  refine VC.seq ?_
  refine VC.reg (VO.l (LO.as (.r rfl)) rfl<|VO.nil ?_)
  refine VE.seqN ?_
  refine VC.block ?_
  refine VC.loopK (α := Nat × (List Nat) × (Option Addr) × Nat) 0 (fun gx => [(3, .slice gx.2.2.1 gx.2.1.length gx.2.2.2), (4, .int .i64 (gx.1 : Nat))]) [(0,_)] (fun gx => [own 3 1 gx.2.2.1 gx.2.2.2 (gx.2.1.map nC)]) (fun gx => gx.1 ≤ b.length ∧ gx.2.1 = listTo b gx.1) (fun gx => b.length - gx.1) (0, [], none, 0) (by exact ⟨Nat.zero_le _, rfl⟩) (.cons rfl (.cons rfl (.cons rfl .nil))) (fun _ h => (h.ownNil 3 1)) ?_
  rintro ⟨k, ml, po, co⟩ ⟨hkk, hm⟩
  show VC _ _ _ _ _ ([(3, .slice po ml.length co), (4, .int .i64 (k : Nat))] ++ _) ([own 3 1 po co (ml.map nC)] ++ _) _ _
  dsimp only at hkk hm
  have hmll : ml.length ≤ k := by rw [hm]; exact listTo_len
  refine VC.seq ?_
  refine VC.seq ?_
  refine VC.reg (VO.l (LO.mv (.r rfl)) rfl<|VO.l (LO.mv (.r rfl)) rfl<|VO.l (LO.len S142 (.r rfl) rfl) rfl<|VO.l (LO.lt (.r rfl) (.r rfl)) rfl<|VO.nil ?_)
  refine VE.seqN ?_
  refine VC.cond rfl (fun h8 => ?_) (fun h8 => ?_)
  ·
    refine VC.skip (VE.seqN ?_)
    refine VC.seq ?_
    refine VC.block ?_
    refine VC.seq ?_
    refine VC.reg (VO.l (LO.mv (.r rfl)) rfl<|VO.l (LO.mv (.r rfl)) rfl<|VO.l (LO.ixs S142 N4 hb.sm (.r rfl) (.r rfl) rfl (by omega)) rfl<|VO.l (LO.ld O4 (.r rfl) (fun w hw => cells_part (off := 0) ((fun w3 h3 => RO.cel (hb.keep w3 h3) (getB (n := k) (by omega))) w hw) ⟨_, rfl⟩)) rfl<|VO.nil ?_)
    refine VE.seqN ?_
    refine VC.cond rfl (fun h14 => ?_) (fun h14 => ?_)
    ·
      refine VC.reg (VO.l (LO.mv (.r rfl)) rfl<|VO.l (LO.mv (.r rfl)) rfl<|VO.h rfl<|HO.bs (ps := [(_,_)]) (vs := [(_,_)]) (Z := [_]) (C := [_]) S40 Z3 N3 ⟨(.r rfl), trivial⟩ rfl rfl rfl rfl ⟨_, [_], [_], rfl, rfl, rfl, rfl, rfl⟩ fun b2 => VO.h rfl<|HO.appT (k) 1 0 (fun R => [_, R]) S40 S40 I3 (.r rfl) (.r rfl) rfl rfl rfl rfl rfl rfl rfl (fun _ => rfl) rfl (by omega) fun p3 c3 => VO.h rfl<|HO.lo (LO.as (.r rfl))<|VO.nil ?_)
      refine VE.inN (VE.seqN ?_)
      refine VC.reg (VO.l (LO.mv (.r rfl)) rfl<|VO.l (LO.add (.r rfl) (.r rfl) (wi (by omega) (by omega))) rfl<|VO.l (LO.as (.r rfl)) rfl<|VO.nil ?_)
      refine VE.thenN fun a w ha hw => ⟨(k + 1, ml ++ [k], p3, c3), ⟨by dsimp only; omega, by dsimp only; rw [listTo_t h14, hm]⟩, (by dsimp only; omega), ha.sub (.cons rfl (.cons rfl (.cons rfl .nil))), hw.sel [1] rfl⟩
    ·
      refine VC.skip (VE.inN (VE.seqN ?_))
      refine VC.reg (VO.l (LO.mv (.r rfl)) rfl<|VO.l (LO.add (.r rfl) (.r rfl) (wi (by omega) (by omega))) rfl<|VO.l (LO.as (.r rfl)) rfl<|VO.nil ?_)
      refine VE.thenN fun a w ha hw => ⟨(k + 1, ml, po, co), ⟨by dsimp only; omega, by dsimp only; rw [listTo_f (Bool.not_eq_true _ ▸ h14), hm]⟩, (by dsimp only; omega), ha.sub (.cons rfl (.cons rfl (.cons rfl .nil))), hw⟩
  ·
    have hke : k = b.length := by omega
    subst hke
    subst hm
    refine VC.exit (VE.thenX (VE.thenX (VE.inX (VE.seqN ?_))))
    refine VC.seq ?_
    refine VC.reg (VO.l (LO.mv (.r rfl)) rfl<|VO.l (LO.as (.r rfl)) rfl<|VO.nil ?_)
    refine VE.seqN ?_
    refine VC.ret (VE.res (vs := [_]) rfl ⟨rfl, trivial⟩ (fun w hw => ?_))
    exact ⟨⟨po, co⟩, trivial, rfl, selK [0] rfl rfl _ hw⟩

end Go.Proofs.Ytgemekpofpoopaa

namespace Go.Proofs.Ytgemekpofpoopaa
open Go.SL Go.Proofs Go.Cast Go.Cell
set_option linter.unusedVariables false

theorem C72 : IsFn Try.prog 72 := ⟨_, Try.func72, by decide, rfl⟩


theorem mu_part {W H : Nat} {S : Nat → Bool} {p q r : Nat} {out out2 : List Bool} {gr gr2 : Bool} (h : DR W H S p out q r out2 gr2) (hg : gr = true) : 2 * cntF out2 + gr2.toNat < 2 * cntF out + gr.toNat := by
  have h1 := h.le; have h2 := h.lt
  subst hg
  cases gr2 with
  | false => show 2 * cntF out2 + 0 < 2 * cntF out + 1; omega
  | true => have := h2 rfl; show 2 * cntF out2 + 1 < 2 * cntF out + 1; omega
theorem dr_skip {W H : Nat} {S : Nat → Bool} {p q : Nat} {b out out2 : List Bool} {gr : Bool} (h : DR W H S p out q 0 out2 gr) (hb : b.getD q false = S q) (hx : ¬ b.getD q false = true ∨ out2.getD q false = true) : DR W H S p out (q + 1) 0 out2 gr :=
  h.skip (hx.imp (fun z => by rw [← hb]; exact Bool.eq_false_iff.2 z) id)

set_option maxRecDepth 20000 in
set_option maxHeartbeats 16000000 in
theorem rPart_c (g : Grid) (s : Nat → Bool) (b : List Bool) (pb_ : Option Addr) (cb : Nat) (p : Nat) (w : World) (hg : gridOk g) (hb : RO 1 bC w pb_ b) (hbs : b = setB (gW g * gH g) s) (hp : p < gW g * gH g) (hs : s p = true) :
  Calls Try.prog 105 #[gridV g, .slice pb_ b.length cb, .int .i64 (p : Int)] w fun e w' => ∃ y : SlY, True ∧ e = .returned (.slice y.p b.length y.c) ∧ St (bs w) [own 4 1 y.p y.c ((partB (gW g) (gH g) s p).map bC)] w' := by
  have hgr := hg
  have har := area_le hg
  obtain ⟨hW, hH, hW1, hW2, hH1, hH2⟩ := gWi hg
  have hbl : b.length = gW g * gH g := by rw [hbs, setB_len]
  have hbg : ∀ q, q < gW g * gH g → b.getD q false = s q := fun q hq => by rw [hbs, setB_getD hq]
  refine enter (vs := [_,_,_]) (env := [(0,_), (1,_), (2,_)]) Try.func105 rfl rfl rfl rfl ?_
  refine VC.seq ?_
  refine VC.reg (VO.h rfl<|HO.box (C := #[_,_,_,_,_]) rfl rfl fun b1 => VO.l (LO.as (.r rfl)) rfl<|VO.nil ?_)
  refine VE.seqN ?_
  refine VC.seq ?_
  refine VC.reg (VO.l (LO.mv (.r rfl)) rfl<|VO.l (LO.len S142 (.r rfl) rfl) rfl<|VO.h rfl<|HO.mksM (f := bC) (z0 := false) (n := b.length) rfl S142 I4 (.r rfl) (.r rfl) rfl (by decide) (by omega) (by omega) fun b2 => VO.h rfl<|HO.lo (LO.as (.r rfl))<|VO.nil ?_)
  refine VE.seqN ?_
  refine VC.seq ?_
  refine VC.reg (VO.l (LO.mv (.r rfl)) rfl<|VO.l (LO.mv (.r rfl)) rfl<|VO.l (LO.ixo S142 N4 (fun _ hw => (own_rows hw 0 rfl).some (by rw [List.length_map]; first | omega | (simp; done) | (simp; omega))) (.r rfl) (.r rfl) rfl (by omega)) rfl<|VO.h0<|HO.stm 0 (fun R => [R,_]) (true) (vs := [_]) N4 (.r rfl) (.r rfl) rfl (by first | omega | (simp; omega)) rfl rfl rfl rfl rfl (fun _ => rfl)<|VO.nil ?_)
  refine VE.seqN ?_
  refine VC.seq ?_
  refine VC.seq ?_
  refine VC.reg (VO.l (LO.as (.r rfl)) rfl<|VO.nil ?_)
  refine VE.seqN ?_
  refine VC.block ?_
  refine VC.loopK (α := (List Bool) × Bool) 1 (fun gx => [(8, .bool gx.2)]) [(1,_), (3,_), (7,_)] (fun gx => [own 4 1 (some ⟨b2,0, none⟩) b.length (gx.1.map bC)]) (fun gx => DP (gW g) (gH g) s p gx.1 ∧ (gx.2 = false → gx.1 = partB (gW g) (gH g) s p)) (fun gx => 2 * cntF gx.1 + gx.2.toNat) (((List.replicate b.length false).set p true), true) (by exact ⟨by have z := DP.zero hp hs; rw [← hbl] at z; exact z, fun z => by cases z⟩) (.cons rfl (.cons rfl (.cons rfl (.cons rfl .nil)))) (fun _ h => h) ?_
  rintro ⟨out, gr⟩ ⟨hDP, hfin⟩
  show VC _ _ _ _ _ ([(8, .bool gr)] ++ _) ([own 4 1 (some ⟨b2,0, none⟩) b.length (out.map bC)] ++ _) _ _
  dsimp only at hDP hfin
  have holn := hDP.len
  refine VC.seq ?_
  refine VC.seq ?_
  refine VC.reg (VO.l (LO.mv (.r rfl)) rfl<|VO.nil ?_)
  refine VE.seqN ?_
  refine VC.cond rfl (fun h17 => ?_) (fun h17 => ?_)
  ·
    refine VC.skip (VE.seqN ?_)
    refine VC.block ?_
    refine VC.seq ?_
    refine VC.reg (VO.l (LO.as (.r rfl)) rfl<|VO.nil ?_)
    refine VE.seqN ?_
    refine VC.seq ?_
    refine VC.reg (VO.l (LO.as (.r rfl)) rfl<|VO.nil ?_)
    refine VE.seqN ?_
    refine VC.block ?_
    refine VC.loopK (α := Nat × (List Bool) × Bool) 1 (fun gx => [(8, .bool gx.2.2), (9, .int .i64 (gx.1 : Nat))]) [(1,_), (3,_), (7,_)] (fun gx => [own 4 1 (some ⟨b2,0, none⟩) b.length (gx.2.1.map bC)]) (fun gx => gx.1 ≤ gW g * gH g ∧ DR (gW g) (gH g) s p out gx.1 0 gx.2.1 gx.2.2) (fun gx => gW g * gH g - gx.1) (0, out, false) (by exact ⟨Nat.zero_le _, DR.zero hDP⟩) (.cons rfl (.cons rfl (.cons rfl (.cons rfl (.cons rfl .nil))))) (fun _ h => h) ?_
    rintro ⟨q, out2, gr2⟩ ⟨hq, hDR⟩
    show VC _ _ _ _ _ ([(8, .bool gr2), (9, .int .i64 (q : Nat))] ++ _) ([own 4 1 (some ⟨b2,0, none⟩) b.length (out2.map bC)] ++ _) _ _
    dsimp only at hq hDR
    have hol2 := hDR.dp.len
    refine VC.seq ?_
    refine VC.seq ?_
    refine VC.reg (VO.l (LO.mv (.r rfl)) rfl<|VO.l (LO.mv (.r rfl)) rfl<|VO.l (LO.len S142 (.r rfl) rfl) rfl<|VO.l (LO.lt (.r rfl) (.r rfl)) rfl<|VO.nil ?_)
    refine VE.seqN ?_
    refine VC.cond rfl (fun h21 => ?_) (fun h21 => ?_)
    ·
      refine VC.skip (VE.seqN ?_)
      refine VC.seq ?_
      refine VC.block ?_
      refine VC.seq ?_
      refine VC.seq ?_
      refine VC.reg (VO.l (LO.mv (.r rfl)) rfl<|VO.l (LO.mv (.r rfl)) rfl<|VO.l (LO.ixs S142 N4 hb.sm (.r rfl) (.r rfl) rfl (by omega)) rfl<|VO.l (LO.ld O4 (.r rfl) (fun w hw => cells_part (off := 0) ((fun w3 h3 => RO.cel (hb.keep w3 h3) (getB (n := q) (by omega))) w hw) ⟨_, rfl⟩)) rfl<|VO.l (LO.not (.r rfl)) rfl<|VO.l (LO.mv (.r rfl)) rfl<|VO.lg rfl rfl (GD.f _) (fun hg => LO.mv (.r rfl)) rfl<|VO.lg rfl rfl (GD.f _) (fun hg => LO.mv (.r rfl)) rfl<|VO.lg rfl rfl (GD.f _) (fun hg => LO.ixo S142 N4 (fun _ hw => (own_rows hw 0 rfl).some (by rw [List.length_map]; first | omega | (simp; done) | (simp; omega))) (.g hg rfl) (.g hg rfl) rfl (by omega)) rfl<|VO.lg rfl rfl (GD.f _) (fun hg => LO.ld O4 (.g hg rfl) (fun w hw => cells_part (off := 0) (own_cell hw 0 rfl (getB (n := q) (by first | omega | (simp; omega)))) ⟨_, rfl⟩)) rfl<|VO.l (LO.pkO (.r rfl) (.r rfl) rfl rfl) rfl<|VO.nil ?_)
      refine VE.seqN ?_
      refine VC.cond rfl (fun h34 => ?_) (fun h34 => ?_)
      ·
        refine VC.exit (VE.thenX (VE.inX (VE.seqN ?_)))
        refine VC.reg (VO.l (LO.mv (.r rfl)) rfl<|VO.l (LO.add (.r rfl) (.r rfl) (wi (by omega) (by omega))) rfl<|VO.l (LO.as (.r rfl)) rfl<|VO.nil ?_)
        refine VE.thenN fun a w ha hw => ⟨(q + 1, out2, gr2), ⟨by dsimp only; omega, dr_skip hDR (hbg q (by omega)) h34⟩, (by dsimp only; omega), ha.sub (.cons rfl (.cons rfl (.cons rfl (.cons rfl (.cons rfl .nil))))), hw⟩
      ·
        have hsq : s q = true := by rw [← hbg q (by omega)]; exact Classical.not_not.1 fun z => h34 (.inl z)
        refine VC.skip (VE.seqN ?_)
        refine VC.seq ?_
        refine VC.reg (VO.l (LO.mv (.r rfl)) rfl<|VO.l (LO.fa (r := 3) F23_3 (.r rfl) rfl) rfl<|VO.l (LO.ld O3 (.r rfl) (fun _ hw => cells_at hw 1 rfl ⟨_, rfl⟩)) rfl<|VO.l (LO.sub (.r rfl) (.r rfl) (wi (by omega) (by omega))) rfl<|VO.l (LO.eqv (LO.max (.r rfl) (.r rfl)) (congrArg (Value.int .i64) (show Max.max (0 : Int) ((q : Int) - g.wide) = ((q - gW g : Nat) : Int) by omega))) rfl<|VO.l (LO.as (.r rfl)) rfl<|VO.nil ?_)
        refine VE.seqN ?_
        refine VC.block ?_
        refine VC.loopK (α := Nat × (List Bool) × Bool) 1 (fun gx => [(8, .bool gx.2.2), (10, .int .i64 (gx.1 : Nat))]) [(1,_), (3,_), (7,_), (9,_)] (fun gx => [own 4 1 (some ⟨b2,0, none⟩) b.length (gx.2.1.map bC)]) (fun gx => gx.1 ≤ gW g * gH g ∧ DR (gW g) (gH g) s p out q gx.1 gx.2.1 gx.2.2) (fun gx => gW g * gH g - gx.1) ((q - gW g), out2, gr2) (by exact ⟨by dsimp only; omega, hDR.enter (by omega)⟩) (.cons rfl (.cons rfl (.cons rfl (.cons rfl (.cons rfl (.cons rfl .nil)))))) (fun _ h => h) ?_
        rintro ⟨r, out3, gr3⟩ ⟨hr, hD3⟩
        show VC _ _ _ _ _ ([(8, .bool gr3), (10, .int .i64 (r : Nat))] ++ _) ([own 4 1 (some ⟨b2,0, none⟩) b.length (out3.map bC)] ++ _) _ _
        dsimp only at hr hD3
        have hol3 := hD3.dp.len
        refine VC.seq ?_
        refine VC.seq ?_
        refine VC.reg (VO.l (LO.mv (.r rfl)) rfl<|VO.l (LO.mv (.r rfl)) rfl<|VO.l (LO.fa (r := 3) F23_3 (.r rfl) rfl) rfl<|VO.l (LO.ld O3 (.r rfl) (fun _ hw => cells_at hw 1 rfl ⟨_, rfl⟩)) rfl<|VO.l (LO.add (.r rfl) (.r rfl) (wi (by omega) (by omega))) rfl<|VO.l (LO.le (.r rfl) (.r rfl)) rfl<|VO.l (LO.mv (.r rfl)) rfl<|VO.lg rfl rfl (GD.t _) (fun hg => LO.mv (.r rfl)) rfl<|VO.lg rfl rfl (GD.t _) (fun hg => LO.mv (.r rfl)) rfl<|VO.lg rfl rfl (GD.t _) (fun hg => LO.len S142 (.g hg rfl) rfl) rfl<|VO.lg rfl rfl (GD.t _) (fun hg => LO.lt (.g hg rfl) (.g hg rfl)) rfl<|VO.l (LO.pkA (.r rfl) rfl rfl (.r rfl)) rfl<|VO.nil ?_)
        refine VE.seqN ?_
        refine VC.cond rfl (fun h51 => ?_) (fun h51 => ?_)
        ·
          refine VC.skip (VE.seqN ?_)
          refine VC.seq ?_
          refine VC.block ?_
          refine VC.seq ?_
          refine VC.reg (VO.l (LO.mv (.r rfl)) rfl<|VO.l (LO.mv (.r rfl)) rfl<|VO.l (LO.ixo S142 N4 (fun _ hw => (own_rows hw 0 rfl).some (by rw [List.length_map]; first | omega | (simp; done) | (simp; omega))) (.r rfl) (.r rfl) rfl (by omega)) rfl<|VO.l (LO.ld O4 (.r rfl) (fun w hw => cells_part (off := 0) (own_cell hw 0 rfl (getB (n := r) (by first | omega | (simp; omega)))) ⟨_, rfl⟩)) rfl<|VO.l (LO.mv (.r rfl)) rfl<|VO.lg rfl rfl (GD.t _) (fun hg => LO.mv (.r rfl)) rfl<|VO.lg rfl rfl (GD.t _) (fun hg => LO.mv (.r rfl)) rfl<|VO.lg rfl rfl (GD.t _) (fun hg => LO.ixo S142 N4 (fun _ hw => (own_rows hw 0 rfl).some (by rw [List.length_map]; first | omega | (simp; done) | (simp; omega))) (.g hg rfl) (.g hg rfl) rfl (by omega)) rfl<|VO.lg rfl rfl (GD.t _) (fun hg => LO.ld O4 (.g hg rfl) (fun w hw => cells_part (off := 0) (own_cell hw 0 rfl (getB (n := q) (by first | omega | (simp; omega)))) ⟨_, rfl⟩)) rfl<|VO.lg rfl rfl (GD.t _) (fun hg => LO.not (.g hg rfl)) rfl<|VO.l (LO.pkA (.r rfl) rfl rfl (.r rfl)) rfl<|VO.l (LO.mv (.r rfl)) rfl<|VO.lg rfl rfl (GD.t _) (fun hg => LO.lda (vs := [_,_,_,_,_]) A23 (.r rfl) (fun _ hw => cells_at hw 1 rfl ⟨_, rfl⟩) rfl) rfl<|VO.lg rfl rfl (GD.t _) (fun hg => LO.mv (.r rfl)) rfl<|VO.lg rfl rfl (GD.t _) (fun hg => LO.mv (.r rfl)) rfl<|VO.lg rfl rfl (GD.t _) (fun hg => LO.call (xs := [_,_,_]) (vs := [_,_,_]) C72 ⟨(.g hg rfl), (.g hg rfl), (.g hg rfl), trivial⟩ (fun w2 hw => rNear_c g q r w2 hgr (by omega) (by omega))) rfl<|VO.l (LO.pkA (.r rfl) rfl rfl (.r rfl)) rfl<|VO.nil ?_)
          refine VE.seqN ?_
          refine VC.cond rfl (fun h70 => ?_) (fun h70 => ?_)
          ·
            refine VC.seq ?_
            refine VC.reg (VO.l (LO.mv (.r rfl)) rfl<|VO.l (LO.mv (.r rfl)) rfl<|VO.l (LO.ixo S142 N4 (fun _ hw => (own_rows hw 0 rfl).some (by rw [List.length_map]; first | omega | (simp; done) | (simp; omega))) (.r rfl) (.r rfl) rfl (by omega)) rfl<|VO.h0<|HO.stm 0 (fun R => [R,_]) (true) (vs := [_]) N4 (.r rfl) (.r rfl) rfl (by omega) rfl rfl rfl rfl rfl (fun _ => rfl)<|VO.nil ?_)
            refine VE.seqN ?_
            refine VC.reg (VO.l (LO.as (.r rfl)) rfl<|VO.nil ?_)
            refine VE.inN (VE.seqN ?_)
            refine VC.reg (VO.l (LO.mv (.r rfl)) rfl<|VO.l (LO.add (.r rfl) (.r rfl) (wi (by omega) (by omega))) rfl<|VO.l (LO.as (.r rfl)) rfl<|VO.nil ?_)
            refine VE.thenN fun a w ha hw => ⟨(r + 1, out3.set q true, true), ⟨by dsimp only; omega, hD3.yes (by omega) (by omega) hsq h70.1.1 (Bool.not_eq_true _ ▸ h70.1.2) ((near_nb (by omega) (by omega)).1 h70.2)⟩, (by dsimp only; omega), ha.sub (.cons rfl (.cons rfl (.cons rfl (.cons rfl (.cons rfl (.cons rfl .nil)))))), hw⟩
          ·
            refine VC.skip (VE.inN (VE.seqN ?_))
            refine VC.reg (VO.l (LO.mv (.r rfl)) rfl<|VO.l (LO.add (.r rfl) (.r rfl) (wi (by omega) (by omega))) rfl<|VO.l (LO.as (.r rfl)) rfl<|VO.nil ?_)
            refine VE.thenN fun a w ha hw => ⟨(r + 1, out3, gr3), ⟨by dsimp only; omega, hD3.no fun z => h70 ⟨⟨z.1, by rw [z.2.1]; decide⟩, (near_nb (by omega) (by omega)).2 z.2.2⟩⟩, (by dsimp only; omega), ha.sub (.cons rfl (.cons rfl (.cons rfl (.cons rfl (.cons rfl (.cons rfl .nil)))))), hw⟩
        ·
          refine VC.exit (VE.thenX (VE.thenX (VE.inX (VE.inN (VE.seqN ?_)))))
          refine VC.reg (VO.l (LO.mv (.r rfl)) rfl<|VO.l (LO.add (.r rfl) (.r rfl) (wi (by omega) (by omega))) rfl<|VO.l (LO.as (.r rfl)) rfl<|VO.nil ?_)
          refine VE.thenN fun a w ha hw => ⟨(q + 1, out3, gr3), ⟨by dsimp only; omega, hD3.next (by omega) (by omega)⟩, (by dsimp only; omega), ha.sub (.cons rfl (.cons rfl (.cons rfl (.cons rfl (.cons rfl .nil))))), hw⟩
    ·
      have hqe : q = gW g * gH g := by omega
      subst hqe
      refine VC.exit (VE.thenX (VE.thenX (VE.inX (VE.inN ?_))))
      refine VE.thenN fun a w ha hw => ⟨(out2, gr2), ⟨hDR.dp, fun z => by dsimp only at z; subst z; exact hDR.fin hp hs⟩, (mu_part hDR h17), ha.sub (.cons rfl (.cons rfl (.cons rfl (.cons rfl .nil)))), hw⟩
  ·
    have hgf : gr = false := Bool.eq_false_iff.2 h17
    have hoe := hfin hgf
    subst hoe
    refine VC.exit (VE.thenX (VE.thenX (VE.inX (VE.seqN ?_))))
    refine VC.seq ?_
    refine VC.reg (VO.l (LO.mv (.r rfl)) rfl<|VO.l (LO.as (.r rfl)) rfl<|VO.nil ?_)
    refine VE.seqN ?_
    refine VC.ret (VE.res (vs := [_]) rfl ⟨rfl, trivial⟩ (fun w hw => ?_))
    exact ⟨⟨_,_⟩, trivial, rfl, selK [0] rfl rfl _ hw⟩

end Go.Proofs.Ytgemekpofpoopaa

namespace Go.Proofs.Ytgemekpofpoopaa
open Go.SL Go.Proofs Go.Cast Go.Cell
set_option linter.unusedVariables false

theorem C74 : IsFn Try.prog 74 := ⟨_, Try.func74, by decide, rfl⟩
end Go.Proofs.Ytgemekpofpoopaa

namespace Go.Proofs.Ytgemekpofpoopaa
open Go.SL Go.Proofs Go.Cast Go.Cell
set_option linter.unusedVariables false

theorem C105 : IsFn Try.prog 105 := ⟨_, Try.func105, by decide, rfl⟩
theorem C68 : IsFn Try.prog 68 := ⟨_, Try.func68, by decide, rfl⟩


end Go.Proofs.Ytgemekpofpoopaa

namespace Go.Proofs.Ytgemekpofpoopaa
open Go.SL Go.Proofs Go.Cast Go.Cell
set_option linter.unusedVariables false

theorem C124 : IsFn Try.prog 124 := ⟨_, Try.func124, by decide, rfl⟩


theorem dn_len {W H p i : Nat} {s : Nat → Bool} {l : List Nat} : (doneB W H s p l i).length = W * H := by unfold doneB; rw [setB_len]
theorem rListN_c (b : List Bool) (n : Nat) (hn : n = b.length) (p : Option Addr) (c : Nat) (w : World) (hb : RO 1 bC w p b) (hl : b.length ≤ 1000000) :
  Calls Try.prog 124 #[.slice p n c] w fun e w' => ∃ y : SlY, True ∧ e = .returned (.slice y.p (listM b).length y.c) ∧ St (bs w) [own 3 1 y.p y.c ((listM b).map nC)] w' := by subst hn; exact rList_c b p c w hb hl
structure PxY where
  rs : List (RowA Nat)
  p : Option Addr
  c : Nat

theorem compL_le {W H p : Nat} {S : Nat → Bool} (hp : p < W * H) : (compL W H S p).length ≤ W * H := by
  have := length_le_of_subset (l := compL W H S p) (m := List.range (W * H)) (clo_nodup (S := S) hp (W * H)) (fun x hx => List.mem_range.2 (compL_lt hp hx))
  simpa using this

set_option maxRecDepth 20000 in
set_option maxHeartbeats 16000000 in
theorem rParts_c (g : Grid) (s : Nat → Bool) (b : List Bool) (pb_ : Option Addr) (cb : Nat) (w : World) (hg : gridOk g) (hb : RO 1 bC w pb_ b) (hbs : b = setB (gW g * gH g) s) :
  Calls Try.prog 102 #[gridV g, .slice pb_ b.length cb] w fun e w' => ∃ y : PxY, y.rs.map RowA.l = partsL (gW g) (gH g) s ∧ e = .returned (.slice y.p y.rs.length y.c) ∧ St (bs w) [own 40 1 y.p y.c (y.rs.map rowC), bagR 3 1 nC y.rs] w' := by
  have hgr := hg
  have har := area_le hg
  have hbl : b.length = gW g * gH g := by rw [hbs, setB_len]
  have hbg : ∀ q, q < gW g * gH g → b.getD q false = s q := fun q hq => by rw [hbs, setB_getD hq]
  refine enter (vs := [_,_]) (env := [(0,_), (1,_)]) Try.func102 rfl rfl rfl rfl ?_
  refine VC.seq ?_
  refine VC.reg (VO.h rfl<|HO.box (C := #[_,_,_,_,_]) rfl rfl fun b1 => VO.l (LO.as (.r rfl)) rfl<|VO.nil ?_)
  refine VE.seqN ?_
  refine VC.seq ?_
  refine VC.reg (VO.l (LO.as (.r rfl)) rfl<|VO.nil ?_)
  refine VE.seqN ?_
  refine VC.seq ?_
  refine VC.reg (VO.l (LO.mv (.r rfl)) rfl<|VO.l (LO.len S142 (.r rfl) rfl) rfl<|VO.h rfl<|HO.mksM (f := bC) (z0 := false) (n := b.length) rfl S142 I4 (.r rfl) (.r rfl) rfl (by decide) (by omega) (by omega) fun b2 => VO.h rfl<|HO.lo (LO.as (.r rfl))<|VO.nil ?_)
  rw [show List.replicate b.length false = doneB (gW g) (gH g) s 0 [] 0 from by rw [hbl]; exact done_zero (S := s)]
  refine VE.seqN ?_
  refine VC.seq ?_
  refine VC.seq ?_
  refine VC.reg (VO.l (LO.as (.r rfl)) rfl<|VO.nil ?_)
  refine VE.seqN ?_
  refine VC.block ?_
  refine VC.loopK (α := Nat × (List (RowA Nat)) × (Option Addr) × Nat) 1 (fun gx => [(5, .slice gx.2.2.1 gx.2.1.length gx.2.2.2), (7, .int .i64 (gx.1 : Nat))]) [(1,_), (2,_), (6,_)] (fun gx => [own 4 1 (some ⟨b2,0, none⟩) b.length ((doneB (gW g) (gH g) s gx.1 [] 0).map bC), own 40 1 gx.2.2.1 gx.2.2.2 (gx.2.1.map rowC), bagR 3 1 nC gx.2.1]) (fun gx => gx.1 ≤ gW g * gH g ∧ gx.2.1.map RowA.l = partsTo (gW g) (gH g) s gx.1) (fun gx => gW g * gH g - gx.1) (0, [], none, 0) (by exact ⟨Nat.zero_le _, rfl⟩) (.cons rfl (.cons rfl (.cons rfl (.cons rfl (.cons rfl .nil))))) (fun _ h => (((h.bagRNil 3 1 nC).ownNil 40 1)).sel [2,0,1,3] rfl) ?_
  rintro ⟨p, rs, pr, cr⟩ ⟨hpn, hrs⟩
  show VC _ _ _ _ _ ([(5, .slice pr rs.length cr), (7, .int .i64 (p : Nat))] ++ _) ([own 4 1 (some ⟨b2,0, none⟩) b.length ((doneB (gW g) (gH g) s p [] 0).map bC), own 40 1 pr cr (rs.map rowC), bagR 3 1 nC rs] ++ _) _ _
  dsimp only at hpn hrs
  have hrl := rs_len hrs
  have hpl := parts_len (W := gW g) (H := gH g) (S := s) (p := p)
  refine VC.seq ?_
  refine VC.seq ?_
  refine VC.reg (VO.l (LO.mv (.r rfl)) rfl<|VO.l (LO.mv (.r rfl)) rfl<|VO.l (LO.len S142 (.r rfl) rfl) rfl<|VO.l (LO.lt (.r rfl) (.r rfl)) rfl<|VO.nil ?_)
  refine VE.seqN ?_
  refine VC.cond rfl (fun h16 => ?_) (fun h16 => ?_)
  ·
    refine VC.skip (VE.seqN ?_)
    refine VC.seq ?_
    refine VC.block ?_
    refine VC.seq ?_
    refine VC.seq ?_
    refine VC.reg (VO.l (LO.mv (.r rfl)) rfl<|VO.l (LO.mv (.r rfl)) rfl<|VO.l (LO.ixs S142 N4 hb.sm (.r rfl) (.r rfl) rfl (by omega)) rfl<|VO.l (LO.ld O4 (.r rfl) (fun w hw => cells_part (off := 0) ((fun w3 h3 => RO.cel (hb.keep w3 h3) (getB (n := p) (by omega))) w hw) ⟨_, rfl⟩)) rfl<|VO.l (LO.not (.r rfl)) rfl<|VO.l (LO.mv (.r rfl)) rfl<|VO.lg rfl rfl (GD.f _) (fun hg => LO.mv (.r rfl)) rfl<|VO.lg rfl rfl (GD.f _) (fun hg => LO.mv (.r rfl)) rfl<|VO.lg rfl rfl (GD.f _) (fun hg => LO.ixo S142 N4 (fun _ hw => (own_rows hw 0 rfl).some (by rw [List.length_map, dn_len]; omega)) (.g hg rfl) (.g hg rfl) rfl (by omega)) rfl<|VO.lg rfl rfl (GD.f _) (fun hg => LO.ld O4 (.g hg rfl) (fun w hw => cells_part (off := 0) (own_cell hw 0 rfl (getB (n := p) (by rw [dn_len]; omega))) ⟨_, rfl⟩)) rfl<|VO.l (LO.pkO (.r rfl) (.r rfl) rfl rfl) rfl<|VO.nil ?_)
    refine VE.seqN ?_
    refine VC.cond rfl (fun h29 => ?_) (fun h29 => ?_)
    ·
      have hold : partsTo (gW g) (gH g) s (p + 1) = partsTo (gW g) (gH g) s p := done_skip (h29.imp (fun z => by rw [← hbg p (by omega)]; exact Bool.eq_false_iff.2 z) (fun z => by rw [← done_at (by omega)]; exact z))
      refine VC.exit (VE.thenX (VE.inX (VE.seqN ?_)))
      refine VC.reg (VO.l (LO.mv (.r rfl)) rfl<|VO.l (LO.add (.r rfl) (.r rfl) (wi (by omega) (by omega))) rfl<|VO.l (LO.as (.r rfl)) rfl<|VO.nil ?_)
      rw [← done_old hold]
      refine VE.thenN fun a w ha hw => ⟨(p + 1, rs, pr, cr), ⟨by dsimp only; omega, by dsimp only; rw [hold]; exact hrs⟩, (by dsimp only; omega), ha.sub (.cons rfl (.cons rfl (.cons rfl (.cons rfl (.cons rfl .nil))))), (by exact selK (L1 := [_,_,_,_]) [0,1,2,3] rfl rfl _ hw)⟩
    ·
      have hsp : s p = true := by rw [← hbg p (by omega)]; exact Classical.not_not.1 fun z => h29 (.inl z)
      have hnew := done_take (p := p) (S := s) (W := gW g) (H := gH g) (by rw [← done_at (by omega)]; exact Bool.eq_false_iff.2 fun z => h29 (.inr z))
      have hcl := compL_le (W := gW g) (H := gH g) (S := s) (p := p) (by omega)
      refine VC.skip (VE.seqN ?_)
      refine VC.seq ?_
      refine VC.reg (VO.l (LO.lda (vs := [_,_,_,_,_]) A23 (.r rfl) (fun _ hw => cells_at hw 3 rfl ⟨_, rfl⟩) rfl) rfl<|VO.l (LO.mv (.r rfl)) rfl<|VO.l (LO.mv (.r rfl)) rfl<|VO.h rfl<|HO.callx (xs := [_,_,_]) (vs := [_,_,_]) C105 ⟨(.r rfl), (.r rfl), (.r rfl), trivial⟩ (fun w2 hw => rPart_c g s b pb_ cb p w2 hgr (hb.keep w2 hw) hbs (by omega) hsp) fun y1 _ => VO.h rfl<|HO.callx (xs := [_]) (vs := [_]) C124 ⟨(.r rfl), trivial⟩ (fun w2 hw => rListN_c (partB (gW g) (gH g) s p) b.length (by unfold partB; rw [setB_len]; exact hbl) y1.p y1.c w2 (RO.of_own hw 0 rfl) (by unfold partB; rw [setB_len]; omega)) fun y2 _ => VO.h rfl<|HO.lo (LO.as (.r rfl))<|VO.nil ?_)
      rw [listM_part (by omega)]
      refine VE.seqN ?_
      refine VC.seq ?_
      refine VC.seq ?_
      refine VC.reg (VO.l (LO.as (.r rfl)) rfl<|VO.nil ?_)
      rw [done_start (l := (compL (gW g) (gH g) s p))]
      refine VE.seqN ?_
      refine VC.block ?_
      refine VC.perm [2,0,1,3,4,5] rfl ?_
      refine VC.loopK (α := Nat) 1 (fun gx => [(9, .int .i64 (gx : Nat))]) [(1,_), (2,_), (5,_), (6,_), (7,_), (8,_)] (fun gx => [own 4 1 (some ⟨b2,0, none⟩) b.length ((doneB (gW g) (gH g) s p (compL (gW g) (gH g) s p) gx).map bC)]) (fun gx => gx ≤ (compL (gW g) (gH g) s p).length) (fun gx => (compL (gW g) (gH g) s p).length - gx) 0 (by exact Nat.zero_le _) (.cons rfl (.cons rfl (.cons rfl (.cons rfl (.cons rfl (.cons rfl (.cons rfl .nil))))))) (fun _ h => h) ?_
      rintro i hi
      refine VC.seq ?_
      refine VC.seq ?_
      refine VC.reg (VO.l (LO.mv (.r rfl)) rfl<|VO.l (LO.mv (.r rfl)) rfl<|VO.l (LO.len S40 (.r rfl) rfl) rfl<|VO.l (LO.lt (.r rfl) (.r rfl)) rfl<|VO.nil ?_)
      refine VE.seqN ?_
      refine VC.cond rfl (fun h38 => ?_) (fun h38 => ?_)
      ·
        obtain ⟨x, hxl⟩ := get_ex (l := (compL (gW g) (gH g) s p)) (n := i) (by omega)
        have hxn := compL_lt (S := s) (show p < gW g * gH g by omega) (List.mem_of_getElem? hxl)
        refine VC.skip (VE.seqN ?_)
        refine VC.seq ?_
        refine VC.block ?_
        refine VC.reg (VO.l (LO.mv (.r rfl)) rfl<|VO.l (LO.mv (.r rfl)) rfl<|VO.l (LO.mv (.r rfl)) rfl<|VO.l (LO.ixo S40 N3 (fun _ hw => (own_rows hw 1 rfl).some (by rw [List.length_map])) (.r rfl) (.r rfl) rfl (by omega)) rfl<|VO.l (LO.ld O3 (.r rfl) (fun w hw => cells_part (off := 0) (own_cell hw 1 rfl hxl) ⟨_, rfl⟩)) rfl<|VO.l (LO.ixo S142 N4 (fun _ hw => (own_rows hw 0 rfl).some (by rw [List.length_map, dn_len]; omega)) (.r rfl) (.r rfl) rfl (by omega)) rfl<|VO.h0<|HO.stm 0 (fun R => [R,_,_,_,_,_]) (true) (vs := [_]) N4 (.r rfl) (.r rfl) rfl (by rw [dn_len]; omega) rfl rfl rfl rfl rfl (fun _ => rfl)<|VO.nil ?_)
        rw [done_step hxl (by omega)]
        refine VE.inN (VE.seqN ?_)
        refine VC.reg (VO.l (LO.mv (.r rfl)) rfl<|VO.l (LO.add (.r rfl) (.r rfl) (wi (by omega) (by omega))) rfl<|VO.l (LO.as (.r rfl)) rfl<|VO.nil ?_)
        refine VE.thenN fun a w ha hw => ⟨i + 1, (by omega), (by omega), ha.sub (.cons rfl (.cons rfl (.cons rfl (.cons rfl (.cons rfl (.cons rfl (.cons rfl .nil))))))), hw⟩
      ·
        have hie : i = (compL (gW g) (gH g) s p).length := by omega
        subst hie
        refine VC.exit (VE.thenX (VE.thenX (VE.inX (VE.seqN ?_))))
        refine VC.reg (VO.l (LO.mv (.r rfl)) rfl<|VO.l (LO.mv (.r rfl)) rfl<|VO.h rfl<|HO.bs (ps := [(_,_)]) (vs := [(_,_)]) (Z := [_]) (C := [_]) S41 Z40 N40 ⟨(.r rfl), trivial⟩ rfl rfl rfl rfl ⟨_, [_], [_], rfl, rfl, rfl, rfl, rfl⟩ fun b7 => VO.h rfl<|HO.appT ((⟨y2.p, y2.c, (compL (gW g) (gH g) s p)⟩ : RowA Nat)) 4 0 (fun R => [_,_,_,_, R,_,_]) S41 S41 I40 (.r rfl) (.r rfl) rfl rfl rfl rfl rfl rfl rfl (fun _ => rfl) rfl (by omega) fun p3 c3 => VO.h rfl<|HO.lo (LO.as (.r rfl))<|VO.nil ?_)
        refine VE.inN (VE.seqN ?_)
        refine VC.reg (VO.l (LO.mv (.r rfl)) rfl<|VO.l (LO.add (.r rfl) (.r rfl) (wi (by omega) (by omega))) rfl<|VO.l (LO.as (.r rfl)) rfl<|VO.nil ?_)
        rw [done_new hsp hnew rfl]
        refine VE.thenN fun a w ha hw => ⟨(p + 1, rs ++ [⟨y2.p, y2.c, (compL (gW g) (gH g) s p)⟩], p3, c3), ⟨by dsimp only; omega, by dsimp only; rw [List.map_append, hrs, partsTo_new hsp hnew]; rfl⟩, (by dsimp only; omega), ha.sub (.cons rfl (.cons rfl (.cons rfl (.cons rfl (.cons rfl .nil))))), (by exact selK (L1 := [_,_,_,_]) [1,2,0,3] rfl rfl _ (St.bagRIn (E := 3) (z := 1) (f := nC) (x := ⟨y2.p, y2.c, (compL (gW g) (gH g) s p)⟩) (selK (L1 := [_,_,_,_,_]) [2,5,1,4,6] rfl rfl _ hw)))⟩
  ·
    have hpe : p = gW g * gH g := by omega
    subst hpe
    refine VC.exit (VE.thenX (VE.thenX (VE.inX (VE.seqN ?_))))
    refine VC.seq ?_
    refine VC.reg (VO.l (LO.mv (.r rfl)) rfl<|VO.l (LO.as (.r rfl)) rfl<|VO.nil ?_)
    refine VE.seqN ?_
    refine VC.ret (VE.res (vs := [_]) rfl ⟨rfl, trivial⟩ (fun w hw => ?_))
    exact ⟨⟨rs, pr, cr⟩, hrs, rfl, selK [1,2] rfl rfl _ hw⟩

end Go.Proofs.Ytgemekpofpoopaa

namespace Go.SL
set_option linter.unusedVariables false
theorem St.bagDIn {β : Bs} {L Rs rs : List Res} {w : World} (h : St β (rs ++ Go.SL.bagD Rs :: L) w) : St β (Go.SL.bagD (Rs ++ rs) :: L) w := by
  have h1 := (h.perm (L' := Go.SL.bagD Rs :: (rs ++ L)) List.perm_middle).unbagD
  rw [← List.append_assoc] at h1
  exact h1.bagD
theorem bagD_inv {β : Bs} {L Rs : List Res} {w : World} (h : St β L w) (i : Nat) (hi : L[i]? = some (Go.SL.bagD Rs)) {r : Res} (hr : r ∈ Rs) : r.inv w := (h.mem (List.mem_of_getElem? hi)).1 r hr
end Go.SL
namespace Go.Proofs.Ytgemekpofpoopaa
open Go.SL Go.Proofs Go.Cast Go.Cell
set_option linter.unusedVariables false
section
variable {W H p i k : Nat} {vs : List Span} {lv : Int} {l : List Nat} {w : World}
/-- Which pixels of an area are surely in, of those that are looked at. -/
def surB (vs : List Span) (lv : Int) (l : List Nat) (k : Nat) (q : Nat) : Bool := inB vs lv q && decide (q ∈ l.take k)
theorem sur_zero : List.replicate (W * H) false = setB (W * H) (surB vs lv l 0) := by
  refine setB_ext (by simp) fun q hq => ?_
  rw [List.getD_eq_getElem?_getD, List.getElem?_replicate, if_pos hq]
  simp [surB]
theorem sur_no (h : l[k]? = some p) (hp : inB vs lv p = false) : setB (W * H) (surB vs lv l k) = setB (W * H) (surB vs lv l (k + 1)) := by
  obtain ⟨hk, rfl⟩ := List.getElem?_eq_some_iff.1 h
  refine List.map_congr_left fun q _ => ?_
  unfold surB
  rw [List.take_succ_eq_append_getElem hk]
  by_cases e : q = l[k]
  · subst e; rw [hp]; rfl
  · have : decide (q ∈ l.take k ++ [l[k]]) = decide (q ∈ l.take k) := decide_eq_decide.2 (by rw [List.mem_append, List.mem_singleton]; exact ⟨fun h => h.resolve_right e, .inl⟩)
    rw [this]
theorem sur_yes (h : l[k]? = some p) (hp : inB vs lv p = true) (hl : p < W * H) : (setB (W * H) (surB vs lv l k)).set p true = setB (W * H) (surB vs lv l (k + 1)) := by
  obtain ⟨hk, rfl⟩ := List.getElem?_eq_some_iff.1 h
  refine setB_ext (by rw [List.length_set, setB_len]) fun q hq => ?_
  rw [getB_set (by rw [setB_len]; exact hl), setB_getD hq]
  unfold surB
  rw [List.take_succ_eq_append_getElem hk]
  by_cases e : l[k] = q
  · subst e; rw [hp, decide_eq_true rfl, Bool.true_or, decide_eq_true (List.mem_append_right _ (List.mem_singleton.2 rfl))]; rfl
  · have : decide (q ∈ l.take k ++ [l[k]]) = decide (q ∈ l.take k) := decide_eq_decide.2 (by rw [List.mem_append, List.mem_singleton]; exact ⟨fun h => h.resolve_right fun z => e z.symm, .inl⟩)
    rw [this, decide_eq_false e]; simp
theorem sur_all : surB vs lv l l.length = fun q => inB vs lv q && decide (q ∈ l) := by funext q; unfold surB; rw [List.take_length]
/-- The frame and the sum, as the document finds them. -/
def dS (W : Nat) (vs : List Span) (lv : Int) (l : List Nat) (k : Nat) : ArS := if k = 0 then ⟨0,0,0,0,0,0⟩ else sumTo W vs lv l k
theorem dS_zero : dS W vs lv l 0 = ⟨0,0,0,0,0,0⟩ := rfl
theorem dS_first (h : l[0]? = some p) : dS W vs lv l 1 = stepS W vs lv ⟨(p % W : Nat), (p % W : Nat), (p / W : Nat), (p / W : Nat), 0,0⟩ p := by
  have : dS W vs lv l (0 + 1) = sumTo W vs lv l (0 + 1) := if_neg (Nat.succ_ne_zero 0)
  rw [show (1 : Nat) = 0 + 1 from rfl, this, sumTo_succ h, sumTo_zero]
  cases l with
  | nil => simp at h
  | cons a l => have : a = p := by simpa using h
                subst this; rfl
theorem dS_next (h : l[k]? = some p) (hk : k ≠ 0) : dS W vs lv l (k + 1) = stepS W vs lv (dS W vs lv l k) p := by
  unfold dS
  rw [if_neg (Nat.succ_ne_zero k), if_neg hk, sumTo_succ h]
theorem dS_all (h : l ≠ []) : dS W vs lv l l.length = sumS W vs lv l := by
  unfold dS; rw [if_neg (by cases l with | nil => exact absurd rfl h | cons a l => simp), sumTo_all]
theorem dS_bd (hok : ∀ j, j < vs.length → spanOk 1073741824 (vs.getD j ⟨0,0⟩)) (hl : ∀ p, p ∈ l → p < vs.length) (hk : k ≤ l.length) : (0 ≤ (dS W vs lv l k).sl ∧ (dS W vs lv l k).sl ≤ 1073741824 * k) ∧ (0 ≤ (dS W vs lv l k).sh ∧ (dS W vs lv l k).sh ≤ 1073741824 * k) := by
  by_cases e : k = 0
  · subst e; rw [dS_zero]; exact ⟨⟨Int.le_refl _, by simp⟩, ⟨Int.le_refl _, by simp⟩⟩
  · unfold dS; rw [if_neg e]; exact sumTo_bd hok hl k hk
/-- An area of the document is that of the program. -/
theorem area_doc {a : AreaR} (hTS : ∀ x, x < W * H → inB vs lv x = true → mayB vs lv x = true) (hl : a.px.l ∈ partsL W H (mayB vs lv)) (hk : a.kr.map RowA.l = partsL W H (surB vs lv a.px.l a.px.l.length)) (hs : a.s = sumS W vs lv a.px.l) : a.m = areaM W H vs lv a.px.l := by
  unfold AreaR.m areaM
  rw [hs, hk, sur_all, parts_within hTS hl]
/-! ### Lists of areas that are read -/
structure AL (w : World) (p : Option Addr) (l : List AreaR) : Prop where
  ar : RO 8 AreaR.cells w p l
  px : ∀ a, a ∈ l → RO 1 nC w a.px.p a.px.l
  kr : ∀ a, a ∈ l → RR 1 nC w a.kp a.kr
/-- What an area of the document owns besides its pixels. -/
def AreaR.kk (a : AreaR) : List Res := [a.kR, bagR 3 1 nC a.kr]
def kks (l : List AreaR) : List Res := l.flatMap AreaR.kk
theorem kks_app {l : List AreaR} {a : AreaR} : kks (l ++ [a]) = kks l ++ a.kk := by unfold kks; rw [List.flatMap_append]; simp
theorem kks_mem {l : List AreaR} {a : AreaR} (h : a ∈ l) : a.kR ∈ kks l ∧ bagR 3 1 nC a.kr ∈ kks l := ⟨List.mem_flatMap.2 ⟨a, h, by simp [AreaR.kk]⟩, List.mem_flatMap.2 ⟨a, h, by simp [AreaR.kk]⟩⟩
theorem St.kIn {β : Bs} {L : List Res} {l : List AreaR} {a : AreaR} (h : St β (a.kR :: bagR 3 1 nC a.kr :: bagD (kks l) :: L) w) : St β (bagD (kks (l ++ [a])) :: L) w := by
  rw [kks_app]; exact St.bagDIn (rs := [_,_]) h
structure DaY where
  l : List AreaR
  p : Option Addr
  c : Nat
  rs : List (RowA Nat)
/-- What the document's areas own. -/
def DaY.R (T : Nat) (y : DaY) : List Res := [own T 8 y.p y.c (y.l.map AreaR.cells), bagD (kks y.l), bagR 3 1 nC y.rs]
structure DaP (W H : Nat) (vs : List Span) (lv : Int) (y : DaY) : Prop where
  m : y.l.map AreaR.m = areasM W H vs lv
  px : y.l.map AreaR.px = y.rs
theorem own_inv_ro {α : Type} {f : α → List Value} {E z cap : Nat} {p : Option Addr} {l : List α} (h : (own E z p cap (l.map f)).inv w) : RO z f w p l := own_inv_rows h
theorem AL.of_own {β : Bs} {L : List Res} (hw : St β L w) {T : Nat} {y : DaY} {vs : List Span} {lv : Int} (hp : DaP W H vs lv y) (i j k : Nat) (hi : L[i]? = some (own T 8 y.p y.c (y.l.map AreaR.cells))) (hj : L[j]? = some (bagD (kks y.l))) (hk : L[k]? = some (bagR 3 1 nC y.rs)) : AL w y.p y.l where
  ar := RO.of_own hw i hi
  px := fun a ha => by
    have h1 : a.px ∈ y.rs := by rw [← hp.px]; exact List.mem_map_of_mem ha
    exact own_inv_rows (hw.inv k _ hk _ (List.mem_map_of_mem (f := fun x : RowA Nat => own 3 1 x.p x.c (x.l.map nC)) h1))
  kr := fun a ha => by
    have h1 := bagD_inv hw j hj (kks_mem ha).1
    have h2 := bagD_inv hw j hj (kks_mem ha).2
    exact ⟨own_inv_rows h1, fun x hx => by
      have h3 := h2 _ (List.mem_map_of_mem (f := fun x : RowA Nat => own 3 1 x.p x.c (x.l.map nC)) hx)
      refine ⟨?_, own_inv_rows h3⟩
      have := h3.1
      rwa [List.length_map] at this⟩
end
end Go.Proofs.Ytgemekpofpoopaa

namespace Go.Proofs.Ytgemekpofpoopaa
open Go.SL Go.Proofs Go.Cast Go.Cell
set_option linter.unusedVariables false

theorem Z135 : ZeroOf Try.prog 135 (.agg #[.slice none 0 0, .slice none 0 0, .int .i64 0, .int .i64 0, .int .i64 0, .int .i64 0, .int .i64 0, .int .i64 0]) := by unfold ZeroOf; kernel_rfl
theorem B135 : Builds Try.prog 135 [(0,1), (1,1), (2,2), (4,2), (6,2)] [.slice none 0 0, .slice none 0 0, .int .i64 0, .int .i64 0, .int .i64 0, .int .i64 0, .int .i64 0, .int .i64 0] := Builds.mk fun _ => by kernel_rfl
theorem N135 : (Try.prog.info? 135).map (·.size) = some 8 := by kernel_rfl
theorem F135_2 : FieldAt Try.prog 135 2 2 := ⟨_,_, Try.underlying135, rfl, rfl, 1, by kernel_rfl⟩
theorem F135_3 : FieldAt Try.prog 135 3 4 := ⟨_,_, Try.underlying135, rfl, rfl, 1, by kernel_rfl⟩
theorem F135_4 : FieldAt Try.prog 135 4 6 := ⟨_,_, Try.underlying135, rfl, rfl, 1, by kernel_rfl⟩
theorem C102 : IsFn Try.prog 102 := ⟨_, Try.func102, by decide, rfl⟩
theorem F135_1 : FieldAt Try.prog 135 1 1 := ⟨_,_, Try.underlying135, rfl, rfl, 0, by kernel_rfl⟩
theorem A135 : IsAgg Try.prog 135 8 := ⟨⟨_, Try.underlying135, rfl⟩, by kernel_rfl⟩
theorem C103 : IsFn Try.prog 103 := ⟨_, Try.func103, by decide, rfl⟩
theorem S33 : IsSlice Try.prog 33 135 := Try.underlying33
theorem I135 : EInfo Try.prog 135 8 96 (.agg #[.slice none 0 0, .slice none 0 0, .int .i64 0, .int .i64 0, .int .i64 0, .int .i64 0, .int .i64 0, .int .i64 0]) := ⟨by kernel_rfl, by kernel_rfl, by unfold ZeroOf; kernel_rfl, rfl, by decide⟩


abbrev arV (pl : Option Addr) (n cl : Nat) (kp : Option Addr) (kn kc : Nat) (s : ArS) : Value := .agg #[.slice pl n cl, .slice kp kn kc, .int .i64 s.xl, .int .i64 s.xh, .int .i64 s.yl, .int .i64 s.yh, .int .i64 s.sl, .int .i64 s.sh]
theorem rPartsN_c (g : Grid) (s : Nat → Bool) (n : Nat) (hn : n = gW g * gH g) (pb_ : Option Addr) (cb : Nat) (w : World) (hg : gridOk g) (hb : RO 1 bC w pb_ (setB (gW g * gH g) s)) :
  Calls Try.prog 102 #[gridV g, .slice pb_ n cb] w fun e w' => ∃ y : PxY, y.rs.map RowA.l = partsL (gW g) (gH g) s ∧ e = .returned (.slice y.p y.rs.length y.c) ∧ St (bs w) [own 40 1 y.p y.c (y.rs.map rowC), bagR 3 1 nC y.rs] w' := by
  have z := rParts_c g s (setB (gW g * gH g) s) pb_ cb w hg hb rfl
  rw [setB_len] at z
  subst hn; exact z

theorem take_app1 {α : Type} {l : List α} {k : Nat} {x : α} (h : l[k]? = some x) : l.take (k + 1) = l.take k ++ [x] := by rw [List.take_add_one, h]; rfl
theorem areas_next {W H : Nat} {vs : List Span} {lv : Int} {l : List AreaR} {a : AreaR} (h : ∀ a, a ∈ l → a.m = areaM W H vs lv a.px.l) (k : a.m = areaM W H vs lv a.px.l) : ∀ b, b ∈ l ++ [a] → b.m = areaM W H vs lv b.px.l := fun b hb => by
  rcases List.mem_append.1 hb with q | q
  · exact h b q
  · have := List.mem_singleton.1 q
    subst this; exact k
theorem may_in {W H : Nat} {vs : List Span} {lv : Int} (hok : ∀ j, j < W * H → spanOk 1073741824 (vs.getD j ⟨0,0⟩)) : ∀ x, x < W * H → inB vs lv x = true → mayB vs lv x = true := fun x hx hi => by
  have := hok x hx
  unfold spanOk at this
  unfold inB at hi
  unfold mayB
  simp only [decide_eq_true_eq] at *
  omega
theorem areas_done {W H : Nat} {vs : List Span} {lv : Int} {l : List AreaR} {rs : List (RowA Nat)} {p : Option Addr} {c : Nat} (hr : rs.map RowA.l = partsL W H (mayB vs lv)) (hpx : l.map AreaR.px = rs) (hm : ∀ a, a ∈ l → a.m = areaM W H vs lv a.px.l) : DaP W H vs lv ⟨l, p, c, rs⟩ := by
  refine ⟨?_, hpx⟩
  show l.map AreaR.m = areasM W H vs lv
  unfold areasM
  rw [← hr, ← hpx, List.map_map, List.map_map]
  exact List.map_congr_left fun a ha => hm a ha

set_option maxRecDepth 20000 in
set_option maxHeartbeats 16000000 in
theorem rArea_c (g : Grid) (vs : List Span) (pv : Option Addr) (cv : Nat) (lv : Int) (l : List Nat) (pl : Option Addr) (cl : Nat) (w : World) (hg : gridOk g) (hvl : vs.length = gW g * gH g) (hok : ∀ j, j < vs.length → spanOk 1073741824 (vs.getD j ⟨0,0⟩)) (hv : Spans w pv vs) (hl : RO 1 nC w pl l) (hlm : ∀ p, p ∈ l → p < gW g * gH g) (hll : l.length ≤ 4096) (hne : l ≠ []) :
  Calls Try.prog 103 #[fieldV g pv vs.length cv, .int .i64 lv, .slice pl l.length cl] w fun e w' => ∃ y : PxY, y.rs.map RowA.l = partsL (gW g) (gH g) (surB vs lv l l.length) ∧ e = .returned (arV pl l.length cl y.p y.rs.length y.c (sumS (gW g) vs lv l)) ∧ St (bs w) [own 40 1 y.p y.c (y.rs.map rowC), bagR 3 1 nC y.rs] w' := by
  have har := area_le hg
  obtain ⟨hW, hH, hW1, hW2, hH1, hH2⟩ := gWi hg
  refine enter (vs := [_,_,_]) (env := [(0,_), (1,_), (2,_)]) Try.func103 rfl rfl rfl rfl ?_
  refine VC.seq ?_
  refine VC.reg (VO.h rfl<|HO.box (C := #[_,_,_,_,_,_]) rfl rfl fun b1 => VO.h rfl<|HO.alloc (C := #[_,_,_,_,_,_,_,_]) Z135 rfl fun b2 => VO.nil ?_)
  refine VE.seqN ?_
  refine VC.seq ?_
  refine VC.reg (VO.l (LO.mv (.r rfl)) rfl<|VO.l (LO.bd (ps := [(_,_)]) (vs := [(_,_)]) (C := [_,_,_,_,_,_,_,_]) B135  ⟨(.r rfl), trivial⟩ rfl ⟨_, [_], [_,_,_,_,_,_,_,_], rfl, rfl, rfl, rfl, rfl⟩) rfl<|VO.h rfl<|HO.alloc (C := #[_,_,_,_,_,_,_,_]) Z135 rfl fun b3 => VO.h0<|HO.st 0 (vs := [_,_,_,_,_,_,_,_]) (C' := [_,_,_,_,_,_,_,_]) (L' := [_,_,_]) N135 rfl rfl rfl rfl rfl rfl rfl rfl<|VO.nil ?_)
  refine VE.seqN ?_
  refine VC.seq ?_
  refine VC.reg (VO.l (LO.fa (r := 5) F26_1 (.r rfl) rfl) rfl<|VO.l (LO.ld O24 (.r rfl) (fun _ hw => cells_at hw 2 rfl ⟨_, rfl⟩)) rfl<|VO.l (LO.len S24 (.r rfl) rfl) rfl<|VO.h rfl<|HO.mksM (f := bC) (z0 := false) (n := vs.length) rfl S142 I4 (.r rfl) (.r rfl) rfl (by decide) (by omega) (by omega) fun b5 => VO.h rfl<|HO.lo (LO.as (.r rfl))<|VO.nil ?_)
  rw [show List.replicate vs.length false = setB (gW g * gH g) (surB vs lv l 0) from by rw [hvl]; exact sur_zero]
  refine VE.seqN ?_
  refine VC.seq ?_
  refine VC.seq ?_
  refine VC.reg (VO.l (LO.as (.r rfl)) rfl<|VO.nil ?_)
  refine VE.seqN ?_
  refine VC.block ?_
  refine VC.perm [1,0,2,3] rfl ?_
  refine VC.loopK (α := Nat) 2 (fun gx => [(9, .int .i64 (gx : Nat))]) [(1,_), (2,_), (3,_), (6,_), (7,_), (8,_)] (fun gx => [blk b3 (.cells #[.slice pl l.length cl, .slice none 0 0, .int .i64 (dS (gW g) vs lv l gx).xl, .int .i64 (dS (gW g) vs lv l gx).xh, .int .i64 (dS (gW g) vs lv l gx).yl, .int .i64 (dS (gW g) vs lv l gx).yh, .int .i64 (dS (gW g) vs lv l gx).sl, .int .i64 (dS (gW g) vs lv l gx).sh] 135), own 4 1 (some ⟨b5,0, none⟩) vs.length ((setB (gW g * gH g) (surB vs lv l gx)).map bC)]) (fun gx => gx ≤ l.length) (fun gx => l.length - gx) 0 (by exact Nat.zero_le _) (.cons rfl (.cons rfl (.cons rfl (.cons rfl (.cons rfl (.cons rfl (.cons rfl .nil))))))) (fun _ h => h) ?_
  rintro i hi
  refine VC.seq ?_
  refine VC.seq ?_
  refine VC.reg (VO.l (LO.mv (.r rfl)) rfl<|VO.l (LO.mv (.r rfl)) rfl<|VO.l (LO.len S40 (.r rfl) rfl) rfl<|VO.l (LO.lt (.r rfl) (.r rfl)) rfl<|VO.nil ?_)
  refine VE.seqN ?_
  refine VC.cond rfl (fun h22 => ?_) (fun h22 => ?_)
  ·
    obtain ⟨p, hpk⟩ := get_ex (l := l) (n := i) (by omega)
    have hpm := hlm p (List.mem_of_getElem? hpk)
    have hspn := hok p (by omega)
    unfold spanOk at hspn
    have hbd := dS_bd (W := gW g) (vs := vs) (lv := lv) (l := l) (k := i) hok (fun q hq => by have := hlm q hq; omega) (by omega)
    refine VC.skip (VE.seqN ?_)
    refine VC.seq ?_
    refine VC.block ?_
    refine VC.seq ?_
    refine VC.reg (VO.l (LO.mv (.r rfl)) rfl<|VO.l (LO.mv (.r rfl)) rfl<|VO.l (LO.ixs S40 N3 hl.sm (.r rfl) (.r rfl) rfl (by omega)) rfl<|VO.l (LO.ld O3 (.r rfl) (fun w hw => cells_part (off := 0) ((fun w3 h3 => RO.cel (hl.keep w3 h3) hpk) w hw) ⟨_, rfl⟩)) rfl<|VO.l (LO.as (.r rfl)) rfl<|VO.nil ?_)
    refine VE.seqN ?_
    refine VC.seq ?_
    refine VC.draw mixed (LL.l (LO.mv (.r rfl)) rfl<|LL.l (LO.fa (r := 0) F26_0 (.r rfl) rfl) rfl<|LL.l (LO.fa (r := 3) F23_3 (.r rfl) rfl) rfl<|LL.l (LO.ld O3 (.r rfl) (fun _ hw => cells_at hw 3 rfl ⟨_, rfl⟩)) rfl<|LL.l (LO.eqv (LO.rem (.r rfl) (.r rfl) (by omega)) (congrArg (Value.int .i64) (mod_n hg p))) rfl<|LL.l (LO.mv (.r rfl)) rfl<|LL.l (LO.fa (r := 0) F26_0 (.r rfl) rfl) rfl<|LL.l (LO.fa (r := 3) F23_3 (.r rfl) rfl) rfl<|LL.l (LO.ld O3 (.r rfl) (fun _ hw => cells_at hw 3 rfl ⟨_, rfl⟩)) rfl<|LL.l (LO.eqv (LO.quo (.r rfl) (.r rfl) (by omega) (wi (by rw [div_n hg]; have := divb hg (p := p) (by omega); omega) (by rw [div_n hg]; have := divb hg (p := p) (by omega); omega))) (congrArg (Value.int .i64) (div_n hg p))) rfl<|LL.l (LO.as (.r rfl)) rfl<|LL.l (LO.as (.r rfl)) rfl<|LL.nil) (by kernel_rfl) ?_
    refine VE.seqN ?_
    refine VC.seq ?_
    refine VC.seq ?_
    refine VC.reg (VO.l (LO.mv (.r rfl)) rfl<|VO.l (LO.eq (.r rfl) (.r rfl)) rfl<|VO.nil ?_)
    refine VE.seqN ?_
    refine VC.cond rfl (fun h40 => ?_) (fun h40 => ?_)
    ·
      have hi0 : i = 0 := by omega
      subst hi0
      refine VC.reg (VO.l (LO.mv (.r rfl)) rfl<|VO.l (LO.mv (.r rfl)) rfl<|VO.l (LO.bd (ps := [(_,_), (_,_)]) (vs := [(_,_), (_,_)]) (C := [_,_]) B71  ⟨(.r rfl), (.r rfl), trivial⟩ rfl ⟨_, [_], [_,_], rfl, rfl, rfl, rfl, ⟨_, [_], [_,_], rfl, rfl, rfl, rfl, rfl⟩⟩) rfl<|VO.l (LO.mv (.r rfl)) rfl<|VO.l (LO.mv (.r rfl)) rfl<|VO.l (LO.bd (ps := [(_,_), (_,_)]) (vs := [(_,_), (_,_)]) (C := [_,_]) B71  ⟨(.r rfl), (.r rfl), trivial⟩ rfl ⟨_, [_], [_,_], rfl, rfl, rfl, rfl, ⟨_, [_], [_,_], rfl, rfl, rfl, rfl, rfl⟩⟩) rfl<|VO.l (LO.fa (r := 2) F135_2 (.r rfl) rfl) rfl<|VO.h0<|HO.st 0 (vs := [_,_]) (C' := [_,_,_,_,_,_,_,_]) (L' := [_,_,_,_]) N71 rfl rfl rfl rfl rfl rfl rfl rfl<|VO.l (LO.fa (r := 4) F135_3 (.r rfl) rfl) rfl<|VO.h0<|HO.st 0 (vs := [_,_]) (C' := [_,_,_,_,_,_,_,_]) (L' := [_,_,_,_]) N71 rfl rfl rfl rfl rfl rfl rfl rfl<|VO.nil ?_)
      refine VE.seqN ?_
      refine VC.seq ?_
      refine VC.reg (VO.l (LO.fa (r := 2) F135_2 (.r rfl) rfl) rfl<|VO.l (LO.fa (r := 2) F71_0 (.r rfl) rfl) rfl<|VO.l (LO.ld O3 (.r rfl) (fun _ hw => cells_at hw 0 rfl ⟨_, rfl⟩)) rfl<|VO.l (LO.mv (.r rfl)) rfl<|VO.l (LO.min (.r rfl) (.r rfl)) rfl<|VO.l (LO.fa (r := 2) F135_2 (.r rfl) rfl) rfl<|VO.l (LO.fa (r := 3) F71_1 (.r rfl) rfl) rfl<|VO.l (LO.ld O3 (.r rfl) (fun _ hw => cells_at hw 0 rfl ⟨_, rfl⟩)) rfl<|VO.l (LO.mv (.r rfl)) rfl<|VO.l (LO.max (.r rfl) (.r rfl)) rfl<|VO.l (LO.bd (ps := [(_,_), (_,_)]) (vs := [(_,_), (_,_)]) (C := [_,_]) B71  ⟨(.r rfl), (.r rfl), trivial⟩ rfl ⟨_, [_], [_,_], rfl, rfl, rfl, rfl, ⟨_, [_], [_,_], rfl, rfl, rfl, rfl, rfl⟩⟩) rfl<|VO.l (LO.fa (r := 2) F135_2 (.r rfl) rfl) rfl<|VO.h0<|HO.st 0 (vs := [_,_]) (C' := [_,_,_,_,_,_,_,_]) (L' := [_,_,_,_]) N71 rfl rfl rfl rfl rfl rfl rfl rfl<|VO.nil ?_)
      refine VE.seqN ?_
      refine VC.seq ?_
      refine VC.reg (VO.l (LO.fa (r := 4) F135_3 (.r rfl) rfl) rfl<|VO.l (LO.fa (r := 4) F71_0 (.r rfl) rfl) rfl<|VO.l (LO.ld O3 (.r rfl) (fun _ hw => cells_at hw 0 rfl ⟨_, rfl⟩)) rfl<|VO.l (LO.mv (.r rfl)) rfl<|VO.l (LO.min (.r rfl) (.r rfl)) rfl<|VO.l (LO.fa (r := 4) F135_3 (.r rfl) rfl) rfl<|VO.l (LO.fa (r := 5) F71_1 (.r rfl) rfl) rfl<|VO.l (LO.ld O3 (.r rfl) (fun _ hw => cells_at hw 0 rfl ⟨_, rfl⟩)) rfl<|VO.l (LO.mv (.r rfl)) rfl<|VO.l (LO.max (.r rfl) (.r rfl)) rfl<|VO.l (LO.bd (ps := [(_,_), (_,_)]) (vs := [(_,_), (_,_)]) (C := [_,_]) B71  ⟨(.r rfl), (.r rfl), trivial⟩ rfl ⟨_, [_], [_,_], rfl, rfl, rfl, rfl, ⟨_, [_], [_,_], rfl, rfl, rfl, rfl, rfl⟩⟩) rfl<|VO.l (LO.fa (r := 4) F135_3 (.r rfl) rfl) rfl<|VO.h0<|HO.st 0 (vs := [_,_]) (C' := [_,_,_,_,_,_,_,_]) (L' := [_,_,_,_]) N71 rfl rfl rfl rfl rfl rfl rfl rfl<|VO.nil ?_)
      refine VE.seqN ?_
      refine VC.seq ?_
      refine VC.drawH [[0,1,2,3], [1,2,3]] [some 0, some 0, some 0, some 0, some 0, some 0, some 0, some 0, some 0, some 0, some 0, some 0, none] mixed (by kernel_rfl) rfl (LX.l (fun _ hJ => LO.fa (r := 6) F135_4 (.r rfl) rfl) rfl<|LX.l (fun _ hJ => LO.fa (r := 7) F71_1 (.r rfl) rfl) rfl<|LX.l (fun _ hJ => LO.ld O3 (.r rfl) (fun _ hw => cells_at (hJ _ hw) 0 rfl ⟨_, rfl⟩)) rfl<|LX.l (fun _ hJ => LO.fa (r := 5) F26_1 (.r rfl) rfl) rfl<|LX.l (fun _ hJ => LO.ld O24 (.r rfl) (fun _ hw => cells_at (hJ _ hw) 3 rfl ⟨_, rfl⟩)) rfl<|LX.l (fun _ hJ => LO.mv (.r rfl)) rfl<|LX.l (fun _ hJ => LO.ixs S24 N71 hv.some (.r rfl) (.r rfl) rfl (by omega)) rfl<|LX.l (fun _ hJ => LO.fa F71_1 (.r rfl) rfl) rfl<|LX.l (fun _ hJ => LO.ld O3 (.r rfl) (fun w hw => cells_part (off := 1) ((hv.at (j := p) (by omega)) w (hJ _ hw)) ⟨_, rfl⟩)) rfl<|LX.l (fun _ hJ => LO.add (.r rfl) (.r rfl) (wi (by omega) (by omega))) rfl<|LX.l (fun _ hJ => LO.fa (r := 6) F135_4 (.r rfl) rfl) rfl<|LX.l (fun _ hJ => LO.fa (r := 7) F71_1 (.r rfl) rfl) rfl<|LX.s<|LX.nil) (HX.s<|HX.s<|HX.s<|HX.s<|HX.s<|HX.s<|HX.s<|HX.s<|HX.s<|HX.s<|HX.s<|HX.s<|HX.h0<|HO.st 0 (vs := [_]) (C' := [_,_,_,_,_,_,_,_]) (L' := [_,_,_,_]) N3 rfl rfl rfl rfl rfl rfl rfl rfl<|⟨fun _ hw => hw.sel [1,2,3] rfl, HX.nil ?_⟩)
      refine VE.seqN ?_
      refine VC.seq ?_
      refine VC.reg (VO.l (LO.fa (r := 5) F26_1 (.r rfl) rfl) rfl<|VO.l (LO.ld O24 (.r rfl) (fun _ hw => cells_at hw 3 rfl ⟨_, rfl⟩)) rfl<|VO.l (LO.mv (.r rfl)) rfl<|VO.l (LO.ixs S24 N71 hv.some (.r rfl) (.r rfl) rfl (by omega)) rfl<|VO.l (LO.fa F71_0 (.r rfl) rfl) rfl<|VO.l (LO.ld O3 (.r rfl) (fun w hw => cells_part (off := 0) ((hv.at (j := p) (by omega)) w hw) ⟨_, rfl⟩)) rfl<|VO.l (LO.mv (.r rfl)) rfl<|VO.l (LO.ge (.r rfl) (.r rfl)) rfl<|VO.nil ?_)
      refine VE.seqN ?_
      refine VC.cond rfl (fun h92 => ?_) (fun h92 => ?_)
      ·
        have hin : inB vs lv p = true := decide_eq_true h92
        refine VC.seq ?_
        refine VC.reg (VO.l (LO.mv (.r rfl)) rfl<|VO.l (LO.mv (.r rfl)) rfl<|VO.l (LO.ixo S142 N4 (fun _ hw => (own_rows hw 1 rfl).some (by rw [List.length_map, setB_len]; omega)) (.r rfl) (.r rfl) rfl (by omega)) rfl<|VO.h0<|HO.stm 1 (fun R => [_, R,_,_]) (true) (vs := [_]) N4 (.r rfl) (.r rfl) rfl (by rw [setB_len]; omega) rfl rfl rfl rfl rfl (fun _ => rfl)<|VO.nil ?_)
        rw [sur_yes hpk hin (by omega)]
        refine VE.seqN ?_
        refine VC.drawH [[0,1,2,3], [1,2,3]] [some 0, some 0, some 0, some 0, some 0, some 0, some 0, some 0, some 0, some 0, some 0, some 0, none] mixed (by kernel_rfl) rfl (LX.l (fun _ hJ => LO.fa (r := 6) F135_4 (.r rfl) rfl) rfl<|LX.l (fun _ hJ => LO.fa (r := 6) F71_0 (.r rfl) rfl) rfl<|LX.l (fun _ hJ => LO.ld O3 (.r rfl) (fun _ hw => cells_at (hJ _ hw) 0 rfl ⟨_, rfl⟩)) rfl<|LX.l (fun _ hJ => LO.fa (r := 5) F26_1 (.r rfl) rfl) rfl<|LX.l (fun _ hJ => LO.ld O24 (.r rfl) (fun _ hw => cells_at (hJ _ hw) 3 rfl ⟨_, rfl⟩)) rfl<|LX.l (fun _ hJ => LO.mv (.r rfl)) rfl<|LX.l (fun _ hJ => LO.ixs S24 N71 hv.some (.r rfl) (.r rfl) rfl (by omega)) rfl<|LX.l (fun _ hJ => LO.fa F71_0 (.r rfl) rfl) rfl<|LX.l (fun _ hJ => LO.ld O3 (.r rfl) (fun w hw => cells_part (off := 0) ((hv.at (j := p) (by omega)) w (hJ _ hw)) ⟨_, rfl⟩)) rfl<|LX.l (fun _ hJ => LO.add (.r rfl) (.r rfl) (wi (by omega) (by omega))) rfl<|LX.l (fun _ hJ => LO.fa (r := 6) F135_4 (.r rfl) rfl) rfl<|LX.l (fun _ hJ => LO.fa (r := 6) F71_0 (.r rfl) rfl) rfl<|LX.s<|LX.nil) (HX.s<|HX.s<|HX.s<|HX.s<|HX.s<|HX.s<|HX.s<|HX.s<|HX.s<|HX.s<|HX.s<|HX.s<|HX.h0<|HO.st 0 (vs := [_]) (C' := [_,_,_,_,_,_,_,_]) (L' := [_,_,_,_]) N3 rfl rfl rfl rfl rfl rfl rfl rfl<|⟨fun _ hw => hw.sel [1,2,3] rfl, HX.nil ?_⟩)
        refine VE.inN (VE.seqN ?_)
        refine VC.reg (VO.l (LO.mv (.r rfl)) rfl<|VO.l (LO.add (.r rfl) (.r rfl) (wi (by omega) (by omega))) rfl<|VO.l (LO.as (.r rfl)) rfl<|VO.nil ?_)
        have hsc := dS_first (W := gW g) (vs := vs) (lv := lv) hpk
        refine VE.thenN fun a w ha hw => ⟨0 + 1, (by omega), (by omega), ha.sub (.cons rfl (.cons rfl (.cons rfl (.cons rfl (.cons rfl (.cons rfl (.cons rfl .nil))))))), (by rw [hsc]; first | exact hw | (unfold stepS; dsimp only; rw [if_pos hin]; exact hw) | (unfold stepS; dsimp only; rw [if_neg (Bool.eq_false_iff.1 hin)]; exact hw))⟩
      ·
        have hin : inB vs lv p = false := decide_eq_false h92
        refine VC.skip (VE.inN (VE.seqN ?_))
        refine VC.reg (VO.l (LO.mv (.r rfl)) rfl<|VO.l (LO.add (.r rfl) (.r rfl) (wi (by omega) (by omega))) rfl<|VO.l (LO.as (.r rfl)) rfl<|VO.nil ?_)
        have hsc := dS_first (W := gW g) (vs := vs) (lv := lv) hpk
        rw [sur_no hpk hin]
        refine VE.thenN fun a w ha hw => ⟨0 + 1, (by omega), (by omega), ha.sub (.cons rfl (.cons rfl (.cons rfl (.cons rfl (.cons rfl (.cons rfl (.cons rfl .nil))))))), (by rw [hsc]; first | exact hw | (unfold stepS; dsimp only; rw [if_pos hin]; exact hw) | (unfold stepS; dsimp only; rw [if_neg (Bool.eq_false_iff.1 hin)]; exact hw))⟩
    ·
      refine VC.skip (VE.seqN ?_)
      refine VC.seq ?_
      refine VC.reg (VO.l (LO.fa (r := 2) F135_2 (.r rfl) rfl) rfl<|VO.l (LO.fa (r := 2) F71_0 (.r rfl) rfl) rfl<|VO.l (LO.ld O3 (.r rfl) (fun _ hw => cells_at hw 0 rfl ⟨_, rfl⟩)) rfl<|VO.l (LO.mv (.r rfl)) rfl<|VO.l (LO.min (.r rfl) (.r rfl)) rfl<|VO.l (LO.fa (r := 2) F135_2 (.r rfl) rfl) rfl<|VO.l (LO.fa (r := 3) F71_1 (.r rfl) rfl) rfl<|VO.l (LO.ld O3 (.r rfl) (fun _ hw => cells_at hw 0 rfl ⟨_, rfl⟩)) rfl<|VO.l (LO.mv (.r rfl)) rfl<|VO.l (LO.max (.r rfl) (.r rfl)) rfl<|VO.l (LO.bd (ps := [(_,_), (_,_)]) (vs := [(_,_), (_,_)]) (C := [_,_]) B71  ⟨(.r rfl), (.r rfl), trivial⟩ rfl ⟨_, [_], [_,_], rfl, rfl, rfl, rfl, ⟨_, [_], [_,_], rfl, rfl, rfl, rfl, rfl⟩⟩) rfl<|VO.l (LO.fa (r := 2) F135_2 (.r rfl) rfl) rfl<|VO.h0<|HO.st 0 (vs := [_,_]) (C' := [_,_,_,_,_,_,_,_]) (L' := [_,_,_,_]) N71 rfl rfl rfl rfl rfl rfl rfl rfl<|VO.nil ?_)
      refine VE.seqN ?_
      refine VC.seq ?_
      refine VC.reg (VO.l (LO.fa (r := 4) F135_3 (.r rfl) rfl) rfl<|VO.l (LO.fa (r := 4) F71_0 (.r rfl) rfl) rfl<|VO.l (LO.ld O3 (.r rfl) (fun _ hw => cells_at hw 0 rfl ⟨_, rfl⟩)) rfl<|VO.l (LO.mv (.r rfl)) rfl<|VO.l (LO.min (.r rfl) (.r rfl)) rfl<|VO.l (LO.fa (r := 4) F135_3 (.r rfl) rfl) rfl<|VO.l (LO.fa (r := 5) F71_1 (.r rfl) rfl) rfl<|VO.l (LO.ld O3 (.r rfl) (fun _ hw => cells_at hw 0 rfl ⟨_, rfl⟩)) rfl<|VO.l (LO.mv (.r rfl)) rfl<|VO.l (LO.max (.r rfl) (.r rfl)) rfl<|VO.l (LO.bd (ps := [(_,_), (_,_)]) (vs := [(_,_), (_,_)]) (C := [_,_]) B71  ⟨(.r rfl), (.r rfl), trivial⟩ rfl ⟨_, [_], [_,_], rfl, rfl, rfl, rfl, ⟨_, [_], [_,_], rfl, rfl, rfl, rfl, rfl⟩⟩) rfl<|VO.l (LO.fa (r := 4) F135_3 (.r rfl) rfl) rfl<|VO.h0<|HO.st 0 (vs := [_,_]) (C' := [_,_,_,_,_,_,_,_]) (L' := [_,_,_,_]) N71 rfl rfl rfl rfl rfl rfl rfl rfl<|VO.nil ?_)
      refine VE.seqN ?_
      refine VC.seq ?_
      refine VC.drawH [[0,1,2,3], [1,2,3]] [some 0, some 0, some 0, some 0, some 0, some 0, some 0, some 0, some 0, some 0, some 0, some 0, none] mixed (by kernel_rfl) rfl (LX.l (fun _ hJ => LO.fa (r := 6) F135_4 (.r rfl) rfl) rfl<|LX.l (fun _ hJ => LO.fa (r := 7) F71_1 (.r rfl) rfl) rfl<|LX.l (fun _ hJ => LO.ld O3 (.r rfl) (fun _ hw => cells_at (hJ _ hw) 0 rfl ⟨_, rfl⟩)) rfl<|LX.l (fun _ hJ => LO.fa (r := 5) F26_1 (.r rfl) rfl) rfl<|LX.l (fun _ hJ => LO.ld O24 (.r rfl) (fun _ hw => cells_at (hJ _ hw) 3 rfl ⟨_, rfl⟩)) rfl<|LX.l (fun _ hJ => LO.mv (.r rfl)) rfl<|LX.l (fun _ hJ => LO.ixs S24 N71 hv.some (.r rfl) (.r rfl) rfl (by omega)) rfl<|LX.l (fun _ hJ => LO.fa F71_1 (.r rfl) rfl) rfl<|LX.l (fun _ hJ => LO.ld O3 (.r rfl) (fun w hw => cells_part (off := 1) ((hv.at (j := p) (by omega)) w (hJ _ hw)) ⟨_, rfl⟩)) rfl<|LX.l (fun _ hJ => LO.add (.r rfl) (.r rfl) (wi (by omega) (by omega))) rfl<|LX.l (fun _ hJ => LO.fa (r := 6) F135_4 (.r rfl) rfl) rfl<|LX.l (fun _ hJ => LO.fa (r := 7) F71_1 (.r rfl) rfl) rfl<|LX.s<|LX.nil) (HX.s<|HX.s<|HX.s<|HX.s<|HX.s<|HX.s<|HX.s<|HX.s<|HX.s<|HX.s<|HX.s<|HX.s<|HX.h0<|HO.st 0 (vs := [_]) (C' := [_,_,_,_,_,_,_,_]) (L' := [_,_,_,_]) N3 rfl rfl rfl rfl rfl rfl rfl rfl<|⟨fun _ hw => hw.sel [1,2,3] rfl, HX.nil ?_⟩)
      refine VE.seqN ?_
      refine VC.seq ?_
      refine VC.reg (VO.l (LO.fa (r := 5) F26_1 (.r rfl) rfl) rfl<|VO.l (LO.ld O24 (.r rfl) (fun _ hw => cells_at hw 3 rfl ⟨_, rfl⟩)) rfl<|VO.l (LO.mv (.r rfl)) rfl<|VO.l (LO.ixs S24 N71 hv.some (.r rfl) (.r rfl) rfl (by omega)) rfl<|VO.l (LO.fa F71_0 (.r rfl) rfl) rfl<|VO.l (LO.ld O3 (.r rfl) (fun w hw => cells_part (off := 0) ((hv.at (j := p) (by omega)) w hw) ⟨_, rfl⟩)) rfl<|VO.l (LO.mv (.r rfl)) rfl<|VO.l (LO.ge (.r rfl) (.r rfl)) rfl<|VO.nil ?_)
      refine VE.seqN ?_
      refine VC.cond rfl (fun h92 => ?_) (fun h92 => ?_)
      ·
        have hin : inB vs lv p = true := decide_eq_true h92
        refine VC.seq ?_
        refine VC.reg (VO.l (LO.mv (.r rfl)) rfl<|VO.l (LO.mv (.r rfl)) rfl<|VO.l (LO.ixo S142 N4 (fun _ hw => (own_rows hw 1 rfl).some (by rw [List.length_map, setB_len]; omega)) (.r rfl) (.r rfl) rfl (by omega)) rfl<|VO.h0<|HO.stm 1 (fun R => [_, R,_,_]) (true) (vs := [_]) N4 (.r rfl) (.r rfl) rfl (by rw [setB_len]; omega) rfl rfl rfl rfl rfl (fun _ => rfl)<|VO.nil ?_)
        rw [sur_yes hpk hin (by omega)]
        refine VE.seqN ?_
        refine VC.drawH [[0,1,2,3], [1,2,3]] [some 0, some 0, some 0, some 0, some 0, some 0, some 0, some 0, some 0, some 0, some 0, some 0, none] mixed (by kernel_rfl) rfl (LX.l (fun _ hJ => LO.fa (r := 6) F135_4 (.r rfl) rfl) rfl<|LX.l (fun _ hJ => LO.fa (r := 6) F71_0 (.r rfl) rfl) rfl<|LX.l (fun _ hJ => LO.ld O3 (.r rfl) (fun _ hw => cells_at (hJ _ hw) 0 rfl ⟨_, rfl⟩)) rfl<|LX.l (fun _ hJ => LO.fa (r := 5) F26_1 (.r rfl) rfl) rfl<|LX.l (fun _ hJ => LO.ld O24 (.r rfl) (fun _ hw => cells_at (hJ _ hw) 3 rfl ⟨_, rfl⟩)) rfl<|LX.l (fun _ hJ => LO.mv (.r rfl)) rfl<|LX.l (fun _ hJ => LO.ixs S24 N71 hv.some (.r rfl) (.r rfl) rfl (by omega)) rfl<|LX.l (fun _ hJ => LO.fa F71_0 (.r rfl) rfl) rfl<|LX.l (fun _ hJ => LO.ld O3 (.r rfl) (fun w hw => cells_part (off := 0) ((hv.at (j := p) (by omega)) w (hJ _ hw)) ⟨_, rfl⟩)) rfl<|LX.l (fun _ hJ => LO.add (.r rfl) (.r rfl) (wi (by omega) (by omega))) rfl<|LX.l (fun _ hJ => LO.fa (r := 6) F135_4 (.r rfl) rfl) rfl<|LX.l (fun _ hJ => LO.fa (r := 6) F71_0 (.r rfl) rfl) rfl<|LX.s<|LX.nil) (HX.s<|HX.s<|HX.s<|HX.s<|HX.s<|HX.s<|HX.s<|HX.s<|HX.s<|HX.s<|HX.s<|HX.s<|HX.h0<|HO.st 0 (vs := [_]) (C' := [_,_,_,_,_,_,_,_]) (L' := [_,_,_,_]) N3 rfl rfl rfl rfl rfl rfl rfl rfl<|⟨fun _ hw => hw.sel [1,2,3] rfl, HX.nil ?_⟩)
        refine VE.inN (VE.seqN ?_)
        refine VC.reg (VO.l (LO.mv (.r rfl)) rfl<|VO.l (LO.add (.r rfl) (.r rfl) (wi (by omega) (by omega))) rfl<|VO.l (LO.as (.r rfl)) rfl<|VO.nil ?_)
        have hsc := dS_next (W := gW g) (vs := vs) (lv := lv) hpk (by omega)
        refine VE.thenN fun a w ha hw => ⟨i + 1, (by omega), (by omega), ha.sub (.cons rfl (.cons rfl (.cons rfl (.cons rfl (.cons rfl (.cons rfl (.cons rfl .nil))))))), (by rw [hsc]; first | exact hw | (unfold stepS; dsimp only; rw [if_pos hin]; exact hw) | (unfold stepS; dsimp only; rw [if_neg (Bool.eq_false_iff.1 hin)]; exact hw))⟩
      ·
        have hin : inB vs lv p = false := decide_eq_false h92
        refine VC.skip (VE.inN (VE.seqN ?_))
        refine VC.reg (VO.l (LO.mv (.r rfl)) rfl<|VO.l (LO.add (.r rfl) (.r rfl) (wi (by omega) (by omega))) rfl<|VO.l (LO.as (.r rfl)) rfl<|VO.nil ?_)
        have hsc := dS_next (W := gW g) (vs := vs) (lv := lv) hpk (by omega)
        rw [sur_no hpk hin]
        refine VE.thenN fun a w ha hw => ⟨i + 1, (by omega), (by omega), ha.sub (.cons rfl (.cons rfl (.cons rfl (.cons rfl (.cons rfl (.cons rfl (.cons rfl .nil))))))), (by rw [hsc]; first | exact hw | (unfold stepS; dsimp only; rw [if_pos hin]; exact hw) | (unfold stepS; dsimp only; rw [if_neg (Bool.eq_false_iff.1 hin)]; exact hw))⟩
  ·
    have hie : i = l.length := by omega
    subst hie
    rw [dS_all hne]
    refine VC.exit (VE.thenX (VE.thenX (VE.inX (VE.seqN ?_))))
    refine VC.seq ?_
    refine VC.reg (VO.l (LO.fa (r := 0) F26_0 (.r rfl) rfl) rfl<|VO.l (LO.lda (vs := [_,_,_,_,_]) A23 (.r rfl) (fun _ hw => cells_at hw 3 rfl ⟨_, rfl⟩) rfl) rfl<|VO.l (LO.mv (.r rfl)) rfl<|VO.h rfl<|HO.callx (xs := [_,_]) (vs := [_,_]) C102 ⟨(.r rfl), (.r rfl), trivial⟩ (fun w2 hw => rPartsN_c g (surB vs lv l l.length) vs.length hvl _ _ w2 hg (RO.of_own hw 1 rfl)) fun y hy => VO.l (LO.fa (r := 1) F135_1 (.r rfl) rfl) rfl<|VO.h0<|HO.st 2 (vs := [_]) (C' := [_,_,_,_,_,_,_,_]) (L' := [_,_,_,_,_,_]) N41 rfl rfl rfl rfl rfl rfl rfl rfl<|VO.nil ?_)
    refine VE.seqN ?_
    refine VC.seq ?_
    refine VC.reg (VO.l (LO.lda (vs := [_,_,_,_,_,_,_,_]) A135 (.r rfl) (fun _ hw => cells_at hw 2 rfl ⟨_, rfl⟩) rfl) rfl<|VO.h0<|HO.st 4 (vs := [_,_,_,_,_,_,_,_]) (C' := [_,_,_,_,_,_,_,_]) (L' := [_,_,_,_,_,_]) N135 rfl rfl rfl rfl rfl rfl rfl rfl<|VO.nil ?_)
    refine VE.seqN ?_
    refine VC.ret (VE.res (vs := [_]) rfl ⟨RV.agg (vs := [_,_,_,_,_,_,_,_]) A135 rfl (cells_blk 4 rfl ⟨_, rfl⟩) rfl, trivial⟩ (fun w hw => ?_))
    exact ⟨y, hy, rfl, selK [0,1] rfl rfl _ hw⟩

set_option maxRecDepth 20000 in
set_option maxHeartbeats 16000000 in
theorem rAreas_c (g : Grid) (vs : List Span) (pv : Option Addr) (cv : Nat) (lv : Int) (w : World) (hg : gridOk g) (hvl : vs.length = gW g * gH g) (hok : ∀ j, j < vs.length → spanOk 1073741824 (vs.getD j ⟨0,0⟩)) (hv : Spans w pv vs) :
  Calls Try.prog 60 #[fieldV g pv vs.length cv, .int .i64 lv] w fun e w' => ∃ y : DaY, DaP (gW g) (gH g) vs lv y ∧ e = .returned (.slice y.p y.l.length y.c) ∧ St (bs w) (y.R 135) w' := by
  have har := area_le hg
  obtain ⟨hW, hH, hW1, hW2, hH1, hH2⟩ := gWi hg
  refine enter (vs := [_,_]) (env := [(0,_), (1,_)]) Try.func60 rfl rfl rfl rfl ?_
  refine VC.seq ?_
  refine VC.reg (VO.h rfl<|HO.box (C := #[_,_,_,_,_,_]) rfl rfl fun b1 => VO.l (LO.as (.r rfl)) rfl<|VO.nil ?_)
  refine VE.seqN ?_
  refine VC.seq ?_
  refine VC.reg (VO.l (LO.as (.r rfl)) rfl<|VO.nil ?_)
  refine VE.seqN ?_
  refine VC.seq ?_
  refine VC.drawH [[0], [0], [0], [0]] [some 1, some 1, some 0, some 0, none, none, none] mixed (by kernel_rfl) rfl (LX.l (fun _ hJ => LO.fa (r := 0) F26_0 (.r rfl) rfl) rfl<|LX.l (fun _ hJ => LO.lda (vs := [_,_,_,_,_]) A23 (.r rfl) (fun _ hw => cells_at (hJ _ hw) 0 rfl ⟨_, rfl⟩) rfl) rfl<|LX.l (fun _ hJ => LO.lda (vs := [_,_,_,_,_,_]) A26 (.r rfl) (fun _ hw => cells_at (hJ _ hw) 0 rfl ⟨_, rfl⟩) rfl) rfl<|LX.l (fun _ hJ => LO.mv (.r rfl)) rfl<|LX.s<|LX.s<|LX.s<|LX.nil) (HX.s<|HX.s<|HX.s<|HX.s<|HX.h rfl<|HO.callx (xs := [_,_]) (vs := [_,_]) C68 ⟨(.r rfl), (.r rfl), trivial⟩ (fun w2 hw => rMay_c g vs pv cv lv w2 (hv.keep w2 hw) (by omega)) fun y1 _ => ⟨fun _ hw => hw.sel [1] rfl, HX.h rfl<|HO.callx (xs := [_,_]) (vs := [_,_]) C102 ⟨(.r rfl), (.r rfl), trivial⟩ (fun w2 hw => rParts_c g (mayB vs lv) (setB vs.length (mayB vs lv)) y1.p y1.c w2 hg (RO.of_own hw 0 rfl) (by rw [hvl])) fun y2 hy2 => ⟨fun _ hw => hw.sel [3] rfl, HX.h rfl<|HO.lo (LO.as (.r rfl))<|⟨fun _ hw => hw.sel [3] rfl, HX.nil ?_⟩⟩⟩)
  refine VE.seqN ?_
  refine VC.seq ?_
  refine VC.seq ?_
  refine VC.rebase fun w1 hst1 => ?_
  have hRR : RR 1 nC w1 y2.p y2.rs := RR.of_own hst1 0 1 rfl rfl
  have hv1 := hv.keep w1 hst1
  have hfb : Cells w1 ⟨b1,0, none⟩ [.int .i64 g.x, .int .i64 g.y, .int .i64 g.size, .int .i64 g.wide, .int .i64 g.high, .slice pv vs.length cv] := cells_inv (hst1.inv 3 _ rfl)
  refine VC.reg (VO.l (LO.as (.r rfl)) rfl<|VO.nil ?_)
  refine VE.seqN ?_
  refine VC.block ?_
  refine VC.loopK (α := Nat × (List AreaR) × (Option Addr) × Nat) 0 (fun gx => [(5, .slice gx.2.2.1 gx.2.1.length gx.2.2.2), (7, .int .i64 (gx.1 : Nat))]) [(1,_), (2,_), (6,_)] (fun gx => [own 135 8 gx.2.2.1 gx.2.2.2 (gx.2.1.map AreaR.cells), bagD (kks gx.2.1)]) (fun gx => gx.1 ≤ y2.rs.length ∧ gx.2.1.map AreaR.px = y2.rs.take gx.1 ∧ ∀ a, a ∈ gx.2.1 → a.m = areaM (gW g) (gH g) vs lv a.px.l) (fun gx => y2.rs.length - gx.1) (0, [], none, 0) (by exact ⟨Nat.zero_le _, rfl, by simp⟩) (.cons rfl (.cons rfl (.cons rfl (.cons rfl (.cons rfl .nil))))) (fun _ h => ((St.bagD (Rs := []) h).ownNil 135 8)) ?_
  rintro ⟨i, l, pa, ca⟩ ⟨hi, hpx, hms⟩
  show VC _ _ _ _ _ ([(5, .slice pa l.length ca), (7, .int .i64 (i : Nat))] ++ _) ([own 135 8 pa ca (l.map AreaR.cells), bagD (kks l)] ++ _) _ _
  dsimp only at hi hpx hms
  have hll := congrArg List.length hpx
  rw [List.length_map, List.length_take] at hll
  have hyl : y2.rs.length ≤ gW g * gH g := by have := congrArg List.length hy2; rw [List.length_map] at this; rw [this]; exact parts_len
  refine VC.seq ?_
  refine VC.seq ?_
  refine VC.reg (VO.l (LO.mv (.r rfl)) rfl<|VO.l (LO.mv (.r rfl)) rfl<|VO.l (LO.len S41 (.r rfl) rfl) rfl<|VO.l (LO.lt (.r rfl) (.r rfl)) rfl<|VO.nil ?_)
  refine VE.seqN ?_
  refine VC.cond rfl (fun h17 => ?_) (fun h17 => ?_)
  ·
    obtain ⟨r, hr⟩ := get_ex (l := y2.rs) (n := i) (by omega)
    obtain ⟨p0, hp0, hp0l, ⟨hrl1, hrl2,_⟩, hrm⟩ := part_facts hy2 hr
    have hrl2 : r.l.length ≤ 4096 := by omega
    have hrne : r.l ≠ [] := fun z => by rw [z] at hrl1; exact absurd hrl1 (Nat.lt_irrefl 0)
    have hTS : ∀ x, x < gW g * gH g → inB vs lv x = true → mayB vs lv x = true := may_in (fun j hj => hok j (by omega))
    refine VC.skip (VE.seqN ?_)
    refine VC.seq ?_
    refine VC.block ?_
    refine VC.drawH [[0,1], [0,1], [0,1], [1], [1]] [some 2, some 0, some 0, some 0, some 0, some 0, some 0, none, none, none, none] mixed (by kernel_rfl) rfl (LX.l (fun _ hJ => LO.mv (.r rfl)) rfl<|LX.l (fun _ hJ => LO.lda (vs := [_,_,_,_,_,_]) A26 (.r rfl) (cells_keep (sub_cells (off := 0) hfb ⟨_, rfl⟩)) rfl) rfl<|LX.l (fun _ hJ => LO.mv (.r rfl)) rfl<|LX.l (fun _ hJ => LO.mv (.r rfl)) rfl<|LX.l (fun _ hJ => LO.mv (.r rfl)) rfl<|LX.l (fun _ hJ => LO.ixs S41 N40 hRR.1.sm (.r rfl) (.r rfl) rfl (by omega)) rfl<|LX.l (fun _ hJ => LO.ld O40 (.r rfl) (fun w hw => cells_part (off := 0) ((fun w3 h3 => RR.cell (RR.keep hRR w3 h3) hr) w (hJ _ hw)) ⟨_, rfl⟩)) rfl<|LX.s<|LX.s<|LX.s<|LX.s<|LX.nil) (HX.s<|HX.s<|HX.s<|HX.s<|HX.s<|HX.s<|HX.s<|HX.h rfl<|HO.callx (xs := [_,_,_]) (vs := [_,_,_]) C103 ⟨(.r rfl), (.r rfl), (.r rfl), trivial⟩ (fun w2 hw => rArea_c g vs pv cv lv r.l r.p r.c w2 hg hvl hok (hv1.keep w2 hw) ((RR.row hRR hr).keep w2 hw) hrm hrl2 hrne) fun y3 hy3 => ⟨fun _ hw => hw.sel [2,3] rfl, HX.h rfl<|HO.bs (ps := [(_,_)]) (vs := [(_,_)]) (Z := [_,_,_,_,_,_,_,_]) (C := [_,_,_,_,_,_,_,_]) S33 Z135 N135 ⟨(.r rfl), trivial⟩ rfl rfl rfl rfl ⟨_, [_,_,_,_,_,_,_,_], [_,_,_,_,_,_,_,_], rfl, rfl, rfl, rfl, rfl⟩ fun b15 => ⟨fun _ hw => hw.sel [3,4] rfl, HX.h rfl<|HO.appT ((⟨r, y3.p, y3.c, y3.rs, sumS (gW g) vs lv r.l⟩ : AreaR)) 3 0 (fun R => [_,_,_, R,_]) S33 S33 I135 (.r rfl) (.r rfl) rfl rfl rfl rfl rfl rfl rfl (fun _ => rfl) rfl (by omega) fun p9 c9 => ⟨fun _ hw => hw.sel [4] rfl, HX.h rfl<|HO.lo (LO.as (.r rfl))<|⟨fun _ hw => hw.sel [4] rfl, HX.nil ?_⟩⟩⟩⟩)
    refine VE.inN (VE.seqN ?_)
    refine VC.reg (VO.l (LO.mv (.r rfl)) rfl<|VO.l (LO.add (.r rfl) (.r rfl) (wi (by omega) (by omega))) rfl<|VO.l (LO.as (.r rfl)) rfl<|VO.nil ?_)
    refine VE.thenN fun a w ha hw => ⟨(i + 1, l ++ [(⟨r, y3.p, y3.c, y3.rs, sumS (gW g) vs lv r.l⟩ : AreaR)], p9, c9), ⟨by dsimp only; omega, by dsimp only; rw [List.map_append, hpx, take_app1 hr]; rfl, areas_next hms (area_doc hTS (by rw [← hy2]; exact List.mem_map_of_mem (List.mem_of_getElem? hr)) hy3 rfl)⟩, (by dsimp only; omega), ha.sub (.cons rfl (.cons rfl (.cons rfl (.cons rfl (.cons rfl .nil))))), (by exact selK (L1 := [_,_]) [1,0] rfl rfl _ (St.kIn (a := (⟨r, y3.p, y3.c, y3.rs, sumS (gW g) vs lv r.l⟩ : AreaR)) (selK (L1 := [_,_,_,_]) [1,2,4,3] rfl rfl _ hw)))⟩
  ·
    have hie : i = y2.rs.length := by omega
    subst hie
    rw [List.take_length] at hpx
    refine VC.exit (VE.thenX (VE.thenX (VE.inX (VE.seqN ?_))))
    refine VC.seq ?_
    refine VC.reg (VO.l (LO.mv (.r rfl)) rfl<|VO.l (LO.as (.r rfl)) rfl<|VO.nil ?_)
    refine VE.seqN ?_
    refine VC.ret (VE.res (vs := [_]) rfl ⟨rfl, trivial⟩ (fun w hw => ?_))
    have hf := hst1.call (selK (L1 := [_,_]) [0,1] rfl rfl _ hw)
    exact ⟨⟨l, pa, ca, y2.rs⟩, areas_done hy2 hpx hms, rfl, selK [0,1,3] rfl rfl _ hf⟩

end Go.Proofs.Ytgemekpofpoopaa

namespace Go.Proofs.Ytgemekpofpoopaa
open Go.SL Go.Proofs Go.Cast Go.Cell
set_option linter.unusedVariables false

theorem C60 : IsFn Try.prog 60 := ⟨_, Try.func60, by decide, rfl⟩


structure ALB (l : List AreaR) : Prop where
  n : l.length ≤ 4096
  px : ∀ a, a ∈ l → a.px.l.length ≤ 4096
  kr : ∀ a, a ∈ l → a.kr.length ≤ 4096
  kl : ∀ a, a ∈ l → ∀ k, k ∈ a.kr → k.l.length ≤ 4096
theorem part_len {W H : Nat} {S : Nat → Bool} {l : List Nat} (h : l ∈ partsL W H S) : l.length ≤ W * H := by
  obtain ⟨p, hp, hs, rfl⟩ := mem_partsTo (p := W * H) h
  have hn : (compL W H S p).Nodup := (compL_sorted hp).imp fun h => Nat.ne_of_lt h
  have := length_le_of_subset (m := List.range (W * H)) hn (fun x hx => List.mem_range.2 (compL_lt hp hx))
  simpa using this
theorem areas_bd {W H : Nat} {vs : List Span} {lv : Int} {l : List AreaR} (hW : W * H ≤ 4096) (h : l.map AreaR.m = areasM W H vs lv) : ALB l := by
  have hmem : ∀ a, a ∈ l → ∃ pl, pl ∈ partsL W H (mayB vs lv) ∧ a.m = areaM W H vs lv pl := fun a ha => by
    have : a.m ∈ areasM W H vs lv := by rw [← h]; exact List.mem_map_of_mem ha
    obtain ⟨pl, h1, h2⟩ := List.mem_map.1 this
    exact ⟨pl, h1, h2.symm⟩
  have hk : ∀ a, a ∈ l → ∃ pl, a.kr.map RowA.l = (partsL W H (inB vs lv)).filter (fun k => decide (k.headD 0 ∈ pl)) := fun a ha => by
    obtain ⟨pl,_, h2⟩ := hmem a ha
    exact ⟨pl, congrArg AreaM.ks h2⟩
  refine ⟨?_, fun a ha => ?_, fun a ha => ?_, fun a ha k hk2 => ?_⟩
  · have := congrArg List.length h
    unfold areasM at this
    rw [List.length_map, List.length_map] at this
    have := parts_len (W := W) (H := H) (S := mayB vs lv) (p := W * H)
    unfold partsL at *
    omega
  · obtain ⟨pl, h1, h2⟩ := hmem a ha
    have : a.px.l = pl := congrArg AreaM.px h2
    rw [this]
    have := part_len h1; omega
  · obtain ⟨pl, h1⟩ := hk a ha
    have h2 := congrArg List.length h1
    rw [List.length_map] at h2
    have h3 := List.length_filter_le (fun k => decide (k.headD 0 ∈ pl)) (partsL W H (inB vs lv))
    have h4 := parts_len (W := W) (H := H) (S := inB vs lv) (p := W * H)
    unfold partsL at *
    omega
  · obtain ⟨pl, h1⟩ := hk a ha
    have : k.l ∈ (partsL W H (inB vs lv)).filter (fun k => decide (k.headD 0 ∈ pl)) := by rw [← h1]; exact List.mem_map_of_mem hk2
    have := part_len (List.mem_filter.1 this).1
    omega
theorem grid_le {g : Grid} {vs : List Span} {lv : Int} (h : openE g vs lv = 0) : gW g * gH g ≤ 4096 := area_le (openOk h).1
theorem st_bag {β : Bs} {L : List Res} {w : World} (h : St β L w) : St β [bagD L] w := St.bagD (Rs := L) (L := []) (by rw [List.append_nil]; exact h)
end Go.Proofs.Ytgemekpofpoopaa

namespace Go.Proofs.Ytgemekpofpoopaa
open Go.SL Go.Proofs Go.Cast Go.Cell
set_option linter.unusedVariables false

theorem F135_0 : FieldAt Try.prog 135 0 0 := ⟨_,_, Try.underlying135, rfl, rfl, 0, by kernel_rfl⟩
end Go.Proofs.Ytgemekpofpoopaa

namespace Go.Proofs.Ytgemekpofpoopaa
open Go.SL Go.Proofs Go.Cast Go.Cell
set_option linter.unusedVariables false

theorem C75 : IsFn Try.prog 75 := ⟨_, Try.func75, by decide, rfl⟩


theorem da_px {W H : Nat} {vs : List Span} {lv : Int} {y : DaY} (h : DaP W H vs lv y) : y.l.map (fun a => a.px.l) = partsL W H (mayB vs lv) := by
  have := congrArg (List.map AreaM.px) h.m
  rw [List.map_map] at this
  unfold areasM at this
  rw [List.map_map] at this
  have e : (partsL W H (mayB vs lv)).map (AreaM.px ∘ areaM W H vs lv) = partsL W H (mayB vs lv) := List.map_id _
  rw [e] at this
  exact this
end Go.Proofs.Ytgemekpofpoopaa

namespace Go.Proofs.Ytgemekpofpoopaa
open Go.SL Go.Proofs Go.Cast Go.Cell
set_option linter.unusedVariables false



/-- Two pixels near each other. -/
def nrB (W r p q : Nat) : Bool := decide (((((p % W : Nat) : Int) - ((q % W : Nat) : Int) ≤ r ∧ -(((p % W : Nat) : Int) - ((q % W : Nat) : Int)) ≤ r) ∧ ((p / W : Nat) : Int) - ((q / W : Nat) : Int) ≤ r) ∧ -(((p / W : Nat) : Int) - ((q / W : Nat) : Int)) ≤ r)
def touB (W r : Nat) (l m : List Nat) : Bool := l.any fun p => m.any fun q => nrB W r p q
theorem tou_t {W r i k p q : Nat} {l m : List Nat} (hp : l[i]? = some p) (hq : m[k]? = some q) (h : nrB W r p q = true) : true = touB W r l m := (List.any_eq_true.2 ⟨p, List.mem_of_getElem? hp, List.any_eq_true.2 ⟨q, List.mem_of_getElem? hq, h⟩⟩).symm
theorem tou_f {W r : Nat} {l m : List Nat} (h : ∀ i, i < l.length → ∀ p, l[i]? = some p → ∀ q, q ∈ m → nrB W r p q = false) : false = touB W r l m := by
  symm
  refine Bool.eq_false_iff.2 fun z => ?_
  obtain ⟨p, hp, z2⟩ := List.any_eq_true.1 z
  obtain ⟨q, hq, z3⟩ := List.any_eq_true.1 z2
  obtain ⟨i, hi⟩ := List.mem_iff_getElem?.1 hp
  rw [h i (List.getElem?_eq_some_iff.1 hi).1 p hi q hq] at z3; cases z3
theorem tou_next1 {b : List Nat} {W r k p q : Nat} (h : ∀ j, j < k → ∀ q, b[j]? = some q → nrB W r p q = false) (hq : b[k]? = some q) (hn : nrB W r p q = false) : ∀ j, j < k + 1 → ∀ q, b[j]? = some q → nrB W r p q = false := fun j hj q2 hq2 => by
  rcases Nat.lt_succ_iff_lt_or_eq.1 hj with z | rfl
  · exact h j z q2 hq2
  · rw [hq] at hq2; cases hq2; exact hn
theorem tou_next {a b : List Nat} {W r i p : Nat} (h : ∀ j, j < i → ∀ p, a[j]? = some p → ∀ q, q ∈ b → nrB W r p q = false) (hp : a[i]? = some p) (hn : ∀ j, j < b.length → ∀ q, b[j]? = some q → nrB W r p q = false) : ∀ j, j < i + 1 → ∀ p, a[j]? = some p → ∀ q, q ∈ b → nrB W r p q = false := fun j hj p2 hp2 q hq => by
  rcases Nat.lt_succ_iff_lt_or_eq.1 hj with z | rfl
  · exact h j z p2 hp2 q hq
  · rw [hp] at hp2; cases hp2
    obtain ⟨k, hk⟩ := List.mem_iff_getElem?.1 hq
    exact hn k (List.getElem?_eq_some_iff.1 hk).1 q hk

set_option maxRecDepth 20000 in
set_option maxHeartbeats 4000000 in
theorem rPair_c (g1 : Grid) (v1 : List Span) (p1 : Option Addr) (c1 : Nat) (g2 : Grid) (v2 : List Span) (p2 : Option Addr) (c2 : Nat) (lv reach : Int) (w : World) (hv1 : Spans w p1 v1) (hv2 : Spans w p2 v2) :
  Calls Try.prog 79 #[fieldV g1 p1 v1.length c1, fieldV g2 p2 v2.length c2, .int .i64 lv, .int .i64 reach] w fun e w' => e = .returned (.int .i64 (pairE g1 v1 g2 v2 lv reach)) ∧ St (bs w) [] w' := by
  refine enter (vs := [_,_,_,_]) (env := [(0,_), (1,_), (2,_), (3,_)]) Try.func79 rfl rfl rfl rfl ?_
  refine VC.seq ?_
  refine VC.reg (VO.h rfl<|HO.box (C := #[_,_,_,_,_,_]) rfl rfl fun b1 => VO.h rfl<|HO.box (C := #[_,_,_,_,_,_]) rfl rfl fun b2 => VO.l (LO.as (.r rfl)) rfl<|VO.nil ?_)
  refine VE.seqN ?_
  refine VC.seq ?_
  refine VC.reg (VO.l (LO.lda (vs := [_,_,_,_,_,_]) A26 (.r rfl) (fun _ hw => cells_at hw 1 rfl ⟨_, rfl⟩) rfl) rfl<|VO.l (LO.call (xs := [_]) (vs := [_]) C74 ⟨(.r rfl), trivial⟩ (fun w2 hw => rCheckField_c ⟨g1, v1⟩ p1 c1 w2 (hv1.keep w2 hw))) rfl<|VO.l (LO.as (.r rfl)) rfl<|VO.nil ?_)
  refine VE.seqN ?_
  refine VC.seq ?_
  refine VC.seq ?_
  refine VC.reg (VO.l (LO.mv (.r rfl)) rfl<|VO.l (LO.ne (.r rfl) (.r rfl)) rfl<|VO.nil ?_)
  refine VE.seqN ?_
  refine VC.cond rfl (fun h13 => ?_) (fun h13 => ?_)
  ·
    refine VC.seq ?_
    refine VC.reg (VO.l (LO.mv (.r rfl)) rfl<|VO.l (LO.as (.r rfl)) rfl<|VO.nil ?_)
    refine VE.seqN ?_
    refine VC.ret (VE.thenR (VE.res (vs := [_]) rfl ⟨rfl, trivial⟩ (fun w hw => ?_)))
    refine ⟨congrArg (fun z => Ending.returned (.int .i64 z)) ?_, hw.nil⟩
    first | exact pr1 h13 | exact pr2 h13 h18 | exact pr3 h13 h18 (by simpa using h24) | exact pr4 h13 h18 (by simpa using h24) (by simpa [or_assoc] using h38) | exact pr5 h13 h18 (by simpa using h24) (by simpa [or_assoc] using h38)
  ·
    refine VC.skip (VE.seqN ?_)
    refine VC.seq ?_
    refine VC.reg (VO.l (LO.lda (vs := [_,_,_,_,_,_]) A26 (.r rfl) (fun _ hw => cells_at hw 0 rfl ⟨_, rfl⟩) rfl) rfl<|VO.l (LO.call (xs := [_]) (vs := [_]) C74 ⟨(.r rfl), trivial⟩ (fun w2 hw => rCheckField_c ⟨g2, v2⟩ p2 c2 w2 (hv2.keep w2 hw))) rfl<|VO.l (LO.as (.r rfl)) rfl<|VO.nil ?_)
    refine VE.seqN ?_
    refine VC.seq ?_
    refine VC.seq ?_
    refine VC.reg (VO.l (LO.mv (.r rfl)) rfl<|VO.l (LO.ne (.r rfl) (.r rfl)) rfl<|VO.nil ?_)
    refine VE.seqN ?_
    refine VC.cond rfl (fun h18 => ?_) (fun h18 => ?_)
    ·
      refine VC.seq ?_
      refine VC.reg (VO.l (LO.mv (.r rfl)) rfl<|VO.l (LO.as (.r rfl)) rfl<|VO.nil ?_)
      refine VE.seqN ?_
      refine VC.ret (VE.thenR (VE.res (vs := [_]) rfl ⟨rfl, trivial⟩ (fun w hw => ?_)))
      refine ⟨congrArg (fun z => Ending.returned (.int .i64 z)) ?_, hw.nil⟩
      first | exact pr1 h13 | exact pr2 h13 h18 | exact pr3 h13 h18 (by simpa using h24) | exact pr4 h13 h18 (by simpa using h24) (by simpa [or_assoc] using h38) | exact pr5 h13 h18 (by simpa using h24) (by simpa [or_assoc] using h38)
    ·
      refine VC.skip (VE.seqN ?_)
      refine VC.seq ?_
      refine VC.seq ?_
      refine VC.reg (VO.l (LO.fa (r := 0) F26_0 (.r rfl) rfl) rfl<|VO.l (LO.lda (vs := [_,_,_,_,_]) A23 (.r rfl) (fun _ hw => cells_at hw 1 rfl ⟨_, rfl⟩) rfl) rfl<|VO.l (LO.fa (r := 0) F26_0 (.r rfl) rfl) rfl<|VO.l (LO.lda (vs := [_,_,_,_,_]) A23 (.r rfl) (fun _ hw => cells_at hw 0 rfl ⟨_, rfl⟩) rfl) rfl<|VO.l (LO.neA («as» := [_,_,_,_,_]) (bs := [_,_,_,_,_]) EA23 (.r rfl) (.r rfl) rfl rfl) rfl<|VO.nil ?_)
      refine VE.seqN ?_
      refine VC.cond rfl (fun h24 => ?_) (fun h24 => ?_)
      ·
        refine VC.seq ?_
        refine VC.reg (VO.l (LO.as (.r rfl)) rfl<|VO.nil ?_)
        refine VE.seqN ?_
        refine VC.ret (VE.thenR (VE.res (vs := [_]) rfl ⟨rfl, trivial⟩ (fun w hw => ?_)))
        refine ⟨congrArg (fun z => Ending.returned (.int .i64 z)) ?_, hw.nil⟩
        first | exact pr1 h13 | exact pr2 h13 h18 | exact pr3 h13 h18 (by simpa using h24) | exact pr4 h13 h18 (by simpa using h24) (by simpa [or_assoc] using h38) | exact pr5 h13 h18 (by simpa using h24) (by simpa [or_assoc] using h38)
      ·
        refine VC.skip (VE.seqN ?_)
        refine VC.seq ?_
        refine VC.seq ?_
        refine VC.reg (VO.l (LO.mv (.r rfl)) rfl<|VO.l (LO.lt (.r rfl) (.r rfl)) rfl<|VO.l (LO.mv (.r rfl)) rfl<|VO.lg rfl rfl (GD.f _) (fun hg => LO.mv (.r rfl)) rfl<|VO.lg rfl rfl (GD.f _) (fun hg => LO.gt (.g hg rfl) (.r rfl)) rfl<|VO.l (LO.pkO (.r rfl) (.r rfl) rfl rfl) rfl<|VO.l (LO.mv (.r rfl)) rfl<|VO.lg rfl rfl (GD.f _) (fun hg => LO.mv (.r rfl)) rfl<|VO.lg rfl rfl (GD.f _) (fun hg => LO.lt (.g hg rfl) (.r rfl)) rfl<|VO.l (LO.pkO (.r rfl) (.r rfl) rfl rfl) rfl<|VO.l (LO.mv (.r rfl)) rfl<|VO.lg rfl rfl (GD.f _) (fun hg => LO.mv (.r rfl)) rfl<|VO.lg rfl rfl (GD.f _) (fun hg => LO.gt (.g hg rfl) (.r rfl)) rfl<|VO.l (LO.pkO (.r rfl) (.r rfl) rfl rfl) rfl<|VO.nil ?_)
        refine VE.seqN ?_
        refine VC.cond rfl (fun h38 => ?_) (fun h38 => ?_)
        ·
          refine VC.seq ?_
          refine VC.reg (VO.l (LO.as (.r rfl)) rfl<|VO.nil ?_)
          refine VE.seqN ?_
          refine VC.ret (VE.thenR (VE.res (vs := [_]) rfl ⟨rfl, trivial⟩ (fun w hw => ?_)))
          refine ⟨congrArg (fun z => Ending.returned (.int .i64 z)) ?_, hw.nil⟩
          first | exact pr1 h13 | exact pr2 h13 h18 | exact pr3 h13 h18 (by simpa using h24) | exact pr4 h13 h18 (by simpa using h24) (by simpa [or_assoc] using h38) | exact pr5 h13 h18 (by simpa using h24) (by simpa [or_assoc] using h38)
        ·
          refine VC.skip (VE.seqN ?_)
          refine VC.seq ?_
          refine VC.reg (VO.l (LO.as (.r rfl)) rfl<|VO.nil ?_)
          refine VE.seqN ?_
          refine VC.ret (VE.res (vs := [_]) rfl ⟨rfl, trivial⟩ (fun w hw => ?_))
          refine ⟨congrArg (fun z => Ending.returned (.int .i64 z)) ?_, hw.nil⟩
          first | exact pr1 h13 | exact pr2 h13 h18 | exact pr3 h13 h18 (by simpa using h24) | exact pr4 h13 h18 (by simpa using h24) (by simpa [or_assoc] using h38) | exact pr5 h13 h18 (by simpa using h24) (by simpa [or_assoc] using h38)

set_option maxRecDepth 20000 in
set_option maxHeartbeats 8000000 in
theorem rTouch_c (g : Grid) (a b : AreaR) (r : Nat) (w : World) (hg : gridOk g) (ha : RO 1 nC w a.px.p a.px.l) (hb : RO 1 nC w b.px.p b.px.l) (han : ∀ p, p ∈ a.px.l → p < gW g * gH g) (hbn : ∀ p, p ∈ b.px.l → p < gW g * gH g) (hal : a.px.l.length ≤ 4096) (hbl : b.px.l.length ≤ 4096) :
  Calls Try.prog 114 #[gridV g, .agg #[.slice a.px.p a.px.l.length a.px.c, .slice a.kp a.kr.length a.kc, .int .i64 a.s.xl, .int .i64 a.s.xh, .int .i64 a.s.yl, .int .i64 a.s.yh, .int .i64 a.s.sl, .int .i64 a.s.sh], .agg #[.slice b.px.p b.px.l.length b.px.c, .slice b.kp b.kr.length b.kc, .int .i64 b.s.xl, .int .i64 b.s.xh, .int .i64 b.s.yl, .int .i64 b.s.yh, .int .i64 b.s.sl, .int .i64 b.s.sh], .int .i64 (r : Int)] w fun e w' => e = .returned (.bool (touB (gW g) r a.px.l b.px.l)) ∧ St (bs w) [] w' := by
  have har := area_le hg
  obtain ⟨hW, hH, hW1, hW2, hH1, hH2⟩ := gWi hg
  refine enter (vs := [_,_,_,_]) (env := [(0,_), (1,_), (2,_), (3,_)]) Try.func114 rfl rfl rfl rfl ?_
  refine VC.seq ?_
  refine VC.reg (VO.h rfl<|HO.box (C := #[_,_,_,_,_]) rfl rfl fun b1 => VO.h rfl<|HO.box (C := #[_,_,_,_,_,_,_,_]) rfl rfl fun b2 => VO.h rfl<|HO.box (C := #[_,_,_,_,_,_,_,_]) rfl rfl fun b3 => VO.l (LO.as (.r rfl)) rfl<|VO.nil ?_)
  refine VE.seqN ?_
  refine VC.seq ?_
  refine VC.seq ?_
  refine VC.reg (VO.l (LO.as (.r rfl)) rfl<|VO.nil ?_)
  refine VE.seqN ?_
  refine VC.block ?_
  refine VC.loopK (α := Nat) 0 (fun gx => [(9, .int .i64 (gx : Nat))]) [(3,_), (4,_), (5,_), (6,_)] (fun gx => []) (fun gx => gx ≤ a.px.l.length ∧ ∀ j, j < gx → ∀ p, a.px.l[j]? = some p → ∀ q, q ∈ b.px.l → nrB (gW g) r p q = false) (fun gx => a.px.l.length - gx) 0 (by exact ⟨Nat.zero_le _, fun j h => absurd h (Nat.not_lt_zero _)⟩) (.cons rfl (.cons rfl (.cons rfl (.cons rfl (.cons rfl .nil))))) (fun _ h => h) ?_
  rintro i ⟨hi, hz⟩
  refine VC.seq ?_
  refine VC.seq ?_
  refine VC.reg (VO.l (LO.mv (.r rfl)) rfl<|VO.l (LO.fa (r := 0) F135_0 (.r rfl) rfl) rfl<|VO.l (LO.ld O40 (.r rfl) (fun _ hw => cells_at hw 1 rfl ⟨_, rfl⟩)) rfl<|VO.l (LO.len S40 (.r rfl) rfl) rfl<|VO.l (LO.lt (.r rfl) (.r rfl)) rfl<|VO.nil ?_)
  refine VE.seqN ?_
  refine VC.cond rfl (fun h19 => ?_) (fun h19 => ?_)
  ·
    obtain ⟨p, hpi⟩ := get_ex (l := a.px.l) (n := i) (by omega)
    have hpl := han p (List.mem_of_getElem? hpi)
    refine VC.skip (VE.seqN ?_)
    refine VC.seq ?_
    refine VC.block ?_
    refine VC.seq ?_
    refine VC.reg (VO.l (LO.as (.r rfl)) rfl<|VO.nil ?_)
    refine VE.seqN ?_
    refine VC.block ?_
    refine VC.loopK (α := Nat) 0 (fun gx => [(10, .int .i64 (gx : Nat))]) [(3,_), (4,_), (5,_), (6,_), (9,_)] (fun gx => []) (fun gx => gx ≤ b.px.l.length ∧ ∀ j, j < gx → ∀ q, b.px.l[j]? = some q → nrB (gW g) r p q = false) (fun gx => b.px.l.length - gx) 0 (by exact ⟨Nat.zero_le _, fun j h => absurd h (Nat.not_lt_zero _)⟩) (.cons rfl (.cons rfl (.cons rfl (.cons rfl (.cons rfl (.cons rfl .nil)))))) (fun _ h => h) ?_
    rintro k ⟨hk, hy⟩
    refine VC.seq ?_
    refine VC.seq ?_
    refine VC.reg (VO.l (LO.mv (.r rfl)) rfl<|VO.l (LO.fa (r := 0) F135_0 (.r rfl) rfl) rfl<|VO.l (LO.ld O40 (.r rfl) (fun _ hw => cells_at hw 0 rfl ⟨_, rfl⟩)) rfl<|VO.l (LO.len S40 (.r rfl) rfl) rfl<|VO.l (LO.lt (.r rfl) (.r rfl)) rfl<|VO.nil ?_)
    refine VE.seqN ?_
    refine VC.cond rfl (fun h26 => ?_) (fun h26 => ?_)
    ·
      obtain ⟨q, hqk⟩ := get_ex (l := b.px.l) (n := k) (by omega)
      have hql := hbn q (List.mem_of_getElem? hqk)
      refine VC.skip (VE.seqN ?_)
      refine VC.seq ?_
      refine VC.block ?_
      refine VC.seq ?_
      refine VC.draw mixed (LL.l (LO.fa (r := 0) F135_0 (.r rfl) rfl) rfl<|LL.l (LO.ld O40 (.r rfl) (fun _ hw => cells_at hw 1 rfl ⟨_, rfl⟩)) rfl<|LL.l (LO.mv (.r rfl)) rfl<|LL.l (LO.ixs S40 N3 ha.sm (.r rfl) (.r rfl) rfl (by omega)) rfl<|LL.l (LO.ld O3 (.r rfl) (fun w hw => cells_part (off := 0) ((fun w3 h3 => RO.cel (ha.keep w3 h3) hpi) w hw) ⟨_, rfl⟩)) rfl<|LL.l (LO.fa (r := 0) F135_0 (.r rfl) rfl) rfl<|LL.l (LO.ld O40 (.r rfl) (fun _ hw => cells_at hw 0 rfl ⟨_, rfl⟩)) rfl<|LL.l (LO.mv (.r rfl)) rfl<|LL.l (LO.ixs S40 N3 hb.sm (.r rfl) (.r rfl) rfl (by omega)) rfl<|LL.l (LO.ld O3 (.r rfl) (fun w hw => cells_part (off := 0) ((fun w3 h3 => RO.cel (hb.keep w3 h3) hqk) w hw) ⟨_, rfl⟩)) rfl<|LL.l (LO.as (.r rfl)) rfl<|LL.l (LO.as (.r rfl)) rfl<|LL.nil) (by kernel_rfl) ?_
      refine VE.seqN ?_
      refine VC.seq ?_
      have hpd := divb hg (p := p) (by omega)
      have hqd := divb hg (p := q) (by omega)
      have hpr : p % gW g < gW g := Nat.mod_lt _ (by omega)
      have hqr : q % gW g < gW g := Nat.mod_lt _ (by omega)
      refine VC.draw mixed (LL.l (LO.mv (.r rfl)) rfl<|LL.l (LO.fa (r := 3) F23_3 (.r rfl) rfl) rfl<|LL.l (LO.ld O3 (.r rfl) (fun _ hw => cells_at hw 2 rfl ⟨_, rfl⟩)) rfl<|LL.l (LO.eqv (LO.rem (.r rfl) (.r rfl) (by omega)) (congrArg (Value.int .i64) (mod_n hg p))) rfl<|LL.l (LO.mv (.r rfl)) rfl<|LL.l (LO.fa (r := 3) F23_3 (.r rfl) rfl) rfl<|LL.l (LO.ld O3 (.r rfl) (fun _ hw => cells_at hw 2 rfl ⟨_, rfl⟩)) rfl<|LL.l (LO.eqv (LO.rem (.r rfl) (.r rfl) (by omega)) (congrArg (Value.int .i64) (mod_n hg q))) rfl<|LL.l (LO.sub (.r rfl) (.r rfl) (wi (by omega) (by omega))) rfl<|LL.l (LO.mv (.r rfl)) rfl<|LL.l (LO.fa (r := 3) F23_3 (.r rfl) rfl) rfl<|LL.l (LO.ld O3 (.r rfl) (fun _ hw => cells_at hw 2 rfl ⟨_, rfl⟩)) rfl<|LL.l (LO.eqv (LO.quo (.r rfl) (.r rfl) (by omega) (wi (by rw [div_n hg]; have := divb hg (p := p) (by omega); omega) (by rw [div_n hg]; have := divb hg (p := p) (by omega); omega))) (congrArg (Value.int .i64) (div_n hg p))) rfl<|LL.l (LO.mv (.r rfl)) rfl<|LL.l (LO.fa (r := 3) F23_3 (.r rfl) rfl) rfl<|LL.l (LO.ld O3 (.r rfl) (fun _ hw => cells_at hw 2 rfl ⟨_, rfl⟩)) rfl<|LL.l (LO.eqv (LO.quo (.r rfl) (.r rfl) (by omega) (wi (by rw [div_n hg]; have := divb hg (p := q) (by omega); omega) (by rw [div_n hg]; have := divb hg (p := q) (by omega); omega))) (congrArg (Value.int .i64) (div_n hg q))) rfl<|LL.l (LO.sub (.r rfl) (.r rfl) (wi (by omega) (by omega))) rfl<|LL.l (LO.as (.r rfl)) rfl<|LL.l (LO.as (.r rfl)) rfl<|LL.nil) (by kernel_rfl) ?_
      refine VE.seqN ?_
      refine VC.seq ?_
      refine VC.reg (VO.l (LO.mv (.r rfl)) rfl<|VO.l (LO.mv (.r rfl)) rfl<|VO.l (LO.le (.r rfl) (.r rfl)) rfl<|VO.l (LO.mv (.r rfl)) rfl<|VO.lg rfl rfl (GD.t _) (fun hg => LO.mv (.r rfl)) rfl<|VO.lg rfl rfl (GD.t _) (fun hg => LO.neg (.g hg rfl) (wi (by omega) (by omega))) rfl<|VO.lg rfl rfl (GD.t _) (fun hg => LO.mv (.r rfl)) rfl<|VO.lg rfl rfl (GD.t _) (fun hg => LO.le (.g hg rfl) (.g hg rfl)) rfl<|VO.l (LO.pkA (.r rfl) rfl rfl (.r rfl)) rfl<|VO.l (LO.mv (.r rfl)) rfl<|VO.lg rfl rfl (GD.t _) (fun hg => LO.mv (.r rfl)) rfl<|VO.lg rfl rfl (GD.t _) (fun hg => LO.mv (.r rfl)) rfl<|VO.lg rfl rfl (GD.t _) (fun hg => LO.le (.g hg rfl) (.g hg rfl)) rfl<|VO.l (LO.pkA (.r rfl) rfl rfl (.r rfl)) rfl<|VO.l (LO.mv (.r rfl)) rfl<|VO.lg rfl rfl (GD.t _) (fun hg => LO.mv (.r rfl)) rfl<|VO.lg rfl rfl (GD.t _) (fun hg => LO.neg (.g hg rfl) (wi (by omega) (by omega))) rfl<|VO.lg rfl rfl (GD.t _) (fun hg => LO.mv (.r rfl)) rfl<|VO.lg rfl rfl (GD.t _) (fun hg => LO.le (.g hg rfl) (.g hg rfl)) rfl<|VO.l (LO.pkA (.r rfl) rfl rfl (.r rfl)) rfl<|VO.nil ?_)
      refine VE.seqN ?_
      refine VC.cond rfl (fun h76 => ?_) (fun h76 => ?_)
      ·
        refine VC.seq ?_
        refine VC.reg (VO.l (LO.as (.r rfl)) rfl<|VO.nil ?_)
        refine VE.seqN ?_
        refine VC.ret (VE.inR (VE.thenR (VE.thenR (VE.inR (VE.inR (VE.thenR (VE.thenR (VE.inR (VE.thenR (VE.res (vs := [_]) rfl ⟨rfl, trivial⟩ (fun w hw => ?_)))))))))))
        refine ⟨congrArg (fun z => Ending.returned (.bool z)) ?_, hw.nil⟩
        first | exact tou_t hpi hqk (decide_eq_true h76) | exact tou_f fun j hj p hp q hq => hz j (by omega) p hp q hq
      ·
        refine VC.skip (VE.inN (VE.seqN ?_))
        refine VC.reg (VO.l (LO.mv (.r rfl)) rfl<|VO.l (LO.add (.r rfl) (.r rfl) (wi (by omega) (by omega))) rfl<|VO.l (LO.as (.r rfl)) rfl<|VO.nil ?_)
        refine VE.thenN fun a w ha hw => ⟨k + 1, ⟨by omega, fun j hj q2 hq2 => tou_next1 hy hqk (decide_eq_false h76) j hj q2 hq2⟩, (by omega), ha.sub (.cons rfl (.cons rfl (.cons rfl (.cons rfl (.cons rfl (.cons rfl .nil)))))), hw⟩
    ·
      have hke : k = b.px.l.length := by omega
      subst hke
      refine VC.exit (VE.thenX (VE.thenX (VE.inX (VE.inN (VE.seqN ?_)))))
      refine VC.reg (VO.l (LO.mv (.r rfl)) rfl<|VO.l (LO.add (.r rfl) (.r rfl) (wi (by omega) (by omega))) rfl<|VO.l (LO.as (.r rfl)) rfl<|VO.nil ?_)
      refine VE.thenN fun a w ha hw => ⟨i + 1, ⟨by omega, fun j hj p2 hp2 q hq => tou_next hz hpi hy j hj p2 hp2 q hq⟩, (by omega), ha.sub (.cons rfl (.cons rfl (.cons rfl (.cons rfl (.cons rfl .nil))))), hw⟩
  ·
    refine VC.exit (VE.thenX (VE.thenX (VE.inX (VE.seqN ?_))))
    refine VC.seq ?_
    refine VC.reg (VO.l (LO.as (.r rfl)) rfl<|VO.nil ?_)
    refine VE.seqN ?_
    refine VC.ret (VE.res (vs := [_]) rfl ⟨rfl, trivial⟩ (fun w hw => ?_))
    refine ⟨congrArg (fun z => Ending.returned (.bool z)) ?_, hw.nil⟩
    first | exact tou_t hpi hqk (decide_eq_true h76) | exact tou_f fun j hj p hp q hq => hz j (by omega) p hp q hq

set_option maxRecDepth 20000 in
theorem rKind_c (a b : Nat) (w : World) :
  Calls Try.prog 131 #[.int .i64 (a : Int), .int .i64 (b : Int)] w fun e w' => e = .returned (.int .i64 (kindM a b)) ∧ St (bs w) [] w' := by
  refine enter (vs := [_,_]) (env := [(0,_), (1,_)]) Try.func131 rfl rfl rfl rfl ?_
  refine VC.seq ?_
  refine VC.reg (VO.l (LO.as (.r rfl)) rfl<|VO.nil ?_)
  refine VE.seqN ?_
  refine VC.seq ?_
  refine VC.block ?_
  refine VC.seq ?_
  refine VC.reg (VO.l (LO.mv (.r rfl)) rfl<|VO.l (LO.eq (.r rfl) (.r rfl)) rfl<|VO.l (LO.as (.r rfl)) rfl<|VO.nil ?_)
  refine VE.seqN ?_
  refine VC.cond rfl (fun h5 => ?_) (fun h5 => ?_)
  ·
    refine VC.seq ?_
    refine VC.reg (VO.l (LO.as (.r rfl)) rfl<|VO.nil ?_)
    refine VE.seqN ?_
    refine VC.ret (VE.inR (VE.thenR (VE.res (vs := [_]) rfl ⟨rfl, trivial⟩ (fun w hw => ?_))))
    refine ⟨congrArg (fun z => Ending.returned (.int .i64 z)) ?_, hw.nil⟩
    unfold kindM
    first | rw [if_pos (by omega)] | rw [if_neg (by omega), if_pos (by omega)] | rw [if_neg (by omega), if_neg (by omega), if_pos (by omega), if_pos (by omega)] | rw [if_neg (by omega), if_neg (by omega), if_pos (by omega), if_neg (by omega)] | rw [if_neg (by omega), if_neg (by omega), if_neg (by omega), if_pos (by omega)] | rw [if_neg (by omega), if_neg (by omega), if_neg (by omega), if_neg (by omega)]
  ·
    refine VC.seq ?_
    refine VC.reg (VO.l (LO.mv (.r rfl)) rfl<|VO.l (LO.eq (.r rfl) (.r rfl)) rfl<|VO.l (LO.as (.r rfl)) rfl<|VO.nil ?_)
    refine VE.seqN ?_
    refine VC.cond rfl (fun h8 => ?_) (fun h8 => ?_)
    ·
      refine VC.seq ?_
      refine VC.reg (VO.l (LO.as (.r rfl)) rfl<|VO.nil ?_)
      refine VE.seqN ?_
      refine VC.ret (VE.inR (VE.thenR (VE.res (vs := [_]) rfl ⟨rfl, trivial⟩ (fun w hw => ?_))))
      refine ⟨congrArg (fun z => Ending.returned (.int .i64 z)) ?_, hw.nil⟩
      unfold kindM
      first | rw [if_pos (by omega)] | rw [if_neg (by omega), if_pos (by omega)] | rw [if_neg (by omega), if_neg (by omega), if_pos (by omega), if_pos (by omega)] | rw [if_neg (by omega), if_neg (by omega), if_pos (by omega), if_neg (by omega)] | rw [if_neg (by omega), if_neg (by omega), if_neg (by omega), if_pos (by omega)] | rw [if_neg (by omega), if_neg (by omega), if_neg (by omega), if_neg (by omega)]
    ·
      refine VC.seq ?_
      refine VC.reg (VO.l (LO.mv (.r rfl)) rfl<|VO.l (LO.eq (.r rfl) (.r rfl)) rfl<|VO.l (LO.mv (.r rfl)) rfl<|VO.lg rfl rfl (GD.t _) (fun hg => LO.mv (.r rfl)) rfl<|VO.lg rfl rfl (GD.t _) (fun hg => LO.eq (.g hg rfl) (.r rfl)) rfl<|VO.l (LO.pkA (.r rfl) rfl rfl (.r rfl)) rfl<|VO.l (LO.as (.r rfl)) rfl<|VO.nil ?_)
      refine VE.seqN ?_
      refine VC.cond rfl (fun h11 => ?_) (fun h11 => ?_)
      ·
        refine VC.seq ?_
        refine VC.reg (VO.l (LO.as (.r rfl)) rfl<|VO.nil ?_)
        refine VE.seqN ?_
        refine VC.ret (VE.inR (VE.thenR (VE.res (vs := [_]) rfl ⟨rfl, trivial⟩ (fun w hw => ?_))))
        refine ⟨congrArg (fun z => Ending.returned (.int .i64 z)) ?_, hw.nil⟩
        unfold kindM
        first | rw [if_pos (by omega)] | rw [if_neg (by omega), if_pos (by omega)] | rw [if_neg (by omega), if_neg (by omega), if_pos (by omega), if_pos (by omega)] | rw [if_neg (by omega), if_neg (by omega), if_pos (by omega), if_neg (by omega)] | rw [if_neg (by omega), if_neg (by omega), if_neg (by omega), if_pos (by omega)] | rw [if_neg (by omega), if_neg (by omega), if_neg (by omega), if_neg (by omega)]
      ·
        refine VC.seq ?_
        refine VC.reg (VO.l (LO.mv (.r rfl)) rfl<|VO.l (LO.eq (.r rfl) (.r rfl)) rfl<|VO.l (LO.as (.r rfl)) rfl<|VO.nil ?_)
        refine VE.seqN ?_
        refine VC.cond rfl (fun h18 => ?_) (fun h18 => ?_)
        ·
          refine VC.seq ?_
          refine VC.reg (VO.l (LO.as (.r rfl)) rfl<|VO.nil ?_)
          refine VE.seqN ?_
          refine VC.ret (VE.inR (VE.thenR (VE.res (vs := [_]) rfl ⟨rfl, trivial⟩ (fun w hw => ?_))))
          refine ⟨congrArg (fun z => Ending.returned (.int .i64 z)) ?_, hw.nil⟩
          unfold kindM
          first | rw [if_pos (by omega)] | rw [if_neg (by omega), if_pos (by omega)] | rw [if_neg (by omega), if_neg (by omega), if_pos (by omega), if_pos (by omega)] | rw [if_neg (by omega), if_neg (by omega), if_pos (by omega), if_neg (by omega)] | rw [if_neg (by omega), if_neg (by omega), if_neg (by omega), if_pos (by omega)] | rw [if_neg (by omega), if_neg (by omega), if_neg (by omega), if_neg (by omega)]
        ·
          refine VC.seq ?_
          refine VC.reg (VO.l (LO.mv (.r rfl)) rfl<|VO.l (LO.eq (.r rfl) (.r rfl)) rfl<|VO.l (LO.as (.r rfl)) rfl<|VO.nil ?_)
          refine VE.seqN ?_
          refine VC.cond rfl (fun h21 => ?_) (fun h21 => ?_)
          ·
            refine VC.seq ?_
            refine VC.reg (VO.l (LO.as (.r rfl)) rfl<|VO.nil ?_)
            refine VE.seqN ?_
            refine VC.ret (VE.inR (VE.thenR (VE.res (vs := [_]) rfl ⟨rfl, trivial⟩ (fun w hw => ?_))))
            refine ⟨congrArg (fun z => Ending.returned (.int .i64 z)) ?_, hw.nil⟩
            unfold kindM
            first | rw [if_pos (by omega)] | rw [if_neg (by omega), if_pos (by omega)] | rw [if_neg (by omega), if_neg (by omega), if_pos (by omega), if_pos (by omega)] | rw [if_neg (by omega), if_neg (by omega), if_pos (by omega), if_neg (by omega)] | rw [if_neg (by omega), if_neg (by omega), if_neg (by omega), if_pos (by omega)] | rw [if_neg (by omega), if_neg (by omega), if_neg (by omega), if_neg (by omega)]
          ·
            refine VC.skip (VE.inN (VE.seqN ?_))
            refine VC.seq ?_
            refine VC.reg (VO.l (LO.as (.r rfl)) rfl<|VO.nil ?_)
            refine VE.seqN ?_
            refine VC.ret (VE.res (vs := [_]) rfl ⟨rfl, trivial⟩ (fun w hw => ?_))
            refine ⟨congrArg (fun z => Ending.returned (.int .i64 z)) ?_, hw.nil⟩
            unfold kindM
            first | rw [if_pos (by omega)] | rw [if_neg (by omega), if_pos (by omega)] | rw [if_neg (by omega), if_neg (by omega), if_pos (by omega), if_pos (by omega)] | rw [if_neg (by omega), if_neg (by omega), if_pos (by omega), if_neg (by omega)] | rw [if_neg (by omega), if_neg (by omega), if_neg (by omega), if_pos (by omega)] | rw [if_neg (by omega), if_neg (by omega), if_neg (by omega), if_neg (by omega)]

end Go.Proofs.Ytgemekpofpoopaa

namespace Go.Proofs.Ytgemekpofpoopaa
open Go.SL Go.Proofs Go.Cast Go.Cell
set_option linter.unusedVariables false

theorem Z157 : ZeroOf Try.prog 157 (.agg #[.int .i64 0, .slice none 0 0, .slice none 0 0]) := by unfold ZeroOf; kernel_rfl
theorem S196 : IsSlice Try.prog 196 142 := Try.underlying196
theorem N142 : (Try.prog.info? 142).map (·.size) = some 1 := by kernel_rfl
theorem O142 : IsOne Try.prog 142 := ⟨⟨_, Try.underlying142, rfl⟩, by kernel_rfl⟩
theorem F157_1 : FieldAt Try.prog 157 1 1 := ⟨_,_, Try.underlying157, rfl, rfl, 0, by kernel_rfl⟩
theorem F157_2 : FieldAt Try.prog 157 2 2 := ⟨_,_, Try.underlying157, rfl, rfl, 0, by kernel_rfl⟩
theorem C131 : IsFn Try.prog 131 := ⟨_, Try.func131, by decide, rfl⟩
theorem F157_0 : FieldAt Try.prog 157 0 0 := ⟨_,_, Try.underlying157, rfl, rfl, 0, by kernel_rfl⟩
theorem A157 : IsAgg Try.prog 157 3 := ⟨⟨_, Try.underlying157, rfl⟩, by kernel_rfl⟩
theorem N157 : (Try.prog.info? 157).map (·.size) = some 3 := by kernel_rfl


def bRow (m : Nat) (T : Nat → Nat → Bool) (i : Nat) : List Bool := (List.range m).map (T i)
/-- What touches what, row by row, as it is read. -/
structure ToI (w : World) (n m : Nat) (T : Nat → Nat → Bool) (p : Option Addr) (rs : List (RowA Bool)) : Prop where
  rr : RR 1 bC w p rs
  m : rs.map RowA.l = (List.range n).map (bRow m T)
theorem ToI.keep {w0 : World} {n m : Nat} {T : Nat → Nat → Bool} {p : Option Addr} {rs : List (RowA Bool)} (h : ToI w0 n m T p rs) {L : List Res} : ∀ w, St (bs w0) L w → ToI w n m T p rs := fun w hw => ⟨RR.keep h.rr w hw, h.m⟩
theorem ToI.len {w : World} {n m : Nat} {T : Nat → Nat → Bool} {p : Option Addr} {rs : List (RowA Bool)} (h : ToI w n m T p rs) : rs.length = n := by have := congrArg List.length h.m; simpa using this
theorem ToI.at {w : World} {n m : Nat} {T : Nat → Nat → Bool} {p : Option Addr} {rs : List (RowA Bool)} (h : ToI w n m T p rs) {i : Nat} (hi : i < n) : ∃ r, rs[i]? = some r ∧ r.l = bRow m T i := by
  obtain ⟨r, hr⟩ := get_ex (l := rs) (n := i) (by rw [h.len]; exact hi)
  refine ⟨r, hr, ?_⟩
  have := congrArg (fun l => l[i]?) h.m
  simp only [List.getElem?_map, hr, List.getElem?_range hi, Option.map_some, Option.some.injEq] at this
  exact this
theorem bRow_get {m i j : Nat} {T : Nat → Nat → Bool} (h : j < m) : (bRow m T i)[j]? = some (T i j) := by unfold bRow; rw [List.getElem?_map, List.getElem?_range h]; rfl
theorem bRow_len {m i : Nat} {T : Nat → Nat → Bool} : (bRow m T i).length = m := by unfold bRow; simp
theorem mu_ev {κ : Nat → Bool × Int} {n m i j first : Nat} {T : Nat → Nat → Bool} {on on2 : List Bool} {gr gr2 : Bool} (h : ER κ n m T first on i j on2 gr2) (hg : gr = true) : 2 * cntF on2 + gr2.toNat < 2 * cntF on + gr.toNat := by
  have h1 := h.le; have h2 := h.lt
  subst hg
  cases gr2 with
  | false => show 2 * cntF on2 + 0 < 2 * cntF on + 1; omega
  | true => have := h2 rfl; show 2 * cntF on2 + 1 < 2 * cntF on + 1; omega
structure EdY where
  f : List Nat
  t : List Nat
  fp : Option Addr
  fc : Nat
  tp : Option Addr
  tc : Nat
theorem ev_t1 {on : List Bool} {n k : Nat} (h : on.getD k false = true) (hk : k < n) : (evSet on n (k + 1)).f = (evSet on n k).f ++ [k] ∧ (evSet on n (k + 1)).t = (evSet on n k).t := by rw [evSet_t h, if_pos hk]; exact ⟨rfl, rfl⟩
theorem ev_t2 {on : List Bool} {n k : Nat} (h : on.getD k false = true) (hk : ¬ k < n) : (evSet on n (k + 1)).f = (evSet on n k).f ∧ (evSet on n (k + 1)).t = (evSet on n k).t ++ [k - n] := by rw [evSet_t h, if_neg hk]; exact ⟨rfl, rfl⟩

theorem ev_no {b : Bool} {k n : Nat} (h1 : ¬ (b = true ∧ (k : Int) < n)) (h2 : ¬ (b = true ∧ (n : Int) ≤ k)) : b = false := by
  cases b with
  | false => rfl
  | true =>
    by_cases hk : (k : Int) < n
    · exact absurd ⟨rfl, hk⟩ h1
    · exact absurd ⟨rfl, by omega⟩ h2

set_option maxRecDepth 20000 in
set_option maxHeartbeats 16000000 in
theorem rEvent_c (n m first : Nat) (T : Nat → Nat → Bool) (J : Bool × Int → Bool × Int → Prop) (ld : Bool × Int → Bool × Int) (p : Option Addr) (c : Nat) (rs : List (RowA Bool)) (w : World) (hT : ToI w n m T p rs) (hJ : TJ n m T J ld) (hf : first < n + m) (hnm : n + m ≤ 100000) :
  Calls Try.prog 115 #[.slice p rs.length c, .int .i64 (n : Int), .int .i64 (m : Int), .int .i64 (first : Int)] w fun e w' => ∃ y : EdY, (y.f = (evF (kap ld n) n (n + m) first).f ∧ y.t = (evF (kap ld n) n (n + m) first).t) ∧ e = .returned (.agg #[.int .i64 (kindM y.f.length y.t.length), .slice y.fp y.f.length y.fc, .slice y.tp y.t.length y.tc]) ∧ St (bs w) [own 3 1 y.fp y.fc (y.f.map nC), own 3 1 y.tp y.tc (y.t.map nC)] w' := by
  have htl := hT.len
  refine enter (vs := [_,_,_,_]) (env := [(0,_), (1,_), (2,_), (3,_)]) Try.func115 rfl rfl rfl rfl ?_
  refine VC.seq ?_
  refine VC.reg (VO.h rfl<|HO.alloc (C := #[_,_,_]) Z157 rfl fun b1 => VO.nil ?_)
  refine VE.seqN ?_
  refine VC.seq ?_
  refine VC.reg (VO.l (LO.mv (.r rfl)) rfl<|VO.l (LO.mv (.r rfl)) rfl<|VO.l (LO.eqv (LO.add (.r rfl) (.r rfl) (wi (by omega) (by omega))) (congrArg (Value.int .i64) (Int.natCast_add _ _).symm)) rfl<|VO.h rfl<|HO.mksM (f := bC) (z0 := false) (n := (n + m)) rfl S142 I4 (.r rfl) (.r rfl) rfl (by decide) (by omega) (by omega) fun b2 => VO.h rfl<|HO.lo (LO.as (.r rfl))<|VO.nil ?_)
  refine VE.seqN ?_
  refine VC.seq ?_
  refine VC.reg (VO.l (LO.mv (.r rfl)) rfl<|VO.l (LO.mv (.r rfl)) rfl<|VO.l (LO.ixo S142 N4 (fun _ hw => (own_rows hw 0 rfl).some (by rw [List.length_map]; first | omega | (simp; done) | (simp; omega))) (.r rfl) (.r rfl) rfl (by omega)) rfl<|VO.h0<|HO.stm 0 (fun R => [R,_]) (true) (vs := [_]) N4 (.r rfl) (.r rfl) rfl (by simp; omega) rfl rfl rfl rfl rfl (fun _ => rfl)<|VO.nil ?_)
  refine VE.seqN ?_
  refine VC.seq ?_
  refine VC.seq ?_
  refine VC.reg (VO.l (LO.as (.r rfl)) rfl<|VO.nil ?_)
  refine VE.seqN ?_
  refine VC.block ?_
  refine VC.loopK (α := (List Bool) × Bool) 1 (fun gx => [(10, .bool gx.2)]) [(0,_), (1,_), (2,_), (8,_), (9,_)] (fun gx => [own 4 1 (some ⟨b2,0, none⟩) (n + m) (gx.1.map bC)]) (fun gx => DE (kap ld n) n m first gx.1 ∧ (gx.2 = false → gx.1 = setB (n + m) fun t => decide (kap ld n t = kap ld n first))) (fun gx => 2 * cntF gx.1 + gx.2.toNat) (((List.replicate (n + m) false).set first true), true) (by exact ⟨DE.zero hf, fun z => by cases z⟩) (.cons rfl (.cons rfl (.cons rfl (.cons rfl (.cons rfl (.cons rfl .nil)))))) (fun _ h => h) ?_
  rintro ⟨on, gr⟩ ⟨hDE, hfin⟩
  show VC _ _ _ _ _ ([(10, .bool gr)] ++ _) ([own 4 1 (some ⟨b2,0, none⟩) (n + m) (on.map bC)] ++ _) _ _
  dsimp only at hDE hfin
  have holn := hDE.len
  refine VC.seq ?_
  refine VC.seq ?_
  refine VC.reg (VO.l (LO.mv (.r rfl)) rfl<|VO.nil ?_)
  refine VE.seqN ?_
  refine VC.cond rfl (fun h22 => ?_) (fun h22 => ?_)
  ·
    refine VC.skip (VE.seqN ?_)
    refine VC.block ?_
    refine VC.seq ?_
    refine VC.reg (VO.l (LO.as (.r rfl)) rfl<|VO.nil ?_)
    refine VE.seqN ?_
    refine VC.seq ?_
    refine VC.reg (VO.l (LO.as (.r rfl)) rfl<|VO.nil ?_)
    refine VE.seqN ?_
    refine VC.block ?_
    refine VC.loopK (α := Nat × (List Bool) × Bool) 1 (fun gx => [(10, .bool gx.2.2), (11, .int .i64 (gx.1 : Nat))]) [(0,_), (1,_), (2,_), (8,_), (9,_)] (fun gx => [own 4 1 (some ⟨b2,0, none⟩) (n + m) (gx.2.1.map bC)]) (fun gx => gx.1 ≤ n ∧ ER (kap ld n) n m T first on gx.1 0 gx.2.1 gx.2.2) (fun gx => n - gx.1) (0, on, false) (by exact ⟨Nat.zero_le _, ER.zero hDE⟩) (.cons rfl (.cons rfl (.cons rfl (.cons rfl (.cons rfl (.cons rfl (.cons rfl .nil))))))) (fun _ h => h) ?_
    rintro ⟨i, on2, gr2⟩ ⟨hi, hER⟩
    show VC _ _ _ _ _ ([(10, .bool gr2), (11, .int .i64 (i : Nat))] ++ _) ([own 4 1 (some ⟨b2,0, none⟩) (n + m) (on2.map bC)] ++ _) _ _
    dsimp only at hi hER
    have hol2 := hER.de.len
    refine VC.seq ?_
    refine VC.seq ?_
    refine VC.reg (VO.l (LO.mv (.r rfl)) rfl<|VO.l (LO.mv (.r rfl)) rfl<|VO.l (LO.lt (.r rfl) (.r rfl)) rfl<|VO.nil ?_)
    refine VE.seqN ?_
    refine VC.cond rfl (fun h25 => ?_) (fun h25 => ?_)
    ·
      refine VC.skip (VE.seqN ?_)
      refine VC.seq ?_
      refine VC.block ?_
      refine VC.seq ?_
      refine VC.reg (VO.l (LO.as (.r rfl)) rfl<|VO.nil ?_)
      refine VE.seqN ?_
      refine VC.block ?_
      refine VC.loopK (α := Nat × (List Bool) × Bool) 1 (fun gx => [(10, .bool gx.2.2), (12, .int .i64 (gx.1 : Nat))]) [(0,_), (1,_), (2,_), (8,_), (9,_), (11,_)] (fun gx => [own 4 1 (some ⟨b2,0, none⟩) (n + m) (gx.2.1.map bC)]) (fun gx => gx.1 ≤ m ∧ ER (kap ld n) n m T first on i gx.1 gx.2.1 gx.2.2) (fun gx => m - gx.1) (0, on2, gr2) (by exact ⟨Nat.zero_le _, hER⟩) (.cons rfl (.cons rfl (.cons rfl (.cons rfl (.cons rfl (.cons rfl (.cons rfl (.cons rfl .nil)))))))) (fun _ h => h) ?_
      rintro ⟨j, on3, gr3⟩ ⟨hj, hE3⟩
      show VC _ _ _ _ _ ([(10, .bool gr3), (12, .int .i64 (j : Nat))] ++ _) ([own 4 1 (some ⟨b2,0, none⟩) (n + m) (on3.map bC)] ++ _) _ _
      dsimp only at hj hE3
      have hol3 := hE3.de.len
      refine VC.seq ?_
      refine VC.seq ?_
      refine VC.reg (VO.l (LO.mv (.r rfl)) rfl<|VO.l (LO.mv (.r rfl)) rfl<|VO.l (LO.lt (.r rfl) (.r rfl)) rfl<|VO.nil ?_)
      refine VE.seqN ?_
      refine VC.cond rfl (fun h30 => ?_) (fun h30 => ?_)
      ·
        obtain ⟨r, hri, hrl⟩ := hT.at (i := i) (by omega)
        have hrj : r.l[j]? = some (T i j) := by rw [hrl]; exact bRow_get (by omega)
        refine VC.skip (VE.seqN ?_)
        refine VC.seq ?_
        refine VC.block ?_
        refine VC.seq ?_
        refine VC.draw mixed (LL.l (LO.mv (.r rfl)) rfl<|LL.l (LO.mv (.r rfl)) rfl<|LL.l (LO.ixs S196 N142 hT.rr.1.sm (.r rfl) (.r rfl) rfl (by omega)) rfl<|LL.l (LO.ld O142 (.r rfl) (fun w hw => cells_part (off := 0) ((fun w3 h3 => RR.cell (RR.keep hT.rr w3 h3) hri) w hw) ⟨_, rfl⟩)) rfl<|LL.l (LO.mv (.r rfl)) rfl<|LL.l (LO.ixs S142 N4 (RR.row hT.rr hri).sm (.r rfl) (.r rfl) rfl (by rw [hrl, bRow_len]; omega)) rfl<|LL.l (LO.ld O4 (.r rfl) (fun w hw => cells_part (off := 0) ((fun w3 h3 => RO.cel (RR.row (RR.keep hT.rr w3 h3) hri) hrj) w hw) ⟨_, rfl⟩)) rfl<|LL.l (LO.mv (.r rfl)) rfl<|LL.lg rfl rfl (GD.t _) (fun hg => LO.mv (.r rfl)) rfl<|LL.lg rfl rfl (GD.t _) (fun hg => LO.mv (.r rfl)) rfl<|LL.lg rfl rfl (GD.t _) (fun hg => LO.ixo S142 N4 (fun _ hw => (own_rows hw 0 rfl).some (by rw [List.length_map]; first | omega | (simp; done) | (simp; omega))) (.g hg rfl) (.g hg rfl) rfl (by omega)) rfl<|LL.lg rfl rfl (GD.t _) (fun hg => LO.ld O4 (.g hg rfl) (fun w hw => cells_part (off := 0) (own_cell hw 0 rfl (getB (n := i) (by first | omega | (simp; omega)))) ⟨_, rfl⟩)) rfl<|LL.lg rfl rfl (GD.t _) (fun hg => LO.mv (.r rfl)) rfl<|LL.lg rfl rfl (GD.t _) (fun hg => LO.mv (.r rfl)) rfl<|LL.lg rfl rfl (GD.t _) (fun hg => LO.mv (.r rfl)) rfl<|LL.lg rfl rfl (GD.t _) (fun hg => LO.eqv (LO.add (.g hg rfl) (.g hg rfl) (wi (by omega) (by omega))) (congrArg (Value.int .i64) (Int.natCast_add _ _).symm)) rfl<|LL.lg rfl rfl (GD.t _) (fun hg => LO.ixo S142 N4 (fun _ hw => (own_rows hw 0 rfl).some (by rw [List.length_map]; first | omega | (simp; done) | (simp; omega))) (.g hg rfl) (.g hg rfl) rfl (by omega)) rfl<|LL.lg rfl rfl (GD.t _) (fun hg => LO.ld O4 (.g hg rfl) (fun w hw => cells_part (off := 0) (own_cell hw 0 rfl (getB (n := (n + j)) (by first | omega | (simp; omega)))) ⟨_, rfl⟩)) rfl<|LL.lg rfl rfl (GD.t _) (fun hg => LO.neB Try.underlying4 (.g hg rfl) (.g hg rfl)) rfl<|LL.l (LO.pkA (.r rfl) rfl rfl (.r rfl)) rfl<|LL.nil) (by kernel_rfl) ?_
        refine VE.seqN ?_
        refine VC.cond rfl (fun h52 => ?_) (fun h52 => ?_)
        ·
          refine VC.seq ?_
          refine VC.reg (VO.l (LO.mv (.r rfl)) rfl<|VO.l (LO.mv (.r rfl)) rfl<|VO.l (LO.ixo S142 N4 (fun _ hw => (own_rows hw 0 rfl).some (by rw [List.length_map]; first | omega | (simp; done) | (simp; omega))) (.r rfl) (.r rfl) rfl (by omega)) rfl<|VO.h0<|HO.stm 0 (fun R => [R,_]) (true) (vs := [_]) N4 (.r rfl) (.r rfl) rfl (by omega) rfl rfl rfl rfl rfl (fun _ => rfl)<|VO.nil ?_)
          refine VE.seqN ?_
          refine VC.seq ?_
          refine VC.reg (VO.l (LO.mv (.r rfl)) rfl<|VO.l (LO.mv (.r rfl)) rfl<|VO.l (LO.mv (.r rfl)) rfl<|VO.l (LO.eqv (LO.add (.r rfl) (.r rfl) (wi (by omega) (by omega))) (congrArg (Value.int .i64) (Int.natCast_add _ _).symm)) rfl<|VO.l (LO.ixo S142 N4 (fun _ hw => (own_rows hw 0 rfl).some (by rw [List.length_map]; first | omega | (simp; done) | (simp; omega))) (.r rfl) (.r rfl) rfl (by omega)) rfl<|VO.h0<|HO.stm 0 (fun R => [R,_]) (true) (vs := [_]) N4 (.r rfl) (.r rfl) rfl (by rw [List.length_set]; omega) rfl rfl rfl rfl rfl (fun _ => rfl)<|VO.nil ?_)
          refine VE.seqN ?_
          refine VC.reg (VO.l (LO.as (.r rfl)) rfl<|VO.nil ?_)
          refine VE.inN (VE.seqN ?_)
          refine VC.reg (VO.l (LO.mv (.r rfl)) rfl<|VO.l (LO.add (.r rfl) (.r rfl) (wi (by omega) (by omega))) rfl<|VO.l (LO.as (.r rfl)) rfl<|VO.nil ?_)
          refine VE.thenN fun a w ha hw => ⟨(j + 1, ((on3.set i true).set (n + j) true), true), ⟨by dsimp only; omega, hE3.yes (by omega) (by omega) (hJ.touch (by omega) (by omega) h52.1) h52.2⟩, (by dsimp only; omega), ha.sub (.cons rfl (.cons rfl (.cons rfl (.cons rfl (.cons rfl (.cons rfl (.cons rfl (.cons rfl .nil)))))))), hw⟩
        ·
          refine VC.skip (VE.inN (VE.seqN ?_))
          refine VC.reg (VO.l (LO.mv (.r rfl)) rfl<|VO.l (LO.add (.r rfl) (.r rfl) (wi (by omega) (by omega))) rfl<|VO.l (LO.as (.r rfl)) rfl<|VO.nil ?_)
          refine VE.thenN fun a w ha hw => ⟨(j + 1, on3, gr3), ⟨by dsimp only; omega, hE3.no h52⟩, (by dsimp only; omega), ha.sub (.cons rfl (.cons rfl (.cons rfl (.cons rfl (.cons rfl (.cons rfl (.cons rfl (.cons rfl .nil)))))))), hw⟩
      ·
        have hje : j = m := by omega
        subst hje
        refine VC.exit (VE.thenX (VE.thenX (VE.inX (VE.inN (VE.seqN ?_)))))
        refine VC.reg (VO.l (LO.mv (.r rfl)) rfl<|VO.l (LO.add (.r rfl) (.r rfl) (wi (by omega) (by omega))) rfl<|VO.l (LO.as (.r rfl)) rfl<|VO.nil ?_)
        refine VE.thenN fun a w ha hw => ⟨(i + 1, on3, gr3), ⟨by dsimp only; omega, hE3.next⟩, (by dsimp only; omega), ha.sub (.cons rfl (.cons rfl (.cons rfl (.cons rfl (.cons rfl (.cons rfl (.cons rfl .nil))))))), hw⟩
    ·
      have hie : i = n := by omega
      subst hie
      refine VC.exit (VE.thenX (VE.thenX (VE.inX (VE.inN ?_))))
      refine VE.thenN fun a w ha hw => ⟨(on2, gr2), ⟨hER.de, fun z => by dsimp only at z; subst z; exact hER.fin hJ hf⟩, (mu_ev hER h22), ha.sub (.cons rfl (.cons rfl (.cons rfl (.cons rfl (.cons rfl (.cons rfl .nil)))))), hw⟩
  ·
    have hgf : gr = false := Bool.eq_false_iff.2 h22
    have hoe := hfin hgf
    refine VC.exit (VE.thenX (VE.thenX (VE.inX (VE.seqN ?_))))
    refine VC.seq ?_
    refine VC.reg (VO.h rfl<|HO.alloc (C := #[_,_,_]) Z157 rfl fun b3 => VO.nil ?_)
    refine VE.seqN ?_
    refine VC.seq ?_
    refine VC.seq ?_
    refine VC.reg (VO.l (LO.as (.r rfl)) rfl<|VO.nil ?_)
    refine VE.seqN ?_
    refine VC.block ?_
    refine VC.loopK (α := Nat × (List Nat) × (Option Addr) × Nat × (List Nat) × (Option Addr) × Nat) 1 (fun gx => [(14, .int .i64 (gx.1 : Nat))]) [(1,_), (2,_), (8,_), (9,_), (13,_)] (fun gx => [blk b3 (.cells #[.int .i64 0, .slice gx.2.2.1 gx.2.1.length gx.2.2.2.1, .slice gx.2.2.2.2.2.1 gx.2.2.2.2.1.length gx.2.2.2.2.2.2] 157), own 3 1 gx.2.2.1 gx.2.2.2.1 (gx.2.1.map nC), own 3 1 gx.2.2.2.2.2.1 gx.2.2.2.2.2.2 (gx.2.2.2.2.1.map nC)]) (fun gx => gx.1 ≤ n + m ∧ gx.2.1 = (evSet on n gx.1).f ∧ gx.2.2.2.2.1 = (evSet on n gx.1).t) (fun gx => n + m - gx.1) (0, [], none, 0, [], none, 0) (by exact ⟨Nat.zero_le _, by rw [evSet_zero], by rw [evSet_zero]⟩) (.cons rfl (.cons rfl (.cons rfl (.cons rfl (.cons rfl (.cons rfl .nil)))))) (fun _ h => (((h.ownNil 3 1).ownNil 3 1)).sel [2,0,1,3,4] rfl) ?_
    rintro ⟨k, f, pf, cf, t, pt, ct⟩ ⟨hk, hff, htt⟩
    show VC _ _ _ _ _ ([(14, .int .i64 (k : Nat))] ++ _) ([blk b3 (.cells #[.int .i64 0, .slice pf f.length cf, .slice pt t.length ct] 157), own 3 1 pf cf (f.map nC), own 3 1 pt ct (t.map nC)] ++ _) _ _
    dsimp only at hk hff htt
    have hel := @evSet_len n k on
    rw [← hff, ← htt] at hel
    refine VC.seq ?_
    refine VC.seq ?_
    refine VC.reg (VO.l (LO.mv (.r rfl)) rfl<|VO.l (LO.mv (.r rfl)) rfl<|VO.l (LO.mv (.r rfl)) rfl<|VO.l (LO.add (.r rfl) (.r rfl) (wi (by omega) (by omega))) rfl<|VO.l (LO.lt (.r rfl) (.r rfl)) rfl<|VO.nil ?_)
    refine VE.seqN ?_
    refine VC.cond rfl (fun h65 => ?_) (fun h65 => ?_)
    ·
      refine VC.skip (VE.seqN ?_)
      refine VC.seq ?_
      refine VC.block ?_
      refine VC.seq ?_
      refine VC.seq ?_
      refine VC.reg (VO.l (LO.mv (.r rfl)) rfl<|VO.l (LO.mv (.r rfl)) rfl<|VO.l (LO.ixo S142 N4 (fun _ hw => (own_rows hw 3 rfl).some (by rw [List.length_map]; first | omega | (simp; done) | (simp; omega))) (.r rfl) (.r rfl) rfl (by omega)) rfl<|VO.l (LO.ld O4 (.r rfl) (fun w hw => cells_part (off := 0) (own_cell hw 3 rfl (getB (n := k) (by first | omega | (simp; omega)))) ⟨_, rfl⟩)) rfl<|VO.l (LO.mv (.r rfl)) rfl<|VO.lg rfl rfl (GD.t _) (fun hg => LO.mv (.r rfl)) rfl<|VO.lg rfl rfl (GD.t _) (fun hg => LO.mv (.r rfl)) rfl<|VO.lg rfl rfl (GD.t _) (fun hg => LO.lt (.g hg rfl) (.g hg rfl)) rfl<|VO.l (LO.pkA (.r rfl) rfl rfl (.r rfl)) rfl<|VO.nil ?_)
      refine VE.seqN ?_
      refine VC.cond rfl (fun h76 => ?_) (fun h76 => ?_)
      ·
        refine VC.reg (VO.l (LO.fa (r := 1) F157_1 (.r rfl) rfl) rfl<|VO.l (LO.ld O40 (.r rfl) (fun _ hw => cells_at hw 0 rfl ⟨_, rfl⟩)) rfl<|VO.l (LO.mv (.r rfl)) rfl<|VO.h rfl<|HO.bs (ps := [(_,_)]) (vs := [(_,_)]) (Z := [_]) (C := [_]) S40 Z3 N3 ⟨(.r rfl), trivial⟩ rfl rfl rfl rfl ⟨_, [_], [_], rfl, rfl, rfl, rfl, rfl⟩ fun b7 => VO.h rfl<|HO.appT (k) 2 0 (fun R => [_,_, R,_,_,_]) S40 S40 I3 (.r rfl) (.r rfl) rfl rfl rfl rfl rfl rfl rfl (fun _ => rfl) rfl (by omega) fun p4 c4 => VO.l (LO.fa (r := 1) F157_1 (.r rfl) rfl) rfl<|VO.h0<|HO.st 1 (vs := [_]) (C' := [_,_,_]) (L' := [_,_,_,_,_,_]) N40 rfl rfl rfl rfl rfl rfl rfl rfl<|VO.nil ?_)
        refine VE.seqN ?_
        refine VC.seq ?_
        refine VC.reg (VO.l (LO.mv (.r rfl)) rfl<|VO.l (LO.mv (.r rfl)) rfl<|VO.l (LO.ixo S142 N4 (fun _ hw => (own_rows hw 4 rfl).some (by rw [List.length_map]; first | omega | (simp; done) | (simp; omega))) (.r rfl) (.r rfl) rfl (by omega)) rfl<|VO.l (LO.ld O4 (.r rfl) (fun w hw => cells_part (off := 0) (own_cell hw 4 rfl (getB (n := k) (by first | omega | (simp; omega)))) ⟨_, rfl⟩)) rfl<|VO.l (LO.mv (.r rfl)) rfl<|VO.lg rfl rfl (GD.t _) (fun hg => LO.mv (.r rfl)) rfl<|VO.lg rfl rfl (GD.t _) (fun hg => LO.mv (.r rfl)) rfl<|VO.lg rfl rfl (GD.t _) (fun hg => LO.ge (.g hg rfl) (.g hg rfl)) rfl<|VO.l (LO.pkA (.r rfl) rfl rfl (.r rfl)) rfl<|VO.nil ?_)
        refine VE.seqN ?_
        refine VC.cond rfl (fun h91 => ?_) (fun h91 => ?_)
        ·
          (exfalso; (have z1 := h76.2; have z2 := h91.2; omega))
        ·
          refine VC.skip (VE.inN (VE.seqN ?_))
          refine VC.reg (VO.l (LO.mv (.r rfl)) rfl<|VO.l (LO.add (.r rfl) (.r rfl) (wi (by omega) (by omega))) rfl<|VO.l (LO.as (.r rfl)) rfl<|VO.nil ?_)
          refine VE.thenN fun a w ha hw => ⟨(k + 1, f ++ [k], p4, c4, t, pt, ct), ⟨by dsimp only; omega, by dsimp only; rw [(ev_t1 h76.1 (by omega)).1, hff], by dsimp only; rw [(ev_t1 h76.1 (by omega)).2, htt]⟩, (by dsimp only; omega), ha.sub (.cons rfl (.cons rfl (.cons rfl (.cons rfl (.cons rfl (.cons rfl .nil)))))), hw.sel [1,2,3,4,5] rfl⟩
      ·
        refine VC.skip (VE.seqN ?_)
        refine VC.seq ?_
        refine VC.reg (VO.l (LO.mv (.r rfl)) rfl<|VO.l (LO.mv (.r rfl)) rfl<|VO.l (LO.ixo S142 N4 (fun _ hw => (own_rows hw 3 rfl).some (by rw [List.length_map]; first | omega | (simp; done) | (simp; omega))) (.r rfl) (.r rfl) rfl (by omega)) rfl<|VO.l (LO.ld O4 (.r rfl) (fun w hw => cells_part (off := 0) (own_cell hw 3 rfl (getB (n := k) (by first | omega | (simp; omega)))) ⟨_, rfl⟩)) rfl<|VO.l (LO.mv (.r rfl)) rfl<|VO.lg rfl rfl (GD.t _) (fun hg => LO.mv (.r rfl)) rfl<|VO.lg rfl rfl (GD.t _) (fun hg => LO.mv (.r rfl)) rfl<|VO.lg rfl rfl (GD.t _) (fun hg => LO.ge (.g hg rfl) (.g hg rfl)) rfl<|VO.l (LO.pkA (.r rfl) rfl rfl (.r rfl)) rfl<|VO.nil ?_)
        refine VE.seqN ?_
        refine VC.cond rfl (fun h91 => ?_) (fun h91 => ?_)
        ·
          refine VC.reg (VO.l (LO.fa (r := 2) F157_2 (.r rfl) rfl) rfl<|VO.l (LO.ld O40 (.r rfl) (fun _ hw => cells_at hw 0 rfl ⟨_, rfl⟩)) rfl<|VO.l (LO.mv (.r rfl)) rfl<|VO.l (LO.mv (.r rfl)) rfl<|VO.l (LO.eqv (LO.sub (.r rfl) (.r rfl) (wi (by omega) (by omega))) (congrArg (Value.int .i64) (show (k : Int) - n = ((k - n : Nat) : Int) by omega))) rfl<|VO.h rfl<|HO.bs (ps := [(_,_)]) (vs := [(_,_)]) (Z := [_]) (C := [_]) S40 Z3 N3 ⟨(.r rfl), trivial⟩ rfl rfl rfl rfl ⟨_, [_], [_], rfl, rfl, rfl, rfl, rfl⟩ fun b9 => VO.h rfl<|HO.appT ((k - n)) 3 0 (fun R => [_,_,_, R,_,_]) S40 S40 I3 (.r rfl) (.r rfl) rfl rfl rfl rfl rfl rfl rfl (fun _ => rfl) rfl (by omega) fun p6 c6 => VO.l (LO.fa (r := 2) F157_2 (.r rfl) rfl) rfl<|VO.h0<|HO.st 1 (vs := [_]) (C' := [_,_,_]) (L' := [_,_,_,_,_,_]) N40 rfl rfl rfl rfl rfl rfl rfl rfl<|VO.nil ?_)
          refine VE.inN (VE.seqN ?_)
          refine VC.reg (VO.l (LO.mv (.r rfl)) rfl<|VO.l (LO.add (.r rfl) (.r rfl) (wi (by omega) (by omega))) rfl<|VO.l (LO.as (.r rfl)) rfl<|VO.nil ?_)
          refine VE.thenN fun a w ha hw => ⟨(k + 1, f, pf, cf, t ++ [k - n], p6, c6), ⟨by dsimp only; omega, by dsimp only; rw [(ev_t2 h91.1 (by omega)).1, hff], by dsimp only; rw [(ev_t2 h91.1 (by omega)).2, htt]⟩, (by dsimp only; omega), ha.sub (.cons rfl (.cons rfl (.cons rfl (.cons rfl (.cons rfl (.cons rfl .nil)))))), hw.sel [1,2,3,4,5] rfl⟩
        ·
          refine VC.skip (VE.inN (VE.seqN ?_))
          refine VC.reg (VO.l (LO.mv (.r rfl)) rfl<|VO.l (LO.add (.r rfl) (.r rfl) (wi (by omega) (by omega))) rfl<|VO.l (LO.as (.r rfl)) rfl<|VO.nil ?_)
          refine VE.thenN fun a w ha hw => ⟨(k + 1, f, pf, cf, t, pt, ct), ⟨by dsimp only; omega, by dsimp only; rw [evSet_f (ev_no h76 h91), hff], by dsimp only; rw [evSet_f (ev_no h76 h91), htt]⟩, (by dsimp only; omega), ha.sub (.cons rfl (.cons rfl (.cons rfl (.cons rfl (.cons rfl (.cons rfl .nil)))))), hw⟩
    ·
      have hke : k = n + m := by omega
      subst hke
      rw [hoe, evSet_all] at hff htt
      refine VC.exit (VE.thenX (VE.thenX (VE.inX (VE.seqN ?_))))
      refine VC.seq ?_
      refine VC.reg (VO.l (LO.fa (r := 1) F157_1 (.r rfl) rfl) rfl<|VO.l (LO.ld O40 (.r rfl) (fun _ hw => cells_at hw 0 rfl ⟨_, rfl⟩)) rfl<|VO.l (LO.len S40 (.r rfl) rfl) rfl<|VO.l (LO.fa (r := 2) F157_2 (.r rfl) rfl) rfl<|VO.l (LO.ld O40 (.r rfl) (fun _ hw => cells_at hw 0 rfl ⟨_, rfl⟩)) rfl<|VO.l (LO.len S40 (.r rfl) rfl) rfl<|VO.l (LO.call (xs := [_,_]) (vs := [_,_]) C131 ⟨(.r rfl), (.r rfl), trivial⟩ (fun w2 hw => rKind_c f.length t.length w2)) rfl<|VO.l (LO.fa (r := 0) F157_0 (.r rfl) rfl) rfl<|VO.h0<|HO.st 0 (vs := [_]) (C' := [_,_,_]) (L' := [_,_,_,_,_]) N3 rfl rfl rfl rfl rfl rfl rfl rfl<|VO.nil ?_)
      refine VE.seqN ?_
      refine VC.seq ?_
      refine VC.reg (VO.l (LO.lda (vs := [_,_,_]) A157 (.r rfl) (fun _ hw => cells_at hw 0 rfl ⟨_, rfl⟩) rfl) rfl<|VO.h0<|HO.st 4 (vs := [_,_,_]) (C' := [_,_,_]) (L' := [_,_,_,_,_]) N157 rfl rfl rfl rfl rfl rfl rfl rfl<|VO.nil ?_)
      refine VE.seqN ?_
      refine VC.ret (VE.res (vs := [_]) rfl ⟨RV.agg (vs := [_,_,_]) A157 rfl (cells_blk 4 rfl ⟨_, rfl⟩) rfl, trivial⟩ (fun w hw => ?_))
      exact ⟨⟨f, t, pf, cf, pt, ct⟩, ⟨hff, htt⟩, rfl, selK [1,2] rfl rfl _ hw⟩

end Go.Proofs.Ytgemekpofpoopaa
