/-
  The chapter's examples hold.
  CellNil, walked.
  Maps of the statements.
  Fields within others.
  Members.
  CellOpen, walked.
  Narrower maps: plain.
  What a history leads to, by the program.
  Fields that moved, fields around, events that hold two areas.
  Fields, events and moves of the statements.
  CellBack, walked.
  The document's sets of pixels.
  Areas as the document finds them: plain; bags that grow.
  The document's areas.
  The document's Gap.
  The document's Areas; joined, gaps and areas as both say.
  CellPairs, walked.
  A book and its events: what Add makes of it.
  Past and Future of a book.
-/
import Derived.Test.YtgemekpofpoopaaKHIS06

set_option linter.unusedSimpArgs false
namespace Go.Proofs.Ytgemekpofpoopaa
open Go.SL Go.Proofs Go.Cast Go.Cell
set_option linter.unusedVariables false

theorem C56 : IsFn Try.prog 56 := ⟨_, Try.func56, by decide, rfl⟩
theorem C17 : IsFn Try.prog 17 := ⟨_, Try.func17, by decide, rfl⟩
theorem C26 : IsFn Try.prog 26 := ⟨_, Try.func26, by decide, rfl⟩
theorem EA71 : FlatA Try.prog 71 2 := ⟨⟨_, Try.underlying71, rfl⟩, by kernel_rfl, by kernel_rfl⟩
theorem C20 : IsFn Try.prog 20 := ⟨_, Try.func20, by decide, rfl⟩
theorem C22 : IsFn Try.prog 22 := ⟨_, Try.func22, by decide, rfl⟩
theorem C24 : IsFn Try.prog 24 := ⟨_, Try.func24, by decide, rfl⟩
theorem C27 : IsFn Try.prog 27 := ⟨_, Try.func27, by decide, rfl⟩
theorem C30 : IsFn Try.prog 30 := ⟨_, Try.func30, by decide, rfl⟩
theorem EA85 : FlatA Try.prog 85 2 := ⟨⟨_, Try.underlying85, rfl⟩, by kernel_rfl, by kernel_rfl⟩
theorem C47 : IsFn Try.prog 47 := ⟨_, Try.func47, by decide, rfl⟩
theorem C48 : IsFn Try.prog 48 := ⟨_, Try.func48, by decide, rfl⟩
theorem C49 : IsFn Try.prog 49 := ⟨_, Try.func49, by decide, rfl⟩
theorem F109_0 : FieldAt Try.prog 109 0 0 := ⟨_,_, Try.underlying109, rfl, rfl, 0, by kernel_rfl⟩
theorem C50 : IsFn Try.prog 50 := ⟨_, Try.func50, by decide, rfl⟩
theorem EA105 : FlatA Try.prog 105 9 := ⟨⟨_, Try.underlying105, rfl⟩, by kernel_rfl, by kernel_rfl⟩


theorem rowF_c (b : Nat) (w : World) (h : Ints w (some ⟨b, 0, none⟩) [5,5,2,5,5,5,0,1]) : Calls Try.prog (56) #[.slice (some ⟨b, 0, none⟩) 8 8] w fun e w' => ∃ y : SlY, True ∧ e = .returned (fieldV xG y.p xF.length y.c) ∧ St (bs w) [own 71 2 y.p y.c (xF.map Span.cells)] w' := row_c [5,5,2,5,5,5,0,1] _ 8 w h (by decide)
theorem rowH_c (b : Nat) (w : World) (h : Ints w (some ⟨b, 0, none⟩) [0,1,5,5,2,5,5,5]) : Calls Try.prog (56) #[.slice (some ⟨b, 0, none⟩) 8 8] w fun e w' => ∃ y : SlY, True ∧ e = .returned (fieldV xG y.p xH.length y.c) ∧ St (bs w) [own 71 2 y.p y.c (xH.map Span.cells)] w' := row_c [0,1,5,5,2,5,5,5] _ 8 w h (by decide)
theorem xJoin2_c (p : Option Addr) (c : Nat) (w : World) (hv : Spans w p xF) : Calls Try.prog (20) #[fieldV xG p xF.length c, .int .i64 5, .int .i64 0, .int .i64 2] w fun e w' => e = .returned (.tuple #[.int .i64 3, .int .i64 0]) ∧ St (bs w) [] w' := by
  have z := Joined_ok xG xF p c 5 0 2 w hv xP2
  rw [xJ2] at z; exact z
theorem xJoin3_c (p : Option Addr) (c : Nat) (w : World) (hv : Spans w p xF) : Calls Try.prog (20) #[fieldV xG p xF.length c, .int .i64 5, .int .i64 0, .int .i64 3] w fun e w' => e = .returned (.tuple #[.int .i64 2, .int .i64 0]) ∧ St (bs w) [] w' := by
  have z := Joined_ok xG xF p c 5 0 3 w hv xP3
  rw [xJ3] at z; exact z
theorem xGap2_c (p : Option Addr) (c : Nat) (w : World) (hv : Spans w p xF) : Calls Try.prog (22) #[fieldV xG p xF.length c, .int .i64 5, .int .i64 0, .int .i64 2] w fun e w' => e = .returned (.tuple #[.int .i64 1, .int .i64 0]) ∧ St (bs w) [] w' :=
  (Gap_ok xG xF p c 5 0 2 w hv xP2).mono fun e w' ⟨z, h1, h2, h3⟩ => ⟨by rw [h2, xGap2 h1], h3⟩
theorem xGap3_c (p : Option Addr) (c : Nat) (w : World) (hv : Spans w p xF) : Calls Try.prog (22) #[fieldV xG p xF.length c, .int .i64 5, .int .i64 0, .int .i64 3] w fun e w' => e = .returned (.tuple #[.int .i64 (-1), .int .i64 0]) ∧ St (bs w) [] w' :=
  (Gap_ok xG xF p c 5 0 3 w hv xP3).mono fun e w' ⟨z, h1, h2, h3⟩ => ⟨by rw [h2, xGap3 h1], h3⟩
structure XtY where
  p : Option Addr
  c : Nat
  p1 : Option Addr
  c1 : Nat
  p2 : Option Addr
  c2 : Nat
theorem xTree_c (p : Option Addr) (c b : Nat) (w : World) (hv : Spans w p xF) (hl : Ints w (some ⟨b, 0, none⟩) [1,5]) : Calls Try.prog (24) #[fieldV xG p xF.length c, .slice (some ⟨b, 0, none⟩) 2 2] w fun e w' => ∃ y : XtY, True ∧ e = .returned (.tuple #[.slice y.p 2 y.c, .int .i64 0]) ∧ St (bs w) [own 40 1 y.p y.c (([⟨y.p1, y.c1, [-1]⟩, ⟨y.p2, y.c2, [0]⟩] : List (RowA Int)).map rowC), bagR 3 1 iC [⟨y.p1, y.c1, [-1]⟩, ⟨y.p2, y.c2, [0]⟩]] w' :=
  (Tree_ok xG xF p c [1,5] _ 2 w hv hl xTreeE).mono fun e w' ⟨y, h1, h2, h3⟩ => by
    rw [xTree] at h1
    obtain ⟨p1, c1, p2, c2, e1⟩ := row_list2 h1
    rw [e1] at h2 h3
    exact ⟨⟨y.p, y.c, p1, c1, p2, c2⟩, trivial, h2, h3⟩
structure XeY where
  p : Option Addr
  c : Nat
  fp : Option Addr
  fc : Nat
  tp : Option Addr
  tc : Nat
def XeY.e (y : XeY) : EvR := ⟨4, y.fp, y.fc, [0], y.tp, y.tc, [0]⟩
theorem ev_list {l : List EvR} {e : EvM} (h : l.map EvR.m = [e]) : ∃ fp fc tp tc, l = [⟨e.kd, fp, fc, e.f, tp, tc, e.t⟩] := by
  rcases l with _ | ⟨a,_ | ⟨b, r⟩⟩
  · cases h
  · obtain ⟨kd, fp, fc, f, tp, tc, t⟩ := a
    have h := (List.cons.inj h).1
    subst h; exact ⟨fp, fc, tp, tc, rfl⟩
  · cases (List.cons.inj h).2
theorem xMatch_c (p : Option Addr) (c : Nat) (q : Option Addr) (d : Nat) (w : World) (hv : Spans w p xF) (hu : Spans w q xH) : Calls Try.prog (27) #[fieldV xG p xF.length c, fieldV xG q xH.length d, .int .i64 5, .int .i64 1] w fun e w' => ∃ y : XeY, True ∧ e = .returned (.tuple #[.slice y.p 1 y.c, .int .i64 0]) ∧ St (bs w) [own 81 3 y.p y.c ([y.e].map EvR.cells), bagD ([y.e].map EvR.fR), bagD ([y.e].map EvR.tR)] w' :=
  (Match_ok xG xF p c xG xH q d 5 1 w hv hu xPair).mono fun e w' ⟨y, h1, h2, h3⟩ => by
    rw [xNf, xNh] at h1
    obtain ⟨fp, fc, tp, tc, e1⟩ := ev_list (xEv h1)
    obtain ⟨l, yp, yc⟩ := y
    subst e1
    exact ⟨⟨yp, yc, fp, fc, tp, tc⟩, trivial, h2, h3⟩
def xMv : List Mv := [⟨-1, -1⟩, ⟨0, -1⟩, ⟨1, -1⟩, ⟨-1,0⟩, ⟨1,0⟩, ⟨-1,1⟩, ⟨0,1⟩, ⟨1,1⟩]
theorem xMoves_c (p : Option Addr) (c : Nat) (q : Option Addr) (d : Nat) (w : World) (hv : Spans w p xF) (hu : Spans w q xH) : Calls Try.prog (30) #[fieldV xG p xF.length c, fieldV xG q xH.length d, .int .i64 5, .int .i64 1, .int .i64 0, .int .i64 0] w fun e w' => ∃ y : SlY, True ∧ e = .returned (.tuple #[.slice y.p 8 y.c, .int .i64 0]) ∧ St (bs w) [own 85 2 y.p y.c (xMv.map Mv.cells)] w' :=
  (Moves_ok xG xF p c xG xH q d 5 0 0 1 w hv hu xMoveE).mono fun e w' ⟨y, h1, h2, h3⟩ => by
    rw [xMoves] at h2 h3
    exact ⟨y, trivial, h2, h3⟩
structure XaY where
  p : Option Addr
  c : Nat
  pp : Option Addr
  pc : Nat
  kp : Option Addr
  kc : Nat
  p1 : Option Addr
  c1 : Nat
  p2 : Option Addr
  c2 : Nat
def XaY.a (y : XaY) : AreaR := ⟨⟨y.pp, y.pc, [0,1,2]⟩, y.kp, y.kc, [⟨y.p1, y.c1, [0]⟩, ⟨y.p2, y.c2, [2]⟩], ⟨0,2,0,0,10,15⟩⟩
structure XaI (w : World) (y : XaY) : Prop where
  ar : RO 8 AreaR.cells w y.p [y.a]
  px : Ints w y.pp [0,1,2]
  kr : RR 1 iC w y.kp [⟨y.p1, y.c1, [0]⟩, ⟨y.p2, y.c2, [2]⟩]
theorem rr_nat {w : World} {p : Option Addr} {rs : List (RowA Nat)} (h : RR 1 nC w p rs) : RR 1 iC w p (rs.map fun r => (⟨r.p, r.c, r.l.map fun n : Nat => (n : Int)⟩ : RowA Int)) := by
  refine ⟨?_, fun x hx => ?_⟩
  · have h1 := h.1
    unfold RO at h1 ⊢
    rw [List.map_map]
    have e : (rowC ∘ fun r : RowA Nat => (⟨r.p, r.c, r.l.map fun n : Nat => (n : Int)⟩ : RowA Int)) = rowC := by
      funext r; show [Value.slice r.p (r.l.map _).length r.c] = _; rw [List.length_map]; rfl
    rw [e]; exact h1
  · obtain ⟨r, hr, rfl⟩ := List.mem_map.1 hx
    have := h.2 r hr
    exact ⟨by show (r.l.map _).length ≤ r.c; rw [List.length_map]; exact this.1, ints_nat this.2⟩
structure XaF (y : ArY) (z : XaY) : Prop where
  ar : ArP (gW xG) (gH xG) xF 5 y
  l : y.l = [z.a]
  p : y.p = z.p
theorem xAreas_c (p : Option Addr) (c : Nat) (w : World) (hv : Spans w p xF) : Calls Try.prog (17) #[fieldV xG p xF.length c, .int .i64 5] w fun e w' => ∃ y : ArY × XaY, XaF y.1 y.2 ∧ e = .returned (.tuple #[.slice y.2.p 1 y.2.c, .int .i64 0]) ∧ St (bs w) (y.1.R (ofL (gW xG) (gH xG) (mayB xF 5))) w' :=
  (Areas_ok xG xF p c 5 w hv xF_open).mono fun e w' ⟨y, h1, h2, h3⟩ => by
    obtain ⟨pp, pc, kp, kc, p1, c1, p2, c2, hl⟩ := exAr h1 xAreas
    rw [hl] at h2
    exact ⟨⟨y, ⟨y.p, y.c, pp, pc, kp, kc, p1, c1, p2, c2⟩⟩, ⟨h1, hl, rfl⟩, h2, h3⟩
theorem XaI.of {y : ArY} {z : XaY} {β : Bs} {L : List Res} {w : World} (h : XaF y z) (hw : St β (y.R (ofL (gW xG) (gH xG) (mayB xF 5)) ++ L) w) : XaI w z := by
  have hS := SpI.of_res hw h.ar 0 1 3 7 rfl rfl rfl rfl
  have hR : RR 1 nC w y.pr y.rs := RR.of_own hw 5 6 rfl rfl
  have hl := h.l
  refine ⟨?_, ?_, ?_⟩
  · have := hS.ar; rw [hl, h.p] at this; exact this
  · exact ints_nat (hR.2 z.a.px (by rw [← h.ar.px, hl]; exact List.mem_singleton.2 rfl)).2
  · exact rr_nat (hS.kr z.a (by rw [hl]; exact List.mem_singleton.2 rfl))
theorem XaI.keep {w0 : World} {y : XaY} (h : XaI w0 y) : ∀ {L : List Res} (w : World), St (bs w0) L w → XaI w y := fun w hw => ⟨h.ar.keep w hw, h.px.keep w hw, h.kr.keep w hw⟩
theorem rr_lit2 {w : World} {b1 b2 b3 : Nat} {x y : Int} (h1 : Ints w (some ⟨b1,0, none⟩) [x]) (h2 : Ints w (some ⟨b2,0, none⟩) [y]) (h3 : Cells w ⟨b3,0, none⟩ [.slice (some ⟨b1,0, none⟩) 1 1, .slice (some ⟨b2,0, none⟩) 1 1]) : RR 1 iC w (some ⟨b3,0, none⟩) [⟨some ⟨b1,0, none⟩, 1, [x]⟩, ⟨some ⟨b2,0, none⟩, 1, [y]⟩] := by
  refine ⟨RO.ofC (fun _ => rfl) h3, fun r hr => ?_⟩
  rcases List.mem_cons.1 hr with rfl | hr
  · exact ⟨Nat.le_refl _, h1⟩
  · have hr := List.mem_singleton.1 hr; subst hr; exact ⟨Nat.le_refl _, h2⟩
theorem two_rows {a b : RowA Int} (ha : a.l.length = 1) (hb : b.l.length = 1) : ∀ x, x ∈ [a, b] → x.l.length ≤ 1000000 := fun x hx => by
  rcases List.mem_cons.1 hx with rfl | hx
  · omega
  · have hx := List.mem_singleton.1 hx; subst hx; omega
abbrev xBk (bm : Nat) : BkH := ⟨xG, 5,1, bm⟩
theorem xBook : bookE xG 5 1 = 0 := by kernel_rfl
theorem xAdd0 (bm : Nat) : addE (xBk bm) (-1) 0 10 xG xF = 0 := rfl
theorem xAdd1 (bm : Nat) : addE (xBk bm) 10 1 20 xG xH = 0 := rfl
theorem xLate (bm n : Nat) : addE (xBk bm) 20 n 20 xG xH = 17 := rfl
theorem xLate_c (b bm : Nat) (q : BkQ) (pt : Option Addr) (nt ct : Nat) (kd : Nat → Int) (p : Option Addr) (c : Nat) (w : World) (hb : Cells w ⟨b, 0, none⟩ (bkC (xBk bm) 20 q pt nt ct kd)) (hv : Spans w p xH) : Calls Try.prog (48) #[.pointer (some ⟨b, 0, none⟩), .int .i64 20, fieldV xG p xH.length c] w fun e w' => e = .returned (.tuple #[.slice none 0 0, .int .i64 17]) ∧ St (bs w) [] w' := by
  have z := Add_e b (xBk bm) 20 q pt nt ct kd 20 xG xH p c w hb hv (by rw [xLate]; decide)
  rw [xLate] at z; exact z
structure XkY where
  p : Option Addr
  c : Nat
  ap : Option Addr
  ac : Nat
  pp : Option Addr
  pc : Nat
  cp : Option Addr
  cc : Nat
def XkY.t (y : XkY) : TkR := ⟨1,0, y.ap, y.ac, [0,0], 0, y.pp, y.pc, [], y.cp, y.cc, []⟩
theorem xk_list {tk : List TkR} (h : tk.map TkR.m = [⟨1,0, [0,0], 0, [], []⟩]) : ∃ ap ac pp pc cp cc, tk = [⟨1,0, ap, ac, [0,0], 0, pp, pc, [], cp, cc, []⟩] := by
  obtain ⟨t, rfl, hm⟩ := tk_list h
  obtain ⟨bg, fr, ap, ac, ar, en, pp, pc, pa, cp, cc, ch⟩ := t
  cases hm
  exact ⟨ap, ac, pp, pc, cp, cc, rfl⟩
theorem xTracks_c (b : Nat) (h : BkH) (la : Int) (q : BkQ) (pt : Option Addr) (ct : Nat) (kd : Nat → Int) (tk : List TkR) (w : World) (hb : Cells w ⟨b, 0, none⟩ (bkC h la q pt tk.length ct kd)) (htk : RO 6 TkR.cells w pt tk) (hti : ∀ t, t ∈ tk → TkI w t) (hm : tk.map TkR.m = [⟨1,0, [0,0], 0, [], []⟩]) : Calls Try.prog (49) #[.pointer (some ⟨b, 0, none⟩)] w fun e w' => ∃ y : XkY, True ∧ e = .returned (.slice y.p 1 y.c) ∧ St (bs w) [own 109 6 y.p y.c ([y.t].map TkR.cells), bagD ([y.t].map TkR.aR), bagD ([y.t].map TkR.pR), bagD ([y.t].map TkR.cR)] w' :=
  (Tracks_ok b h la q pt ct kd tk w hb htk hti (fun t ht => by
    obtain ⟨_,_,_,_,_,_, rfl⟩ := xk_list hm
    have := List.mem_singleton.1 ht; subst this
    exact ⟨(show 2 ≤ 1000000000 by decide), (show 0 ≤ 1000000000 by decide), (show 0 ≤ 1000000000 by decide)⟩) (by obtain ⟨_,_,_,_,_,_, rfl⟩ := xk_list hm; exact (show 1 ≤ 1000000 by decide))).mono fun e w' ⟨y, h1, h2, h3⟩ => by
    rw [hm] at h1
    obtain ⟨l, yp, yc⟩ := y
    obtain ⟨ap, ac, pp, pc, cp, cc, rfl⟩ := xk_list h1
    exact ⟨⟨yp, yc, ap, ac, pp, pc, cp, cc⟩, trivial, h2, h3⟩
theorem xTally_c (b bm : Nat) (la : Int) (pm : Option Addr) (cm : Nat) (ys : List ArY) (pt : Option Addr) (ct : Nat) (kd : Nat → Int) (tk : List TkR) (of : Nat × Nat → Option Nat) (w : World) (hb : Cells w ⟨b, 0, none⟩ (bkC (xBk bm) la ⟨pm, ys.length, cm⟩ pt tk.length ct kd)) (ho : (mapR plV niV bm (ofI of)).inv w) (hys : ys.length = 2) (hm : tk.map TkR.m = [⟨1,0, [0,0], 0, [], []⟩]) (hk : ∀ a, a ∈ [((0 : Int), (0 : Int)), (1,0)] ↔ (ofI of a).isSome = true) (hkd : kd = kdF (fun _ => 0) [⟨4, [0], [0]⟩]) :
    Calls Try.prog (50) #[.pointer (some ⟨b, 0, none⟩)] w fun e w' => e = .returned (.agg #[.int .i64 2, .int .i64 2, .int .i64 1, .int .i64 0, .int .i64 0, .int .i64 1, .int .i64 0, .int .i64 0, .int .i64 0]) ∧ St (bs w) [] w' := by
  have z := Tally_ok b (xBk bm) la ⟨pm, ys.length, cm⟩ pt ct kd tk w hb of ho [((0 : Int), (0 : Int)), (1,0)] (by decide) hk
  obtain ⟨_,_,_,_,_,_, rfl⟩ := xk_list hm
  subst hkd
  rw [hys] at z
  exact z

set_option maxRecDepth 20000 in
set_option maxHeartbeats 16000000 in
theorem works_c (w : World) :
  Calls Try.prog 16 #[] w fun e w' => e = .returned (.bool true) ∧ St (bs w) [] w' := by
  refine enter (vs := []) (env := []) Try.func16 rfl rfl rfl rfl ?_
  refine VC.seq ?_
  refine VC.reg (VO.l (LO.as (.r rfl)) rfl<|VO.nil ?_)
  refine VE.seqN ?_
  refine VC.seq ?_
  refine VC.reg (VO.h rfl<|HO.bs (ps := [(_,_), (_,_), (_,_), (_,_), (_,_), (_,_), (_,_), (_,_)]) (vs := [(_,_), (_,_), (_,_), (_,_), (_,_), (_,_), (_,_), (_,_)]) (Z := [_,_,_,_,_,_,_,_]) (C := [_,_,_,_,_,_,_,_]) S40 Z3 N3 ⟨(.r rfl), (.r rfl), (.r rfl), (.r rfl), (.r rfl), (.r rfl), (.r rfl), (.r rfl), trivial⟩ rfl rfl rfl rfl ⟨_, [_], [_,_,_,_,_,_,_,_], rfl, rfl, rfl, rfl, ⟨_, [_], [_,_,_,_,_,_,_,_], rfl, rfl, rfl, rfl, ⟨_, [_], [_,_,_,_,_,_,_,_], rfl, rfl, rfl, rfl, ⟨_, [_], [_,_,_,_,_,_,_,_], rfl, rfl, rfl, rfl, ⟨_, [_], [_,_,_,_,_,_,_,_], rfl, rfl, rfl, rfl, ⟨_, [_], [_,_,_,_,_,_,_,_], rfl, rfl, rfl, rfl, ⟨_, [_], [_,_,_,_,_,_,_,_], rfl, rfl, rfl, rfl, ⟨_, [_], [_,_,_,_,_,_,_,_], rfl, rfl, rfl, rfl, rfl⟩⟩⟩⟩⟩⟩⟩⟩ fun b1 => VO.h rfl<|HO.callx (xs := [_]) (vs := [_]) C56 ⟨(.r rfl), trivial⟩ (fun w2 hw => rowF_c b1 w2 (ints_lit _ (cells_inv (hw.inv 0 _ rfl)))) fun f1 _ => VO.h rfl<|HO.bs (ps := [(_,_), (_,_), (_,_), (_,_), (_,_), (_,_), (_,_), (_,_)]) (vs := [(_,_), (_,_), (_,_), (_,_), (_,_), (_,_), (_,_), (_,_)]) (Z := [_,_,_,_,_,_,_,_]) (C := [_,_,_,_,_,_,_,_]) S40 Z3 N3 ⟨(.r rfl), (.r rfl), (.r rfl), (.r rfl), (.r rfl), (.r rfl), (.r rfl), (.r rfl), trivial⟩ rfl rfl rfl rfl ⟨_, [_], [_,_,_,_,_,_,_,_], rfl, rfl, rfl, rfl, ⟨_, [_], [_,_,_,_,_,_,_,_], rfl, rfl, rfl, rfl, ⟨_, [_], [_,_,_,_,_,_,_,_], rfl, rfl, rfl, rfl, ⟨_, [_], [_,_,_,_,_,_,_,_], rfl, rfl, rfl, rfl, ⟨_, [_], [_,_,_,_,_,_,_,_], rfl, rfl, rfl, rfl, ⟨_, [_], [_,_,_,_,_,_,_,_], rfl, rfl, rfl, rfl, ⟨_, [_], [_,_,_,_,_,_,_,_], rfl, rfl, rfl, rfl, ⟨_, [_], [_,_,_,_,_,_,_,_], rfl, rfl, rfl, rfl, rfl⟩⟩⟩⟩⟩⟩⟩⟩ fun b3 => VO.h rfl<|HO.callx (xs := [_]) (vs := [_]) C56 ⟨(.r rfl), trivial⟩ (fun w2 hw => rowH_c b3 w2 (ints_lit _ (cells_inv (hw.inv 0 _ rfl)))) fun f2 _ => VO.h rfl<|HO.alloc (C := #[_,_,_,_,_,_]) Z26 rfl fun b5 => VO.h rfl<|HO.alloc (C := #[_,_,_,_,_,_]) Z26 rfl fun b6 => VO.h0<|HO.st 1 (vs := [_,_,_,_,_,_]) (C' := [_,_,_,_,_,_]) (L' := [_,_,_,_,_,_]) N26 rfl rfl rfl rfl rfl rfl rfl rfl<|VO.h0<|HO.st 0 (vs := [_,_,_,_,_,_]) (C' := [_,_,_,_,_,_]) (L' := [_,_,_,_,_,_]) N26 rfl rfl rfl rfl rfl rfl rfl rfl<|VO.nil ?_)
  refine VE.seqN ?_
  refine VC.seq ?_
  refine VC.rebase fun w1 hst1 => ?_
  have hf1 : Cells w1 ⟨b5,0, none⟩ [.int .i64 xG.x, .int .i64 xG.y, .int .i64 xG.size, .int .i64 xG.wide, .int .i64 xG.high, .slice f1.p xF.length f1.c] := cells_inv (hst1.inv 1 _ rfl)
  have hsF : Spans w1 f1.p xF := RO.of_own hst1 4 rfl
  have hf2 : Cells w1 ⟨b6,0, none⟩ [.int .i64 xG.x, .int .i64 xG.y, .int .i64 xG.size, .int .i64 xG.wide, .int .i64 xG.high, .slice f2.p xH.length f2.c] := cells_inv (hst1.inv 0 _ rfl)
  have hsH : Spans w1 f2.p xH := RO.of_own hst1 2 rfl
  refine VC.reg (VO.l (LO.lda (vs := [_,_,_,_,_,_]) A26 (.r rfl) (cells_keep (sub_cells (off := 0) hf1 ⟨_, rfl⟩)) rfl) rfl<|VO.h rfl<|HO.callx (xs := [_,_]) (vs := [_,_]) C17 ⟨(.r rfl), (.r rfl), trivial⟩ (fun w2 hw => xAreas_c f1.p f1.c w2 (hsF.keep w2 hw)) fun yaa hyaf => VO.h rfl<|HO.lo (LO.mv (.r rfl))<|VO.h rfl<|HO.lo (LO.ex (.r rfl) rfl)<|VO.h rfl<|HO.lo (LO.ex (.r rfl) rfl)<|VO.h rfl<|HO.lo (LO.as (.r rfl))<|VO.h rfl<|HO.lo (LO.as (.r rfl))<|VO.nil ?_)
  refine VE.seqN ?_
  refine VC.seq ?_
  refine VC.seq ?_
  obtain ⟨yy, ya⟩ := yaa
  dsimp only at hyaf
  refine VC.rebase fun w2 hst2 => ?_
  have hya0 : XaI w2 ya := XaI.of (L := []) hyaf (selK [0,1,2,3,4,5,6,7] rfl rfl _ hst2)
  have hya : ∀ {L : List Res} (w : World), St (bs w2) L w → XaI w ya := fun w hw => hya0.keep w hw
  have hf1 := cells_keep hf1 _ hst2
  have hf2 := cells_keep hf2 _ hst2
  have hsF := hsF.keep _ hst2
  have hsH := hsH.keep _ hst2
  refine VC.reg (VO.l (LO.mv (.r rfl)) rfl<|VO.l (LO.ne (.r rfl) (.r rfl)) rfl<|VO.l (LO.mv (.r rfl)) rfl<|VO.lg rfl rfl (GD.f _) (fun hg => LO.mv (.r rfl)) rfl<|VO.lg rfl rfl (GD.f _) (fun hg => LO.len S29 (.g hg rfl) rfl) rfl<|VO.lg rfl rfl (GD.f _) (fun hg => LO.ne (.g hg rfl) (.r rfl)) rfl<|VO.l (LO.pkO (.r rfl) (.r rfl) rfl rfl) rfl<|VO.l (LO.mv (.r rfl)) rfl<|VO.lg rfl rfl (GD.f _) (fun hg => LO.mv (.r rfl)) rfl<|VO.lg rfl rfl (GD.f _) (fun hg => LO.ixs S29 N73 hya0.ar.sm (.g hg rfl) (.r rfl) (j := 0) rfl Nat.zero_lt_one) rfl<|VO.lg rfl rfl (GD.f _) (fun hg => LO.fa F73_0 (.g hg rfl) rfl) rfl<|VO.lg rfl rfl (GD.f _) (fun hg => LO.ld O40 (.g hg rfl) (fun w hw => cells_part (off := 0) ((fun w3 h3 => RO.cel (hya w3 h3).ar (show [ya.a][0]? = some ya.a from rfl)) w hw) ⟨_, rfl⟩)) rfl<|VO.bc (x := 33) rfl (fun hg3_7 => (by exfalso; exact absurd hg3_7 (by decide))) (fun hg3_7 => VO.gT rfl rfl (congrArg Value.bool hg3_7) rfl<|HO.bs (ps := [(_,_), (_,_), (_,_)]) (vs := [(_,_), (_,_), (_,_)]) (Z := [_,_,_]) (C := [_,_,_]) S40 Z3 N3 ⟨(.r rfl), (.r rfl), (.r rfl), trivial⟩ rfl rfl rfl rfl ⟨_, [_], [_,_,_], rfl, rfl, rfl, rfl, ⟨_, [_], [_,_,_], rfl, rfl, rfl, rfl, ⟨_, [_], [_,_,_], rfl, rfl, rfl, rfl, rfl⟩⟩⟩ fun b17 => VO.gT rfl rfl (congrArg Value.bool hg3_7) rfl<|HO.lo (LO.call (xs := [_,_]) (vs := [_,_]) C40 ⟨(.g (by rw [hg3_7]; rfl) rfl), (.r rfl), trivial⟩ (fun w2 hw => numbers_c [0,1,2] [0,1,2] ya.pp ya.pc (some ⟨b17,0, none⟩) 3 w2 (hya w2 hw).px (ints_lit [0,1,2] (cells_inv (hw.inv 0 _ rfl))) (by decide)))<|VO.gT rfl rfl (congrArg Value.bool hg3_7) rfl<|HO.lo (LO.not (.r rfl))<|VO.h rfl<|HO.lo (LO.pkF (.r rfl) hg3_7 (.r rfl))<|VO.h rfl<|HO.lo (LO.mv (.r rfl))<|VO.lg rfl rfl (GD.f _) (fun hg => LO.mv (.r rfl)) rfl<|VO.lg rfl rfl (GD.f _) (fun hg => LO.ixs S29 N73 hya0.ar.sm (.g hg rfl) (.r rfl) (j := 0) rfl Nat.zero_lt_one) rfl<|VO.lg rfl rfl (GD.f _) (fun hg => LO.fa F73_1 (.g hg rfl) rfl) rfl<|VO.lg rfl rfl (GD.f _) (fun hg => LO.ld O41 (.g hg rfl) (fun w hw => cells_part (off := 1) ((fun w3 h3 => RO.cel (hya w3 h3).ar (show [ya.a][0]? = some ya.a from rfl)) w hw) ⟨_, rfl⟩)) rfl<|VO.bc (x := 42) rfl (fun hg3_16 => (by exfalso; exact absurd hg3_16 (by decide))) (fun hg3_16 => VO.gT rfl rfl (congrArg Value.bool hg3_16) rfl<|HO.bs (ps := [(_,_)]) (vs := [(_,_)]) (Z := [_]) (C := [_]) S40 Z3 N3 ⟨(.r rfl), trivial⟩ rfl rfl rfl rfl ⟨_, [_], [_], rfl, rfl, rfl, rfl, rfl⟩ fun b18 => VO.gT rfl rfl (congrArg Value.bool hg3_16) rfl<|HO.bs (ps := [(_,_)]) (vs := [(_,_)]) (Z := [_]) (C := [_]) S40 Z3 N3 ⟨(.r rfl), trivial⟩ rfl rfl rfl rfl ⟨_, [_], [_], rfl, rfl, rfl, rfl, rfl⟩ fun b19 => VO.gT rfl rfl (congrArg Value.bool hg3_16) rfl<|HO.bs (ps := [(_,_), (_,_)]) (vs := [(_,_), (_,_)]) (Z := [_,_]) (C := [_,_]) S41 Z40 N40 ⟨(.r rfl), (.r rfl), trivial⟩ rfl rfl rfl rfl ⟨_, [_], [_,_], rfl, rfl, rfl, rfl, ⟨_, [_], [_,_], rfl, rfl, rfl, rfl, rfl⟩⟩ fun b20 => VO.gT rfl rfl (congrArg Value.bool hg3_16) rfl<|HO.lo (LO.call (xs := [_,_]) (vs := [_,_]) C26 ⟨(.g (by rw [hg3_16]; rfl) rfl), (.r rfl), trivial⟩ (fun w2 hw => lists_c [⟨ya.p1, ya.c1, [0]⟩, ⟨ya.p2, ya.c2, [2]⟩] [⟨some ⟨b18,0, none⟩, 1, [0]⟩, ⟨some ⟨b19,0, none⟩, 1, [2]⟩] ya.kp ya.kc (some ⟨b20,0, none⟩) 2 w2 (hya w2 hw).kr (rr_lit2 (ints_lit [0] (cells_inv (hw.inv 2 _ rfl))) (ints_lit [2] (cells_inv (hw.inv 1 _ rfl))) (cells_inv (hw.inv 0 _ rfl))) (show 2 ≤ 1000000 by decide) (two_rows rfl rfl)))<|VO.gT rfl rfl (congrArg Value.bool hg3_16) rfl<|HO.lo (LO.not (.r rfl))<|VO.h rfl<|HO.lo (LO.pkF (.r rfl) hg3_16 (.r rfl))<|VO.h rfl<|HO.lo (LO.mv (.r rfl))<|VO.lg rfl rfl (GD.f _) (fun hg => LO.mv (.r rfl)) rfl<|VO.lg rfl rfl (GD.f _) (fun hg => LO.ixs S29 N73 hya0.ar.sm (.g hg rfl) (.r rfl) (j := 0) rfl Nat.zero_lt_one) rfl<|VO.lg rfl rfl (GD.f _) (fun hg => LO.fa F73_2 (.g hg rfl) rfl) rfl<|VO.lg rfl rfl (GD.f _) (fun hg => LO.lda (vs := [_,_]) A71 (.g hg rfl) (fun w hw => cells_part (off := 2) ((fun w3 h3 => RO.cel (hya w3 h3).ar (show [ya.a][0]? = some ya.a from rfl)) w hw) ⟨_, rfl⟩) rfl) rfl<|VO.lg rfl rfl (GD.f _) (fun hg => LO.bd (ps := [(_,_), (_,_)]) (vs := [(_,_), (_,_)]) (C := [_,_]) B71  ⟨(.r rfl), (.r rfl), trivial⟩ rfl ⟨_, [_], [_,_], rfl, rfl, rfl, rfl, ⟨_, [_], [_,_], rfl, rfl, rfl, rfl, rfl⟩⟩) rfl<|VO.lg rfl rfl (GD.f _) (fun hg => LO.neA («as» := [_,_]) (bs := [_,_]) EA71 (.g hg rfl) (.g hg rfl) rfl rfl) rfl<|VO.h rfl<|HO.lo (LO.pkO (.r rfl) (.r rfl) rfl rfl)<|VO.h rfl<|HO.lo (LO.mv (.r rfl))<|VO.lg rfl rfl (GD.f _) (fun hg => LO.mv (.r rfl)) rfl<|VO.lg rfl rfl (GD.f _) (fun hg => LO.ixs S29 N73 hya0.ar.sm (.g hg rfl) (.r rfl) (j := 0) rfl Nat.zero_lt_one) rfl<|VO.lg rfl rfl (GD.f _) (fun hg => LO.fa F73_4 (.g hg rfl) rfl) rfl<|VO.lg rfl rfl (GD.f _) (fun hg => LO.lda (vs := [_,_]) A71 (.g hg rfl) (fun w hw => cells_part (off := 6) ((fun w3 h3 => RO.cel (hya w3 h3).ar (show [ya.a][0]? = some ya.a from rfl)) w hw) ⟨_, rfl⟩) rfl) rfl<|VO.lg rfl rfl (GD.f _) (fun hg => LO.bd (ps := [(_,_), (_,_)]) (vs := [(_,_), (_,_)]) (C := [_,_]) B71  ⟨(.r rfl), (.r rfl), trivial⟩ rfl ⟨_, [_], [_,_], rfl, rfl, rfl, rfl, ⟨_, [_], [_,_], rfl, rfl, rfl, rfl, rfl⟩⟩) rfl<|VO.lg rfl rfl (GD.f _) (fun hg => LO.neA («as» := [_,_]) (bs := [_,_]) EA71 (.g hg rfl) (.g hg rfl) rfl rfl) rfl<|VO.h rfl<|HO.lo (LO.pkO (.r rfl) (.r rfl) rfl rfl)<|VO.nil ?_)))
  refine VE.seqN ?_
  refine VC.cond rfl (fun h68 => ?_) (fun h68 => ?_)
  ·
    (exfalso; rcases h68 with (z | z) | z <;> exact z rfl)
  ·
    refine VC.skip (VE.seqN ?_)
    refine VC.seq ?_
    refine VC.perm [] rfl ?_
    show VC _ _ _ _ _ _ [] _ _
    refine VC.reg (VO.l (LO.lda (vs := [_,_,_,_,_,_]) A26 (.r rfl) (cells_keep (sub_cells (off := 0) hf1 ⟨_, rfl⟩)) rfl) rfl<|VO.l (LO.call (xs := [_,_,_,_]) (vs := [_,_,_,_]) C20 ⟨(.r rfl), (.r rfl), (.r rfl), (.r rfl), trivial⟩ (fun w2 hw => xJoin2_c f1.p f1.c w2 (hsF.keep w2 hw))) rfl<|VO.l (LO.mv (.r rfl)) rfl<|VO.l (LO.ex (.r rfl) rfl) rfl<|VO.l (LO.ex (.r rfl) rfl) rfl<|VO.l (LO.as (.r rfl)) rfl<|VO.l (LO.as (.r rfl)) rfl<|VO.nil ?_)
    refine VE.seqN ?_
    refine VC.seq ?_
    refine VC.reg (VO.l (LO.lda (vs := [_,_,_,_,_,_]) A26 (.r rfl) (cells_keep (sub_cells (off := 0) hf1 ⟨_, rfl⟩)) rfl) rfl<|VO.l (LO.call (xs := [_,_,_,_]) (vs := [_,_,_,_]) C20 ⟨(.r rfl), (.r rfl), (.r rfl), (.r rfl), trivial⟩ (fun w2 hw => xJoin3_c f1.p f1.c w2 (hsF.keep w2 hw))) rfl<|VO.l (LO.mv (.r rfl)) rfl<|VO.l (LO.ex (.r rfl) rfl) rfl<|VO.l (LO.ex (.r rfl) rfl) rfl<|VO.l (LO.as (.r rfl)) rfl<|VO.l (LO.as (.r rfl)) rfl<|VO.nil ?_)
    refine VE.seqN ?_
    refine VC.seq ?_
    refine VC.reg (VO.l (LO.lda (vs := [_,_,_,_,_,_]) A26 (.r rfl) (cells_keep (sub_cells (off := 0) hf1 ⟨_, rfl⟩)) rfl) rfl<|VO.l (LO.call (xs := [_,_,_,_]) (vs := [_,_,_,_]) C22 ⟨(.r rfl), (.r rfl), (.r rfl), (.r rfl), trivial⟩ (fun w2 hw => xGap2_c f1.p f1.c w2 (hsF.keep w2 hw))) rfl<|VO.l (LO.mv (.r rfl)) rfl<|VO.l (LO.ex (.r rfl) rfl) rfl<|VO.l (LO.ex (.r rfl) rfl) rfl<|VO.l (LO.as (.r rfl)) rfl<|VO.l (LO.as (.r rfl)) rfl<|VO.nil ?_)
    refine VE.seqN ?_
    refine VC.seq ?_
    refine VC.reg (VO.l (LO.lda (vs := [_,_,_,_,_,_]) A26 (.r rfl) (cells_keep (sub_cells (off := 0) hf1 ⟨_, rfl⟩)) rfl) rfl<|VO.l (LO.call (xs := [_,_,_,_]) (vs := [_,_,_,_]) C22 ⟨(.r rfl), (.r rfl), (.r rfl), (.r rfl), trivial⟩ (fun w2 hw => xGap3_c f1.p f1.c w2 (hsF.keep w2 hw))) rfl<|VO.l (LO.mv (.r rfl)) rfl<|VO.l (LO.ex (.r rfl) rfl) rfl<|VO.l (LO.ex (.r rfl) rfl) rfl<|VO.l (LO.as (.r rfl)) rfl<|VO.l (LO.as (.r rfl)) rfl<|VO.nil ?_)
    refine VE.seqN ?_
    refine VC.seq ?_
    refine VC.seq ?_
    refine VC.reg (VO.l (LO.mv (.r rfl)) rfl<|VO.l (LO.ne (.r rfl) (.r rfl)) rfl<|VO.l (LO.mv (.r rfl)) rfl<|VO.lg rfl rfl (GD.f _) (fun hg => LO.mv (.r rfl)) rfl<|VO.lg rfl rfl (GD.f _) (fun hg => LO.ne (.g hg rfl) (.r rfl)) rfl<|VO.l (LO.pkO (.r rfl) (.r rfl) rfl rfl) rfl<|VO.l (LO.mv (.r rfl)) rfl<|VO.lg rfl rfl (GD.f _) (fun hg => LO.mv (.r rfl)) rfl<|VO.lg rfl rfl (GD.f _) (fun hg => LO.ne (.g hg rfl) (.r rfl)) rfl<|VO.l (LO.pkO (.r rfl) (.r rfl) rfl rfl) rfl<|VO.l (LO.mv (.r rfl)) rfl<|VO.lg rfl rfl (GD.f _) (fun hg => LO.mv (.r rfl)) rfl<|VO.lg rfl rfl (GD.f _) (fun hg => LO.ne (.g hg rfl) (.r rfl)) rfl<|VO.l (LO.pkO (.r rfl) (.r rfl) rfl rfl) rfl<|VO.l (LO.mv (.r rfl)) rfl<|VO.lg rfl rfl (GD.f _) (fun hg => LO.mv (.r rfl)) rfl<|VO.lg rfl rfl (GD.f _) (fun hg => LO.ne (.g hg rfl) (.r rfl)) rfl<|VO.l (LO.pkO (.r rfl) (.r rfl) rfl rfl) rfl<|VO.l (LO.mv (.r rfl)) rfl<|VO.lg rfl rfl (GD.f _) (fun hg => LO.mv (.r rfl)) rfl<|VO.lg rfl rfl (GD.f _) (fun hg => LO.ne (.g hg rfl) (.r rfl)) rfl<|VO.l (LO.pkO (.r rfl) (.r rfl) rfl rfl) rfl<|VO.l (LO.mv (.r rfl)) rfl<|VO.lg rfl rfl (GD.f _) (fun hg => LO.mv (.r rfl)) rfl<|VO.lg rfl rfl (GD.f _) (fun hg => LO.ne (.g hg rfl) (.r rfl)) rfl<|VO.l (LO.pkO (.r rfl) (.r rfl) rfl rfl) rfl<|VO.l (LO.mv (.r rfl)) rfl<|VO.lg rfl rfl (GD.f _) (fun hg => LO.mv (.r rfl)) rfl<|VO.lg rfl rfl (GD.f _) (fun hg => LO.ne (.g hg rfl) (.r rfl)) rfl<|VO.l (LO.pkO (.r rfl) (.r rfl) rfl rfl) rfl<|VO.nil ?_)
    refine VE.seqN ?_
    refine VC.cond rfl (fun h118 => ?_) (fun h118 => ?_)
    ·
      (exfalso; exact absurd h118 (by decide))
    ·
      refine VC.skip (VE.seqN ?_)
      refine VC.seq ?_
      refine VC.reg (VO.l (LO.lda (vs := [_,_,_,_,_,_]) A26 (.r rfl) (cells_keep (sub_cells (off := 0) hf1 ⟨_, rfl⟩)) rfl) rfl<|VO.h rfl<|HO.bs (ps := [(_,_), (_,_)]) (vs := [(_,_), (_,_)]) (Z := [_,_]) (C := [_,_]) S40 Z3 N3 ⟨(.r rfl), (.r rfl), trivial⟩ rfl rfl rfl rfl ⟨_, [_], [_,_], rfl, rfl, rfl, rfl, ⟨_, [_], [_,_], rfl, rfl, rfl, rfl, rfl⟩⟩ fun b21 => VO.h rfl<|HO.callx (xs := [_,_]) (vs := [_,_]) C24 ⟨(.r rfl), (.r rfl), trivial⟩ (fun w2 hw => xTree_c f1.p f1.c b21 w2 (hsF.keep w2 hw) (ints_lit [1,5] (cells_inv (hw.inv 0 _ rfl)))) fun yt _ => VO.h rfl<|HO.lo (LO.mv (.r rfl))<|VO.h rfl<|HO.lo (LO.ex (.r rfl) rfl)<|VO.h rfl<|HO.lo (LO.ex (.r rfl) rfl)<|VO.h rfl<|HO.lo (LO.as (.r rfl))<|VO.h rfl<|HO.lo (LO.as (.r rfl))<|VO.nil ?_)
      refine VE.seqN ?_
      refine VC.seq ?_
      refine VC.reg (VO.l (LO.lda (vs := [_,_,_,_,_,_]) A26 (.r rfl) (cells_keep (sub_cells (off := 0) hf1 ⟨_, rfl⟩)) rfl) rfl<|VO.l (LO.lda (vs := [_,_,_,_,_,_]) A26 (.r rfl) (cells_keep (sub_cells (off := 0) hf2 ⟨_, rfl⟩)) rfl) rfl<|VO.h rfl<|HO.callx (xs := [_,_,_,_]) (vs := [_,_,_,_]) C27 ⟨(.r rfl), (.r rfl), (.r rfl), (.r rfl), trivial⟩ (fun w2 hw => xMatch_c f1.p f1.c f2.p f2.c w2 (hsF.keep w2 hw) (hsH.keep w2 hw)) fun ye _ => VO.h rfl<|HO.lo (LO.mv (.r rfl))<|VO.h rfl<|HO.lo (LO.ex (.r rfl) rfl)<|VO.h rfl<|HO.lo (LO.ex (.r rfl) rfl)<|VO.h rfl<|HO.lo (LO.as (.r rfl))<|VO.h rfl<|HO.lo (LO.as (.r rfl))<|VO.nil ?_)
      refine VE.seqN ?_
      refine VC.seq ?_
      refine VC.reg (VO.l (LO.lda (vs := [_,_,_,_,_,_]) A26 (.r rfl) (cells_keep (sub_cells (off := 0) hf1 ⟨_, rfl⟩)) rfl) rfl<|VO.l (LO.lda (vs := [_,_,_,_,_,_]) A26 (.r rfl) (cells_keep (sub_cells (off := 0) hf2 ⟨_, rfl⟩)) rfl) rfl<|VO.h rfl<|HO.callx (xs := [_,_,_,_,_,_]) (vs := [_,_,_,_,_,_]) C30 ⟨(.r rfl), (.r rfl), (.r rfl), (.r rfl), (.r rfl), (.r rfl), trivial⟩ (fun w2 hw => xMoves_c f1.p f1.c f2.p f2.c w2 (hsF.keep w2 hw) (hsH.keep w2 hw)) fun ym _ => VO.h rfl<|HO.lo (LO.mv (.r rfl))<|VO.h rfl<|HO.lo (LO.ex (.r rfl) rfl)<|VO.h rfl<|HO.lo (LO.ex (.r rfl) rfl)<|VO.h rfl<|HO.lo (LO.as (.r rfl))<|VO.h rfl<|HO.lo (LO.as (.r rfl))<|VO.nil ?_)
      refine VE.seqN ?_
      refine VC.seq ?_
      refine VC.seq ?_
      refine VC.reg (VO.l (LO.mv (.r rfl)) rfl<|VO.l (LO.ne (.r rfl) (.r rfl)) rfl<|VO.l (LO.mv (.r rfl)) rfl<|VO.lg rfl rfl (GD.f _) (fun hg => LO.mv (.r rfl)) rfl<|VO.lg rfl rfl (GD.f _) (fun hg => LO.ne (.g hg rfl) (.r rfl)) rfl<|VO.l (LO.pkO (.r rfl) (.r rfl) rfl rfl) rfl<|VO.l (LO.mv (.r rfl)) rfl<|VO.lg rfl rfl (GD.f _) (fun hg => LO.mv (.r rfl)) rfl<|VO.lg rfl rfl (GD.f _) (fun hg => LO.ne (.g hg rfl) (.r rfl)) rfl<|VO.l (LO.pkO (.r rfl) (.r rfl) rfl rfl) rfl<|VO.l (LO.mv (.r rfl)) rfl<|VO.lg rfl rfl (GD.f _) (fun hg => LO.mv (.r rfl)) rfl<|VO.bc (x := 147) rfl (fun hg14_10 => (by exfalso; exact absurd hg14_10 (by decide))) (fun hg14_10 => VO.gT rfl rfl (congrArg Value.bool hg14_10) rfl<|HO.bs (ps := [(_,_)]) (vs := [(_,_)]) (Z := [_]) (C := [_]) S40 Z3 N3 ⟨(.r rfl), trivial⟩ rfl rfl rfl rfl ⟨_, [_], [_], rfl, rfl, rfl, rfl, rfl⟩ fun b28 => VO.gT rfl rfl (congrArg Value.bool hg14_10) rfl<|HO.bs (ps := [(_,_)]) (vs := [(_,_)]) (Z := [_]) (C := [_]) S40 Z3 N3 ⟨(.r rfl), trivial⟩ rfl rfl rfl rfl ⟨_, [_], [_], rfl, rfl, rfl, rfl, rfl⟩ fun b29 => VO.gT rfl rfl (congrArg Value.bool hg14_10) rfl<|HO.bs (ps := [(_,_), (_,_)]) (vs := [(_,_), (_,_)]) (Z := [_,_]) (C := [_,_]) S41 Z40 N40 ⟨(.r rfl), (.r rfl), trivial⟩ rfl rfl rfl rfl ⟨_, [_], [_,_], rfl, rfl, rfl, rfl, ⟨_, [_], [_,_], rfl, rfl, rfl, rfl, rfl⟩⟩ fun b30 => VO.gT rfl rfl (congrArg Value.bool hg14_10) rfl<|HO.lo (LO.call (xs := [_,_]) (vs := [_,_]) C26 ⟨(.g (by rw [hg14_10]; rfl) rfl), (.r rfl), trivial⟩ (fun w2 hw => lists_c [⟨yt.p1, yt.c1, [-1]⟩, ⟨yt.p2, yt.c2, [0]⟩] [⟨some ⟨b28,0, none⟩, 1, [-1]⟩, ⟨some ⟨b29,0, none⟩, 1, [0]⟩] yt.p yt.c (some ⟨b30,0, none⟩) 2 w2 (RR.of_own hw 7 8 rfl rfl) (rr_lit2 (ints_lit [-1] (cells_inv (hw.inv 2 _ rfl))) (ints_lit [0] (cells_inv (hw.inv 1 _ rfl))) (cells_inv (hw.inv 0 _ rfl))) (show 2 ≤ 1000000 by decide) (two_rows rfl rfl)))<|VO.gT rfl rfl (congrArg Value.bool hg14_10) rfl<|HO.lo (LO.not (.r rfl))<|VO.h rfl<|HO.lo (LO.pkF (.r rfl) hg14_10 (.r rfl))<|VO.h rfl<|HO.lo (LO.mv (.r rfl))<|VO.lg rfl rfl (GD.f _) (fun hg => LO.mv (.r rfl)) rfl<|VO.lg rfl rfl (GD.f _) (fun hg => LO.len S46 (.g hg rfl) rfl) rfl<|VO.lg rfl rfl (GD.f _) (fun hg => LO.ne (.g hg rfl) (.r rfl)) rfl<|VO.h rfl<|HO.lo (LO.pkO (.r rfl) (.r rfl) rfl rfl)<|VO.h rfl<|HO.lo (LO.mv (.r rfl))<|VO.lg rfl rfl (GD.f _) (fun hg => LO.mv (.r rfl)) rfl<|VO.lg rfl rfl (GD.f _) (fun hg => LO.ixo S46 N81 (fun _ hw => (own_rows hw 4 rfl).some (by rfl)) (.g hg rfl) (.r rfl) (j := 0) rfl Nat.zero_lt_one) rfl<|VO.lg rfl rfl (GD.f _) (fun hg => LO.fa F81_0 (.g hg rfl) rfl) rfl<|VO.lg rfl rfl (GD.f _) (fun hg => LO.ld O3 (.g hg rfl) (fun w hw => cells_part (off := 0) (own_cell hw 4 rfl (show [ye.e][0]? = some ye.e from rfl)) ⟨_, rfl⟩)) rfl<|VO.lg rfl rfl (GD.f _) (fun hg => LO.ne (.g hg rfl) (.r rfl)) rfl<|VO.h rfl<|HO.lo (LO.pkO (.r rfl) (.r rfl) rfl rfl)<|VO.h rfl<|HO.lo (LO.mv (.r rfl))<|VO.lg rfl rfl (GD.f _) (fun hg => LO.mv (.r rfl)) rfl<|VO.lg rfl rfl (GD.f _) (fun hg => LO.len S53 (.g hg rfl) rfl) rfl<|VO.lg rfl rfl (GD.f _) (fun hg => LO.ne (.g hg rfl) (.r rfl)) rfl<|VO.h rfl<|HO.lo (LO.pkO (.r rfl) (.r rfl) rfl rfl)<|VO.h rfl<|HO.lo (LO.mv (.r rfl))<|VO.lg rfl rfl (GD.f _) (fun hg => LO.mv (.r rfl)) rfl<|VO.lg rfl rfl (GD.f _) (fun hg => LO.ixo S53 N85 (fun _ hw => (own_rows hw 3 rfl).some (by rfl)) (.g hg rfl) (.r rfl) (j := 3) rfl (by decide)) rfl<|VO.lg rfl rfl (GD.f _) (fun hg => LO.lda (vs := [_,_]) A85 (.g hg rfl) (fun w hw => cells_part (off := 0) (own_cell hw 3 rfl (show xMv[3]? = some _ from rfl)) ⟨_, rfl⟩) rfl) rfl<|VO.lg rfl rfl (GD.f _) (fun hg => LO.bd (ps := [(_,_)]) (vs := [(_,_)]) (C := [_,_]) B85  ⟨(.r rfl), trivial⟩ rfl ⟨_, [_], [_,_], rfl, rfl, rfl, rfl, rfl⟩) rfl<|VO.lg rfl rfl (GD.f _) (fun hg => LO.neA («as» := [_,_]) (bs := [_,_]) EA85 (.g hg rfl) (.g hg rfl) rfl rfl) rfl<|VO.h rfl<|HO.lo (LO.pkO (.r rfl) (.r rfl) rfl rfl)<|VO.h rfl<|HO.lo (LO.mv (.r rfl))<|VO.lg rfl rfl (GD.f _) (fun hg => LO.mv (.r rfl)) rfl<|VO.lg rfl rfl (GD.f _) (fun hg => LO.ixo S53 N85 (fun _ hw => (own_rows hw 3 rfl).some (by rfl)) (.g hg rfl) (.r rfl) (j := 4) rfl (by decide)) rfl<|VO.lg rfl rfl (GD.f _) (fun hg => LO.lda (vs := [_,_]) A85 (.g hg rfl) (fun w hw => cells_part (off := 0) (own_cell hw 3 rfl (show xMv[4]? = some _ from rfl)) ⟨_, rfl⟩) rfl) rfl<|VO.lg rfl rfl (GD.f _) (fun hg => LO.bd (ps := [(_,_)]) (vs := [(_,_)]) (C := [_,_]) B85  ⟨(.r rfl), trivial⟩ rfl ⟨_, [_], [_,_], rfl, rfl, rfl, rfl, rfl⟩) rfl<|VO.lg rfl rfl (GD.f _) (fun hg => LO.neA («as» := [_,_]) (bs := [_,_]) EA85 (.g hg rfl) (.g hg rfl) rfl rfl) rfl<|VO.h rfl<|HO.lo (LO.pkO (.r rfl) (.r rfl) rfl rfl)<|VO.nil ?_))
      refine VE.seqN ?_
      refine VC.cond rfl (fun h185 => ?_) (fun h185 => ?_)
      ·
        (exfalso; rcases h185 with ((((z | z) | z) | z) | z) | z <;> exact z rfl)
      ·
        refine VC.skip (VE.seqN ?_)
        refine VC.seq ?_
        refine VC.perm [] rfl ?_
        show VC _ _ _ _ _ _ [] _ _
        refine VC.reg (VO.l (LO.fa (r := 0) F26_0 (.r rfl) rfl) rfl<|VO.l (LO.lda (vs := [_,_,_,_,_]) A23 (.r rfl) (cells_keep (sub_cells (off := 0) hf1 ⟨_, rfl⟩)) rfl) rfl<|VO.h rfl<|HO.callx (xs := [_,_,_]) (vs := [_,_,_]) C47 ⟨(.r rfl), (.r rfl), (.r rfl), trivial⟩ (fun w2 hw => NewBook_ok xG 5 1 w2 xBook) fun yb _ => VO.h rfl<|HO.lo (LO.mv (.r rfl))<|VO.h rfl<|HO.lo (LO.ex (.r rfl) rfl)<|VO.h rfl<|HO.lo (LO.ex (.r rfl) rfl)<|VO.h rfl<|HO.lo (LO.as (.r rfl))<|VO.h rfl<|HO.lo (LO.as (.r rfl))<|VO.nil ?_)
        refine VE.seqN ?_
        refine VC.seq ?_
        refine VC.seq ?_
        refine VC.reg (VO.l (LO.mv (.r rfl)) rfl<|VO.l (LO.ne (.r rfl) (.r rfl)) rfl<|VO.nil ?_)
        refine VE.seqN ?_
        refine VC.cond rfl (fun h193 => ?_) (fun h193 => ?_)
        ·
          (exfalso; exact absurd h193 (by decide))
        ·
          refine VC.skip (VE.seqN ?_)
          refine VC.seq ?_
          refine VC.res (fun w hw => St.bagD (Rs := []) (St.bagD (Rs := []) ((St.bagD (Rs := []) ((hw.ownNil 109 6)) ).ownNil 154 7))) ?_
          refine VC.reg (VO.l (LO.mv (.r rfl)) rfl<|VO.l (LO.lda (vs := [_,_,_,_,_,_]) A26 (.r rfl) (cells_keep (sub_cells (off := 0) hf1 ⟨_, rfl⟩)) rfl) rfl<|VO.h rfl<|HO.callP (first := []) (cap := []) (xs := [_,_,_]) (vs := [_,_,_]) [_,_,_,_,_,_,_] [] (selK (L1 := [_,_,_,_,_,_,_] ++ []) [5,4,3,6,2,0,1] rfl rfl) (.r rfl) C48 ⟨(.r rfl), (.r rfl), (.r rfl), trivial⟩ (fun w2 hw hh => Add_0 yb.1 (xBk yb.2) (-1) none 0 none 0 (fun _ => 0) [] (fun _ => none) 10 xF f1.p f1.c w2 hh (fun hs => hsF.keep _ (St.fz (R := bkF yb.1 (xBk yb.2) (-1) none 0 [] none 0 (fun _ => 0) [] (fun _ => none)) (rest := []) (selK (L1 := [_,_,_,_,_,_,_]) [5,4,3,6,2,0,1] rfl rfl _ hw) hs)) (xAdd0 _) (show (1 : Int) ≤ 5 ∧ (5 : Int) ≤ 1073741824 by decide) (by decide)) fun ad had => VO.h rfl<|HO.lo (LO.mv (.r rfl))<|VO.h rfl<|HO.lo (LO.ex (.r rfl) rfl)<|VO.h rfl<|HO.lo (LO.ex (.r rfl) rfl)<|VO.h rfl<|HO.lo (LO.as (.r rfl))<|VO.nil ?_)
          have hadn : ad.yN.l.length = 1 := by rw [← ar_len had.1]; exact xNf
          have hadl : ad.tk.length ≤ 800000 := by have z := had.2.2; rw [hadn] at z; exact Nat.le_trans z (by decide)
          refine VE.seqN ?_
          refine VC.seq ?_
          refine VC.reg (VO.l (LO.mv (.r rfl)) rfl<|VO.l (LO.lda (vs := [_,_,_,_,_,_]) A26 (.r rfl) (cells_keep (sub_cells (off := 0) hf2 ⟨_, rfl⟩)) rfl) rfl<|VO.h rfl<|HO.callP (first := []) (cap := []) (xs := [_,_,_]) (vs := [_,_,_]) [_,_,_,_,_,_,_] [_,_,_,_,_,_,_,_] (selK (L1 := [_,_,_,_,_,_,_] ++ [_,_,_,_,_,_,_,_]) [0,1,2,3,4,5,6,7,8,9,10,11,12,13,14] rfl rfl) (.r rfl) C48 ⟨(.r rfl), (.r rfl), (.r rfl), trivial⟩ (fun w2 hw hh => Add_1 yb.1 (xBk yb.2) 10 ad.pm ad.cm [ad.yN] ad.pt ad.ct (fun _ => 0) ad.tk ad.of 20 xH f2.p f2.c w2 hh (fun hs => hsH.keep _ (St.fz (R := bkF yb.1 (xBk yb.2) 10 ad.pm ad.cm [ad.yN] ad.pt ad.ct (fun _ => 0) ad.tk ad.of) (rest := [_,_,_,_,_,_,_,_]) (selK (L1 := [_,_,_,_,_,_,_,_,_,_,_,_,_,_,_]) [0,1,2,3,4,5,6,7,8,9,10,11,12,13,14] rfl rfl _ hw) hs)) (xAdd1 _) (show (1 : Int) ≤ 5 ∧ (5 : Int) ≤ 1073741824 by decide) hadl 0 1 rfl (show 1 ≤ 48 by decide) ad.yN rfl xF had.1 (fun hs => SpI.of_res (St.rightOf (St.fz (R := bkF yb.1 (xBk yb.2) 10 ad.pm ad.cm [ad.yN] ad.pt ad.ct (fun _ => 0) ad.tk ad.of) (rest := [_,_,_,_,_,_,_,_]) (selK (L1 := [_,_,_,_,_,_,_,_,_,_,_,_,_,_,_]) [0,1,2,3,4,5,6,7,8,9,10,11,12,13,14] rfl rfl _ hw) hs)) had.1 0 1 3 7 rfl rfl rfl rfl) [[]] [ad.yN.l.length] (book0 had.2.1) rfl rfl rfl (by decide) (fun _ => by decide)) fun ae hae => VO.h rfl<|HO.lo (LO.mv (.r rfl))<|VO.h rfl<|HO.lo (LO.ex (.r rfl) rfl)<|VO.h rfl<|HO.lo (LO.ex (.r rfl) rfl)<|VO.h rfl<|HO.lo (LO.as (.r rfl))<|VO.nil ?_)
          have haen : ae.yN.l.length = 1 := by rw [← ar_len hae.ar]; exact xNh
          have hes : ae.ev.l.map EvR.m = [⟨4, [0], [0]⟩] := by have z := hae.ev; rw [hadn, haen] at z; exact xEv z
          have hkd := hae.kd
          rw [hes] at hkd
          have hb0 := had.2.1
          rw [hadn] at hb0
          have hb1 := hae.trk
          rw [hes, haen] at hb1
          obtain ⟨htkm, hks⟩ := exB1 hb0 hb1
          refine VE.seqN ?_
          refine VC.seq ?_
          refine VC.reg (VO.l (LO.mv (.r rfl)) rfl<|VO.l (LO.lda (vs := [_,_,_,_,_,_]) A26 (.r rfl) (cells_keep (sub_cells (off := 0) hf2 ⟨_, rfl⟩)) rfl) rfl<|VO.l (LO.call (xs := [_,_,_]) (vs := [_,_,_]) C48 ⟨(.r rfl), (.r rfl), (.r rfl), trivial⟩ (fun w2 hw => xLate_c yb.1 yb.2 _ _ _ _ _ f2.p f2.c w2 (cells_inv (hw.inv 0 _ rfl)) (hsH.keep w2 hw))) rfl<|VO.l (LO.mv (.r rfl)) rfl<|VO.l (LO.ex (.r rfl) rfl) rfl<|VO.l (LO.ex (.r rfl) rfl) rfl<|VO.l (LO.as (.r rfl)) rfl<|VO.nil ?_)
          refine VE.seqN ?_
          refine VC.seq ?_
          refine VC.reg (VO.l (LO.mv (.r rfl)) rfl<|VO.h rfl<|HO.callx (xs := [_]) (vs := [_]) C49 ⟨(.r rfl), trivial⟩ (fun w2 hw => xTracks_c yb.1 _ _ _ _ _ _ ae.tk w2 (cells_inv (hw.inv 0 _ rfl)) (RO.of_own hw 1 rfl) (fun t ht => ⟨(RO.of_bag (E := 3) (z := 1) (P := TkR.ap) (C := TkR.ac) (X := TkR.ar) (f := nC) hw 2 rfl ht), (RO.of_bag (E := 3) (z := 1) (P := TkR.pp) (C := TkR.pc) (X := TkR.pa) (f := nC) hw 5 rfl ht), (RO.of_bag (E := 3) (z := 1) (P := TkR.cp) (C := TkR.cc) (X := TkR.ch) (f := nC) hw 6 rfl ht)⟩) htkm) fun yk _ => VO.l (LO.as (.r rfl)) rfl<|VO.nil ?_)
          refine VE.seqN ?_
          refine VC.seq ?_
          refine VC.reg (VO.l (LO.mv (.r rfl)) rfl<|VO.l (LO.eq (.r rfl) (.r rfl)) rfl<|VO.l (LO.mv (.r rfl)) rfl<|VO.lg rfl rfl (GD.t _) (fun hg => LO.mv (.r rfl)) rfl<|VO.lg rfl rfl (GD.t _) (fun hg => LO.eq (.g hg rfl) (.r rfl)) rfl<|VO.l (LO.pkA (.r rfl) rfl rfl (.r rfl)) rfl<|VO.l (LO.mv (.r rfl)) rfl<|VO.lg rfl rfl (GD.t _) (fun hg => LO.mv (.r rfl)) rfl<|VO.lg rfl rfl (GD.t _) (fun hg => LO.eq (.g hg rfl) (.r rfl)) rfl<|VO.l (LO.pkA (.r rfl) rfl rfl (.r rfl)) rfl<|VO.l (LO.mv (.r rfl)) rfl<|VO.lg rfl rfl (GD.t _) (fun hg => LO.mv (.r rfl)) rfl<|VO.lg rfl rfl (GD.t _) (fun hg => LO.len S102 (.g hg rfl) rfl) rfl<|VO.lg rfl rfl (GD.t _) (fun hg => LO.eq (.g hg rfl) (.r rfl)) rfl<|VO.l (LO.pkA (.r rfl) rfl rfl (.r rfl)) rfl<|VO.l (LO.mv (.r rfl)) rfl<|VO.lg rfl rfl (GD.t _) (fun hg => LO.mv (.r rfl)) rfl<|VO.lg rfl rfl (GD.t _) (fun hg => LO.ixo S102 N109 (fun _ hw => (own_rows hw 0 rfl).some (by rfl)) (.g hg rfl) (.r rfl) (j := 0) rfl Nat.zero_lt_one) rfl<|VO.lg rfl rfl (GD.t _) (fun hg => LO.fa F109_0 (.g hg rfl) rfl) rfl<|VO.lg rfl rfl (GD.t _) (fun hg => LO.ld O3 (.g hg rfl) (fun w hw => cells_part (off := 0) (own_cell hw 0 rfl (show [yk.t][0]? = some yk.t from rfl)) ⟨_, rfl⟩)) rfl<|VO.lg rfl rfl (GD.t _) (fun hg => LO.eq (.g hg rfl) (.r rfl)) rfl<|VO.l (LO.pkA (.r rfl) rfl rfl (.r rfl)) rfl<|VO.l (LO.mv (.r rfl)) rfl<|VO.lg rfl rfl (GD.t _) (fun hg => LO.mv (.r rfl)) rfl<|VO.lg rfl rfl (GD.t _) (fun hg => LO.ixo S102 N109 (fun _ hw => (own_rows hw 0 rfl).some (by rfl)) (.g hg rfl) (.r rfl) (j := 0) rfl Nat.zero_lt_one) rfl<|VO.lg rfl rfl (GD.t _) (fun hg => LO.fa F109_3 (.g hg rfl) rfl) rfl<|VO.lg rfl rfl (GD.t _) (fun hg => LO.ld O3 (.g hg rfl) (fun w hw => cells_part (off := 3) (own_cell hw 0 rfl (show [yk.t][0]? = some yk.t from rfl)) ⟨_, rfl⟩)) rfl<|VO.lg rfl rfl (GD.t _) (fun hg => LO.eq (.g hg rfl) (.r rfl)) rfl<|VO.l (LO.pkA (.r rfl) rfl rfl (.r rfl)) rfl<|VO.l (LO.mv (.r rfl)) rfl<|VO.lg rfl rfl (GD.t _) (fun hg => LO.mv (.r rfl)) rfl<|VO.lg rfl rfl (GD.t _) (fun hg => LO.ixo S102 N109 (fun _ hw => (own_rows hw 0 rfl).some (by rfl)) (.g hg rfl) (.r rfl) (j := 0) rfl Nat.zero_lt_one) rfl<|VO.lg rfl rfl (GD.t _) (fun hg => LO.fa F109_2 (.g hg rfl) rfl) rfl<|VO.lg rfl rfl (GD.t _) (fun hg => LO.ld O40 (.g hg rfl) (fun w hw => cells_part (off := 2) (own_cell hw 0 rfl (show [yk.t][0]? = some yk.t from rfl)) ⟨_, rfl⟩)) rfl<|VO.bc (x := 243) rfl (fun hg23_29 => VO.gT rfl rfl (congrArg Value.bool hg23_29) rfl<|HO.bs (ps := [(_,_), (_,_)]) (vs := [(_,_), (_,_)]) (Z := [_,_]) (C := [_,_]) S40 Z3 N3 ⟨(.r rfl), (.r rfl), trivial⟩ rfl rfl rfl rfl ⟨_, [_], [_,_], rfl, rfl, rfl, rfl, ⟨_, [_], [_,_], rfl, rfl, rfl, rfl, rfl⟩⟩ fun b75 => VO.gT rfl rfl (congrArg Value.bool hg23_29) rfl<|HO.lo (LO.call (xs := [_,_]) (vs := [_,_]) C40 ⟨(.g hg23_29 rfl), (.r rfl), trivial⟩ (fun w2 hw => numbers_c [0,0] [0,0] yk.ap yk.ac (some ⟨b75,0, none⟩) 2 w2 (ints_nat (RO.of_bag (E := 3) (z := 1) (P := TkR.ap) (C := TkR.ac) (X := TkR.ar) (f := nC) (x := yk.t) hw 2 rfl (List.mem_singleton.2 rfl))) (ints_lit [0,0] (cells_inv (hw.inv 0 _ rfl))) (by decide)))<|VO.h rfl<|HO.lo (LO.pkT (.r rfl) hg23_29 (.r rfl))<|VO.h rfl<|HO.lo (LO.mv (.r rfl))<|VO.lg rfl rfl (GD.t _) (fun hg => LO.mv (.r rfl)) rfl<|VO.lg rfl rfl (GD.t _) (fun hg => LO.call (xs := [_]) (vs := [_]) C50 ⟨(.g hg rfl), trivial⟩ (fun w2 hw => xTally_c yb.1 yb.2 _ _ _ ([ad.yN] ++ [ae.yN]) _ _ _ ae.tk ae.of w2 (cells_inv (hw.inv 5 _ rfl)) (hw.inv 8 _ rfl) rfl htkm hks hkd)) rfl<|VO.lg rfl rfl (GD.t _) (fun hg => LO.bd (ps := [(_,_), (_,_), (_,_), (_,_)]) (vs := [(_,_), (_,_), (_,_), (_,_)]) (C := [_,_,_,_,_,_,_,_,_]) B105  ⟨(.r rfl), (.r rfl), (.r rfl), (.r rfl), trivial⟩ rfl ⟨_, [_], [_,_,_,_,_,_,_,_,_], rfl, rfl, rfl, rfl, ⟨_, [_], [_,_,_,_,_,_,_,_,_], rfl, rfl, rfl, rfl, ⟨_, [_], [_,_,_,_,_,_,_,_,_], rfl, rfl, rfl, rfl, ⟨_, [_], [_,_,_,_,_,_,_,_,_], rfl, rfl, rfl, rfl, rfl⟩⟩⟩⟩) rfl<|VO.lg rfl rfl (GD.t _) (fun hg => LO.eqA («as» := [_,_,_,_,_,_,_,_,_]) (bs := [_,_,_,_,_,_,_,_,_]) EA105 (.g hg rfl) (.g hg rfl) rfl rfl) rfl<|VO.h rfl<|HO.lo (LO.pkA (.r rfl) rfl rfl (.r rfl))<|VO.h rfl<|HO.lo (LO.as (.r rfl))<|VO.nil ?_) (fun hg23_29 => (by exfalso; exact absurd (hg23_29.symm.trans (show _ = true from rfl)) (by decide))))
          refine VE.seqN ?_
          refine VC.ret (VE.res (vs := [_]) rfl ⟨rfl, trivial⟩ (fun w hw => ?_))
          exact ⟨rfl, (hst1.call (hst2.call hw)).nil⟩

end Go.Proofs.Ytgemekpofpoopaa

namespace Go.Proofs.Ytgemekpofpoopaa
open Go.SL Go.Proofs Go.Cast Go.Cell
set_option linter.unusedVariables false

theorem C16 : IsFn Try.prog 16 := ⟨_, Try.func16, by decide, rfl⟩
theorem C51 : IsFn Try.prog 51 := ⟨_, Try.func51, by decide, rfl⟩
theorem C52 : IsFn Try.prog 52 := ⟨_, Try.func52, by decide, rfl⟩
theorem C53 : IsFn Try.prog 53 := ⟨_, Try.func53, by decide, rfl⟩
end Go.Proofs.Ytgemekpofpoopaa

namespace Go.Proofs.Ytgemekpofpoopaa
open Go.SL Go.Proofs Go.Cast Go.Cell
set_option linter.unusedVariables false

theorem F63_0 : FieldAt Try.prog 63 0 0 := ⟨_,_, Try.underlying63, rfl, rfl, 0, by kernel_rfl⟩
theorem O5 : IsOne Try.prog 5 := ⟨⟨_, Try.underlying5, rfl⟩, by kernel_rfl⟩
theorem F63_1 : FieldAt Try.prog 63 1 1 := ⟨_,_, Try.underlying63, rfl, rfl, 0, by kernel_rfl⟩
theorem F63_2 : FieldAt Try.prog 63 2 2 := ⟨_,_, Try.underlying63, rfl, rfl, 0, by kernel_rfl⟩
theorem O61 : IsOne Try.prog 61 := ⟨⟨_, Try.underlying61, rfl⟩, by kernel_rfl⟩
theorem S61 : IsSlice Try.prog 61 5 := Try.underlying61
theorem N5 : (Try.prog.info? 5).map (·.size) = some 1 := by kernel_rfl
theorem F63_3 : FieldAt Try.prog 63 3 3 := ⟨_,_, Try.underlying63, rfl, rfl, 0, by kernel_rfl⟩


abbrev uC (n : Nat) : List Value := [.int .u8 (n : Int)]
structure MapA where
  w : Nat
  h : Nat
  pl : Option Addr
  cl : Nat
  lo : List Nat
  pm : Option Addr
  cm : Nat
  mo : List Nat
abbrev MapA.V (x : MapA) : Value := .agg #[.int .u8 (x.w : Int), .int .u8 (x.h : Int), .slice x.pl x.lo.length x.cl, .slice x.pm x.mo.length x.cm]
structure MapI (w : World) (x : MapA) : Prop where
  lo : RO 1 uC w x.pl x.lo
  mo : RO 1 uC w x.pm x.mo
structure MapK (x : MapA) : Prop where
  w : x.w ≤ 255
  h : x.h ≤ 255
  lo : ∀ n, n ∈ x.lo → n ≤ 255
  mo : ∀ n, n ∈ x.mo → n ≤ 255
  ll : x.lo.length ≤ 9223372036854775807
  ml : x.mo.length ≤ 9223372036854775807
theorem MapI.keep {w0 : World} {x : MapA} (h : MapI w0 x) : ∀ {L : List Res} (w : World), St (bs w0) L w → MapI w x := fun w hw => ⟨h.lo.keep w hw, h.mo.keep w hw⟩
def vAt (l : List Nat) (m i : Nat) : Nat := if 0 < l.length then l.getD (i % l.length) 0 % m else 0
def mapW (x : MapA) : Nat := 1 + x.w % 6
def mapH (x : MapA) : Nat := 1 + x.h % 6
abbrev mapG (x : MapA) : Grid := ⟨0,0,1000, (mapW x : Int), (mapH x : Int)⟩
def mapAt (x : MapA) (i : Nat) : Span := ⟨((vAt x.lo 40 i : Nat) : Int), ((vAt x.lo 40 i : Nat) : Int) + ((vAt x.mo 30 i : Nat) : Int)⟩
def mapTo (x : MapA) (k : Nat) : List Span := (List.range k).map (mapAt x)
def mapVs (x : MapA) : List Span := mapTo x (mapW x * mapH x)
theorem mapTo_succ {x : MapA} {k : Nat} : mapTo x (k + 1) = mapTo x k ++ [mapAt x k] := by unfold mapTo; rw [List.range_succ, List.map_append]; rfl
theorem mapTo_len {x : MapA} {k : Nat} : (mapTo x k).length = k := by unfold mapTo; simp
theorem map_wh (x : MapA) : 1 ≤ mapW x ∧ mapW x ≤ 6 ∧ 1 ≤ mapH x ∧ mapH x ≤ 6 := by unfold mapW mapH; omega
theorem map_area (x : MapA) : mapW x * mapH x ≤ 36 := by obtain ⟨_, h1,_, h2⟩ := map_wh x; exact Nat.mul_le_mul h1 h2
theorem mod_i {n m : Nat} : ((n : Int)).tmod (m : Int) = ((n % m : Nat) : Int) := rfl
theorem vAt_t {l : List Nat} {m i n : Nat} (hn : l[i % l.length]? = some n) : vAt l m i = n % m := by
  have h : 0 < l.length := by have := (List.getElem?_eq_some_iff.1 hn).1; omega
  unfold vAt; rw [if_pos h, List.getD_eq_getElem?_getD, hn]; rfl
theorem vAt_f {l : List Nat} {m i : Nat} (h : ¬ (0 : Int) < (l.length : Int)) : vAt l m i = 0 := by unfold vAt; rw [if_neg (by omega)]
theorem map_eq {x : MapA} {k : Nat} {ml : List Span} {s : Span} (h : ml = mapTo x k) (e : s = mapAt x k) : ml ++ [s] = mapTo x (k + 1) := by rw [h, e, mapTo_succ]
theorem cv8 {n : Nat} (h : n ≤ 255) : IntKind.wrap .i64 ((n : Nat) : Int) = ((n : Nat) : Int) := wi (by omega) (by omega)

set_option maxRecDepth 20000 in
set_option maxHeartbeats 8000000 in
theorem field_c (x : MapA) (w : World) (hx : MapI w x) (hk : MapK x) :
  Calls Try.prog 33 #[x.V] w fun e w' => ∃ y : SlY, True ∧ e = .returned (fieldV (mapG x) y.p (mapVs x).length y.c) ∧ St (bs w) [own 71 2 y.p y.c ((mapVs x).map Span.cells)] w' := by
  obtain ⟨hw1, hw2, hh1, hh2⟩ := map_wh x
  have har := map_area x
  have hkw := hk.w
  have hkh := hk.h
  have hll := hk.ll
  have hml := hk.ml
  refine enter (vs := [_]) (env := [(0,_)]) Try.func33 rfl rfl rfl rfl ?_
  refine VC.seq ?_
  refine VC.reg (VO.h rfl<|HO.box (C := #[_,_,_,_]) rfl rfl fun b1 => VO.h rfl<|HO.alloc (C := #[_,_,_,_,_,_]) Z26 rfl fun b2 => VO.nil ?_)
  refine VE.seqN ?_
  refine VC.seq ?_
  refine VC.reg (VO.l (LO.fa (r := 0) F63_0 (.r rfl) rfl) rfl<|VO.l (LO.ld O5 (.r rfl) (fun _ hw => cells_at hw 1 rfl ⟨_, rfl⟩)) rfl<|VO.l (LO.cv ⟨_, Try.underlying5⟩ Try.underlying3 (.r rfl) (cv8 hkw)) rfl<|VO.l (LO.eqv (LO.rem (.r rfl) (.r rfl) (by omega)) (congrArg (Value.int .i64) (mod_i (m := 6)))) rfl<|VO.l (LO.eqv (LO.add (.r rfl) (.r rfl) (wi (by omega) (by omega))) (congrArg (Value.int .i64) (show (1 : Int) + ((x.w % 6 : Nat) : Int) = ((mapW x : Nat) : Int) by unfold mapW; push_cast; rfl))) rfl<|VO.l (LO.fa (r := 1) F63_1 (.r rfl) rfl) rfl<|VO.l (LO.ld O5 (.r rfl) (fun _ hw => cells_at hw 1 rfl ⟨_, rfl⟩)) rfl<|VO.l (LO.cv ⟨_, Try.underlying5⟩ Try.underlying3 (.r rfl) (cv8 hkh)) rfl<|VO.l (LO.eqv (LO.rem (.r rfl) (.r rfl) (by omega)) (congrArg (Value.int .i64) (mod_i (m := 6)))) rfl<|VO.l (LO.eqv (LO.add (.r rfl) (.r rfl) (wi (by omega) (by omega))) (congrArg (Value.int .i64) (show (1 : Int) + ((x.h % 6 : Nat) : Int) = ((mapH x : Nat) : Int) by unfold mapH; push_cast; rfl))) rfl<|VO.l (LO.bd (ps := [(_,_), (_,_), (_,_)]) (vs := [(_,_), (_,_), (_,_)]) (C := [_,_,_,_,_]) B23  ⟨(.r rfl), (.r rfl), (.r rfl), trivial⟩ rfl ⟨_, [_], [_,_,_,_,_], rfl, rfl, rfl, rfl, ⟨_, [_], [_,_,_,_,_], rfl, rfl, rfl, rfl, ⟨_, [_], [_,_,_,_,_], rfl, rfl, rfl, rfl, rfl⟩⟩⟩) rfl<|VO.l (LO.bd (ps := [(_,_)]) (vs := [(_,_)]) (C := [_,_,_,_,_,_]) B26  ⟨(.r rfl), trivial⟩ rfl ⟨_, [_,_,_,_,_], [_,_,_,_,_,_], rfl, rfl, rfl, rfl, rfl⟩) rfl<|VO.h rfl<|HO.alloc (C := #[_,_,_,_,_,_]) Z26 rfl fun b3 => VO.h0<|HO.st 0 (vs := [_,_,_,_,_,_]) (C' := [_,_,_,_,_,_]) (L' := [_,_,_]) N26 rfl rfl rfl rfl rfl rfl rfl rfl<|VO.nil ?_)
  refine VE.seqN ?_
  refine VC.seq ?_
  refine VC.seq ?_
  refine VC.reg (VO.l (LO.fa (r := 0) F26_0 (.r rfl) rfl) rfl<|VO.l (LO.fa (r := 3) F23_3 (.r rfl) rfl) rfl<|VO.l (LO.ld O3 (.r rfl) (fun _ hw => cells_at hw 0 rfl ⟨_, rfl⟩)) rfl<|VO.l (LO.fa (r := 0) F26_0 (.r rfl) rfl) rfl<|VO.l (LO.fa (r := 4) F23_4 (.r rfl) rfl) rfl<|VO.l (LO.ld O3 (.r rfl) (fun _ hw => cells_at hw 0 rfl ⟨_, rfl⟩)) rfl<|VO.l (LO.eqv (LO.mul (.r rfl) (.r rfl) (wi (by rw [← Int.natCast_mul]; omega) (by rw [← Int.natCast_mul]; omega))) (congrArg (Value.int .i64) (Int.natCast_mul _ _).symm)) rfl<|VO.l (LO.mv (.r rfl)) rfl<|VO.nil ?_)
  refine VE.seqN ?_
  refine VC.block ?_
  refine VC.loopK (α := Nat × (List Span) × (Option Addr) × Nat) 1 (fun gx => [(25, .int .i64 (gx.1 : Nat))]) [(1,_), (2,_), (3,_), (24,_)] (fun gx => [blk b3 (.cells #[.int .i64 0, .int .i64 0, .int .i64 1000, .int .i64 (mapW x : Int), .int .i64 (mapH x : Int), .slice gx.2.2.1 gx.2.1.length gx.2.2.2] 26), own 71 2 gx.2.2.1 gx.2.2.2 (gx.2.1.map Span.cells)]) (fun gx => gx.1 ≤ mapW x * mapH x ∧ gx.2.1 = mapTo x gx.1) (fun gx => mapW x * mapH x - gx.1) (0, [], none, 0) (by exact ⟨Nat.zero_le _, rfl⟩) (.cons rfl (.cons rfl (.cons rfl (.cons rfl (.cons rfl .nil))))) (fun _ h => ((h.ownNil 71 2)).sel [1,0,2,3] rfl) ?_
  rintro ⟨k, ml, po, co⟩ ⟨hkk, hm⟩
  show VC _ _ _ _ _ ([(25, .int .i64 (k : Nat))] ++ _) ([blk b3 (.cells #[.int .i64 0, .int .i64 0, .int .i64 1000, .int .i64 (mapW x : Int), .int .i64 (mapH x : Int), .slice po ml.length co] 26), own 71 2 po co (ml.map Span.cells)] ++ _) _ _
  dsimp only at hkk hm
  have hmll : ml.length = k := by rw [hm, mapTo_len]
  refine VC.seq ?_
  refine VC.reg (VO.l (LO.lt (.r rfl) (.r rfl)) rfl<|VO.nil ?_)
  refine VE.seqN ?_
  refine VC.seq ?_
  refine VC.cond rfl (fun h26 => ?_) (fun h26 => ?_)
  ·
    refine VC.skip (VE.seqN ?_)
    refine VC.seq ?_
    refine VC.block ?_
    refine VC.seq ?_
    refine VC.reg (VO.l (LO.mv (.r rfl)) rfl<|VO.l (LO.as (.r rfl)) rfl<|VO.nil ?_)
    refine VE.seqN ?_
    refine VC.seq ?_
    refine VC.reg (VO.l (LO.bd (ps := []) (vs := []) (C := [_,_]) B71  trivial rfl rfl) rfl<|VO.h rfl<|HO.alloc (C := #[_,_]) Z71 rfl fun b7 => VO.h0<|HO.st 0 (vs := [_,_]) (C' := [_,_]) (L' := [_,_,_,_,_]) N71 rfl rfl rfl rfl rfl rfl rfl rfl<|VO.nil ?_)
    refine VE.seqN ?_
    refine VC.seq ?_
    refine VC.seq ?_
    refine VC.reg (VO.l (LO.fa (r := 2) F63_2 (.r rfl) rfl) rfl<|VO.l (LO.ld O61 (.r rfl) (fun _ hw => cells_at hw 4 rfl ⟨_, rfl⟩)) rfl<|VO.l (LO.len S61 (.r rfl) rfl) rfl<|VO.l (LO.gt (.r rfl) (.r rfl)) rfl<|VO.nil ?_)
    refine VE.seqN ?_
    refine VC.cond rfl (fun h32 => ?_) (fun h32 => ?_)
    ·
      have hnl : k % x.lo.length < x.lo.length := Nat.mod_lt _ (by omega)
      obtain ⟨nl, hln⟩ := get_ex (l := x.lo) hnl
      have hnl2 := hk.lo nl (List.mem_of_getElem? hln)
      have hz := Int.natCast_nonneg (nl % 40)
      have hzz : nl % 40 < 40 := Nat.mod_lt _ (by omega)
      refine VC.drawH [[0,1,2,3,4], [1,2,3,4]] [some 0, some 0, some 0, some 0, some 0, some 0, some 0, some 0, some 0, some 0, some 0, some 0, none] mixed (by kernel_rfl) rfl (LX.l (fun _ hJ => LO.fa (r := 2) F63_2 (.r rfl) rfl) rfl<|LX.l (fun _ hJ => LO.ld O61 (.r rfl) (fun _ hw => cells_at (hJ _ hw) 4 rfl ⟨_, rfl⟩)) rfl<|LX.l (fun _ hJ => LO.mv (.r rfl)) rfl<|LX.l (fun _ hJ => LO.fa (r := 2) F63_2 (.r rfl) rfl) rfl<|LX.l (fun _ hJ => LO.ld O61 (.r rfl) (fun _ hw => cells_at (hJ _ hw) 4 rfl ⟨_, rfl⟩)) rfl<|LX.l (fun _ hJ => LO.len S61 (.r rfl) rfl) rfl<|LX.l (fun _ hJ => LO.eqv (LO.rem (.r rfl) (.r rfl) (by omega)) (congrArg (Value.int .i64) (mod_i (m := x.lo.length)))) rfl<|LX.l (fun _ hJ => LO.ixs S61 N5 (hx.lo.sm) (.r rfl) (.r rfl) rfl hnl) rfl<|LX.l (fun _ hJ => LO.ld O5 (.r rfl) (fun w hw => cells_part (off := 0) ((fun w3 h3 => RO.cel (hx.keep w3 h3).lo hln) w (hJ _ hw)) ⟨_, rfl⟩)) rfl<|LX.l (fun _ hJ => LO.cv ⟨_, Try.underlying5⟩ Try.underlying3 (.r rfl) (cv8 hnl2)) rfl<|LX.l (fun _ hJ => LO.eqv (LO.rem (.r rfl) (.r rfl) (by omega)) (congrArg (Value.int .i64) (mod_i (m := 40)))) rfl<|LX.l (fun _ hJ => LO.fa (r := 0) F71_0 (.r rfl) rfl) rfl<|LX.s<|LX.nil) (HX.s<|HX.s<|HX.s<|HX.s<|HX.s<|HX.s<|HX.s<|HX.s<|HX.s<|HX.s<|HX.s<|HX.s<|HX.h0<|HO.st 0 (vs := [_]) (C' := [_,_]) (L' := [_,_,_,_,_]) N3 rfl rfl rfl rfl rfl rfl rfl rfl<|⟨fun _ hw => hw.sel [1,2,3,4] rfl, HX.nil ?_⟩)
      refine VE.seqN ?_
      refine VC.seq ?_
      refine VC.reg (VO.l (LO.fa (r := 0) F71_0 (.r rfl) rfl) rfl<|VO.l (LO.ld O3 (.r rfl) (fun _ hw => cells_at hw 0 rfl ⟨_, rfl⟩)) rfl<|VO.l (LO.fa (r := 1) F71_1 (.r rfl) rfl) rfl<|VO.h0<|HO.st 0 (vs := [_]) (C' := [_,_]) (L' := [_,_,_,_,_]) N3 rfl rfl rfl rfl rfl rfl rfl rfl<|VO.nil ?_)
      refine VE.seqN ?_
      refine VC.seq ?_
      refine VC.seq ?_
      refine VC.reg (VO.l (LO.fa (r := 3) F63_3 (.r rfl) rfl) rfl<|VO.l (LO.ld O61 (.r rfl) (fun _ hw => cells_at hw 4 rfl ⟨_, rfl⟩)) rfl<|VO.l (LO.len S61 (.r rfl) rfl) rfl<|VO.l (LO.gt (.r rfl) (.r rfl)) rfl<|VO.nil ?_)
      refine VE.seqN ?_
      refine VC.cond rfl (fun h51 => ?_) (fun h51 => ?_)
      ·
        have hnm : k % x.mo.length < x.mo.length := Nat.mod_lt _ (by omega)
        obtain ⟨nm, hmn⟩ := get_ex (l := x.mo) hnm
        have hnm2 := hk.mo nm (List.mem_of_getElem? hmn)
        have hy : nm % 30 < 30 := Nat.mod_lt _ (by omega)
        refine VC.drawH [[0,1,2,3,4], [1,2,3,4]] [some 0, some 0, some 0, some 0, some 0, some 0, some 0, some 0, some 0, some 0, some 0, some 0, some 0, some 0, some 0, none] mixed (by kernel_rfl) rfl (LX.l (fun _ hJ => LO.fa (r := 1) F71_1 (.r rfl) rfl) rfl<|LX.l (fun _ hJ => LO.ld O3 (.r rfl) (fun _ hw => cells_at (hJ _ hw) 0 rfl ⟨_, rfl⟩)) rfl<|LX.l (fun _ hJ => LO.fa (r := 3) F63_3 (.r rfl) rfl) rfl<|LX.l (fun _ hJ => LO.ld O61 (.r rfl) (fun _ hw => cells_at (hJ _ hw) 4 rfl ⟨_, rfl⟩)) rfl<|LX.l (fun _ hJ => LO.mv (.r rfl)) rfl<|LX.l (fun _ hJ => LO.fa (r := 3) F63_3 (.r rfl) rfl) rfl<|LX.l (fun _ hJ => LO.ld O61 (.r rfl) (fun _ hw => cells_at (hJ _ hw) 4 rfl ⟨_, rfl⟩)) rfl<|LX.l (fun _ hJ => LO.len S61 (.r rfl) rfl) rfl<|LX.l (fun _ hJ => LO.eqv (LO.rem (.r rfl) (.r rfl) (by omega)) (congrArg (Value.int .i64) (mod_i (m := x.mo.length)))) rfl<|LX.l (fun _ hJ => LO.ixs S61 N5 (hx.mo.sm) (.r rfl) (.r rfl) rfl hnm) rfl<|LX.l (fun _ hJ => LO.ld O5 (.r rfl) (fun w hw => cells_part (off := 0) ((fun w3 h3 => RO.cel (hx.keep w3 h3).mo hmn) w (hJ _ hw)) ⟨_, rfl⟩)) rfl<|LX.l (fun _ hJ => LO.cv ⟨_, Try.underlying5⟩ Try.underlying3 (.r rfl) (cv8 hnm2)) rfl<|LX.l (fun _ hJ => LO.eqv (LO.rem (.r rfl) (.r rfl) (by omega)) (congrArg (Value.int .i64) (mod_i (m := 30)))) rfl<|LX.l (fun _ hJ => LO.add (.r rfl) (.r rfl) (wi (by omega) (by omega))) rfl<|LX.l (fun _ hJ => LO.fa (r := 1) F71_1 (.r rfl) rfl) rfl<|LX.s<|LX.nil) (HX.s<|HX.s<|HX.s<|HX.s<|HX.s<|HX.s<|HX.s<|HX.s<|HX.s<|HX.s<|HX.s<|HX.s<|HX.s<|HX.s<|HX.s<|HX.h0<|HO.st 0 (vs := [_]) (C' := [_,_]) (L' := [_,_,_,_,_]) N3 rfl rfl rfl rfl rfl rfl rfl rfl<|⟨fun _ hw => hw.sel [1,2,3,4] rfl, HX.nil ?_⟩)
        refine VE.seqN ?_
        refine VC.reg (VO.l (LO.fa (r := 5) F26_1 (.r rfl) rfl) rfl<|VO.l (LO.ld O24 (.r rfl) (fun _ hw => cells_at hw 1 rfl ⟨_, rfl⟩)) rfl<|VO.l (LO.lda (vs := [_,_]) A71 (.r rfl) (fun _ hw => cells_at hw 0 rfl ⟨_, rfl⟩) rfl) rfl<|VO.h rfl<|HO.bs (ps := [(_,_)]) (vs := [(_,_)]) (Z := [_,_]) (C := [_,_]) S24 Z71 N71 ⟨(.r rfl), trivial⟩ rfl rfl rfl rfl ⟨_, [_,_], [_,_], rfl, rfl, rfl, rfl, rfl⟩ fun b14 => VO.h rfl<|HO.appT ((⟨((nl % 40 : Nat) : Int), ((nl % 40 : Nat) : Int) + ((nm % 30 : Nat) : Int)⟩ : Span)) (f := Span.cells) 3 0 (fun R => [_,_,_, R,_,_]) S24 S24 I71 (.r rfl) (.r rfl) rfl rfl rfl rfl rfl rfl rfl (fun _ => rfl) rfl (by omega) fun p4 c4 => VO.l (LO.fa (r := 5) F26_1 (.r rfl) rfl) rfl<|VO.h0<|HO.st 2 (vs := [_]) (C' := [_,_,_,_,_,_]) (L' := [_,_,_,_,_,_]) N24 rfl rfl rfl rfl rfl rfl rfl rfl<|VO.nil ?_)
        refine VE.inN (VE.seqN ?_)
        refine VC.reg (VO.l (LO.add (.r rfl) (.r rfl) (wi (by omega) (by omega))) rfl<|VO.l (LO.mv (.r rfl)) rfl<|VO.nil ?_)
        refine VE.thenN fun a w ha hw => ⟨(k + 1, ml ++ [(⟨((nl % 40 : Nat) : Int), ((nl % 40 : Nat) : Int) + ((nm % 30 : Nat) : Int)⟩ : Span)], p4, c4), ⟨by dsimp only; omega, map_eq hm (by unfold mapAt; rw [vAt_t hln, vAt_t hmn]; all_goals (first | rfl | simp))⟩, (by dsimp only; omega), ha.sub (.cons rfl (.cons rfl (.cons rfl (.cons rfl (.cons rfl .nil))))), hw.sel [2,3,4,5] rfl⟩
      ·
        refine VC.skip (VE.seqN ?_)
        refine VC.reg (VO.l (LO.fa (r := 5) F26_1 (.r rfl) rfl) rfl<|VO.l (LO.ld O24 (.r rfl) (fun _ hw => cells_at hw 1 rfl ⟨_, rfl⟩)) rfl<|VO.l (LO.lda (vs := [_,_]) A71 (.r rfl) (fun _ hw => cells_at hw 0 rfl ⟨_, rfl⟩) rfl) rfl<|VO.h rfl<|HO.bs (ps := [(_,_)]) (vs := [(_,_)]) (Z := [_,_]) (C := [_,_]) S24 Z71 N71 ⟨(.r rfl), trivial⟩ rfl rfl rfl rfl ⟨_, [_,_], [_,_], rfl, rfl, rfl, rfl, rfl⟩ fun b16 => VO.h rfl<|HO.appT ((⟨((nl % 40 : Nat) : Int), ((nl % 40 : Nat) : Int)⟩ : Span)) (f := Span.cells) 3 0 (fun R => [_,_,_, R,_,_]) S24 S24 I71 (.r rfl) (.r rfl) rfl rfl rfl rfl rfl rfl rfl (fun _ => rfl) rfl (by omega) fun p4 c4 => VO.l (LO.fa (r := 5) F26_1 (.r rfl) rfl) rfl<|VO.h0<|HO.st 2 (vs := [_]) (C' := [_,_,_,_,_,_]) (L' := [_,_,_,_,_,_]) N24 rfl rfl rfl rfl rfl rfl rfl rfl<|VO.nil ?_)
        refine VE.inN (VE.seqN ?_)
        refine VC.reg (VO.l (LO.add (.r rfl) (.r rfl) (wi (by omega) (by omega))) rfl<|VO.l (LO.mv (.r rfl)) rfl<|VO.nil ?_)
        refine VE.thenN fun a w ha hw => ⟨(k + 1, ml ++ [(⟨((nl % 40 : Nat) : Int), ((nl % 40 : Nat) : Int)⟩ : Span)], p4, c4), ⟨by dsimp only; omega, map_eq hm (by unfold mapAt; rw [vAt_t hln, vAt_f h51]; all_goals (first | rfl | simp))⟩, (by dsimp only; omega), ha.sub (.cons rfl (.cons rfl (.cons rfl (.cons rfl (.cons rfl .nil))))), hw.sel [2,3,4,5] rfl⟩
    ·
      refine VC.skip (VE.seqN ?_)
      refine VC.seq ?_
      refine VC.reg (VO.l (LO.fa (r := 0) F71_0 (.r rfl) rfl) rfl<|VO.l (LO.ld O3 (.r rfl) (fun _ hw => cells_at hw 0 rfl ⟨_, rfl⟩)) rfl<|VO.l (LO.fa (r := 1) F71_1 (.r rfl) rfl) rfl<|VO.h0<|HO.st 0 (vs := [_]) (C' := [_,_]) (L' := [_,_,_,_,_]) N3 rfl rfl rfl rfl rfl rfl rfl rfl<|VO.nil ?_)
      refine VE.seqN ?_
      refine VC.seq ?_
      refine VC.seq ?_
      refine VC.reg (VO.l (LO.fa (r := 3) F63_3 (.r rfl) rfl) rfl<|VO.l (LO.ld O61 (.r rfl) (fun _ hw => cells_at hw 4 rfl ⟨_, rfl⟩)) rfl<|VO.l (LO.len S61 (.r rfl) rfl) rfl<|VO.l (LO.gt (.r rfl) (.r rfl)) rfl<|VO.nil ?_)
      refine VE.seqN ?_
      refine VC.cond rfl (fun h51 => ?_) (fun h51 => ?_)
      ·
        have hnm : k % x.mo.length < x.mo.length := Nat.mod_lt _ (by omega)
        obtain ⟨nm, hmn⟩ := get_ex (l := x.mo) hnm
        have hnm2 := hk.mo nm (List.mem_of_getElem? hmn)
        have hy : nm % 30 < 30 := Nat.mod_lt _ (by omega)
        refine VC.drawH [[0,1,2,3,4], [1,2,3,4]] [some 0, some 0, some 0, some 0, some 0, some 0, some 0, some 0, some 0, some 0, some 0, some 0, some 0, some 0, some 0, none] mixed (by kernel_rfl) rfl (LX.l (fun _ hJ => LO.fa (r := 1) F71_1 (.r rfl) rfl) rfl<|LX.l (fun _ hJ => LO.ld O3 (.r rfl) (fun _ hw => cells_at (hJ _ hw) 0 rfl ⟨_, rfl⟩)) rfl<|LX.l (fun _ hJ => LO.fa (r := 3) F63_3 (.r rfl) rfl) rfl<|LX.l (fun _ hJ => LO.ld O61 (.r rfl) (fun _ hw => cells_at (hJ _ hw) 4 rfl ⟨_, rfl⟩)) rfl<|LX.l (fun _ hJ => LO.mv (.r rfl)) rfl<|LX.l (fun _ hJ => LO.fa (r := 3) F63_3 (.r rfl) rfl) rfl<|LX.l (fun _ hJ => LO.ld O61 (.r rfl) (fun _ hw => cells_at (hJ _ hw) 4 rfl ⟨_, rfl⟩)) rfl<|LX.l (fun _ hJ => LO.len S61 (.r rfl) rfl) rfl<|LX.l (fun _ hJ => LO.eqv (LO.rem (.r rfl) (.r rfl) (by omega)) (congrArg (Value.int .i64) (mod_i (m := x.mo.length)))) rfl<|LX.l (fun _ hJ => LO.ixs S61 N5 (hx.mo.sm) (.r rfl) (.r rfl) rfl hnm) rfl<|LX.l (fun _ hJ => LO.ld O5 (.r rfl) (fun w hw => cells_part (off := 0) ((fun w3 h3 => RO.cel (hx.keep w3 h3).mo hmn) w (hJ _ hw)) ⟨_, rfl⟩)) rfl<|LX.l (fun _ hJ => LO.cv ⟨_, Try.underlying5⟩ Try.underlying3 (.r rfl) (cv8 hnm2)) rfl<|LX.l (fun _ hJ => LO.eqv (LO.rem (.r rfl) (.r rfl) (by omega)) (congrArg (Value.int .i64) (mod_i (m := 30)))) rfl<|LX.l (fun _ hJ => LO.add (.r rfl) (.r rfl) (wi (by omega) (by omega))) rfl<|LX.l (fun _ hJ => LO.fa (r := 1) F71_1 (.r rfl) rfl) rfl<|LX.s<|LX.nil) (HX.s<|HX.s<|HX.s<|HX.s<|HX.s<|HX.s<|HX.s<|HX.s<|HX.s<|HX.s<|HX.s<|HX.s<|HX.s<|HX.s<|HX.s<|HX.h0<|HO.st 0 (vs := [_]) (C' := [_,_]) (L' := [_,_,_,_,_]) N3 rfl rfl rfl rfl rfl rfl rfl rfl<|⟨fun _ hw => hw.sel [1,2,3,4] rfl, HX.nil ?_⟩)
        refine VE.seqN ?_
        refine VC.reg (VO.l (LO.fa (r := 5) F26_1 (.r rfl) rfl) rfl<|VO.l (LO.ld O24 (.r rfl) (fun _ hw => cells_at hw 1 rfl ⟨_, rfl⟩)) rfl<|VO.l (LO.lda (vs := [_,_]) A71 (.r rfl) (fun _ hw => cells_at hw 0 rfl ⟨_, rfl⟩) rfl) rfl<|VO.h rfl<|HO.bs (ps := [(_,_)]) (vs := [(_,_)]) (Z := [_,_]) (C := [_,_]) S24 Z71 N71 ⟨(.r rfl), trivial⟩ rfl rfl rfl rfl ⟨_, [_,_], [_,_], rfl, rfl, rfl, rfl, rfl⟩ fun b21 => VO.h rfl<|HO.appT ((⟨0,0 + ((nm % 30 : Nat) : Int)⟩ : Span)) (f := Span.cells) 3 0 (fun R => [_,_,_, R,_,_]) S24 S24 I71 (.r rfl) (.r rfl) rfl rfl rfl rfl rfl rfl rfl (fun _ => rfl) rfl (by omega) fun p4 c4 => VO.l (LO.fa (r := 5) F26_1 (.r rfl) rfl) rfl<|VO.h0<|HO.st 2 (vs := [_]) (C' := [_,_,_,_,_,_]) (L' := [_,_,_,_,_,_]) N24 rfl rfl rfl rfl rfl rfl rfl rfl<|VO.nil ?_)
        refine VE.inN (VE.seqN ?_)
        refine VC.reg (VO.l (LO.add (.r rfl) (.r rfl) (wi (by omega) (by omega))) rfl<|VO.l (LO.mv (.r rfl)) rfl<|VO.nil ?_)
        refine VE.thenN fun a w ha hw => ⟨(k + 1, ml ++ [(⟨0,0 + ((nm % 30 : Nat) : Int)⟩ : Span)], p4, c4), ⟨by dsimp only; omega, map_eq hm (by unfold mapAt; rw [vAt_f h32, vAt_t hmn]; all_goals (first | rfl | simp))⟩, (by dsimp only; omega), ha.sub (.cons rfl (.cons rfl (.cons rfl (.cons rfl (.cons rfl .nil))))), hw.sel [2,3,4,5] rfl⟩
      ·
        refine VC.skip (VE.seqN ?_)
        refine VC.reg (VO.l (LO.fa (r := 5) F26_1 (.r rfl) rfl) rfl<|VO.l (LO.ld O24 (.r rfl) (fun _ hw => cells_at hw 1 rfl ⟨_, rfl⟩)) rfl<|VO.l (LO.lda (vs := [_,_]) A71 (.r rfl) (fun _ hw => cells_at hw 0 rfl ⟨_, rfl⟩) rfl) rfl<|VO.h rfl<|HO.bs (ps := [(_,_)]) (vs := [(_,_)]) (Z := [_,_]) (C := [_,_]) S24 Z71 N71 ⟨(.r rfl), trivial⟩ rfl rfl rfl rfl ⟨_, [_,_], [_,_], rfl, rfl, rfl, rfl, rfl⟩ fun b23 => VO.h rfl<|HO.appT ((⟨0,0⟩ : Span)) (f := Span.cells) 3 0 (fun R => [_,_,_, R,_,_]) S24 S24 I71 (.r rfl) (.r rfl) rfl rfl rfl rfl rfl rfl rfl (fun _ => rfl) rfl (by omega) fun p4 c4 => VO.l (LO.fa (r := 5) F26_1 (.r rfl) rfl) rfl<|VO.h0<|HO.st 2 (vs := [_]) (C' := [_,_,_,_,_,_]) (L' := [_,_,_,_,_,_]) N24 rfl rfl rfl rfl rfl rfl rfl rfl<|VO.nil ?_)
        refine VE.inN (VE.seqN ?_)
        refine VC.reg (VO.l (LO.add (.r rfl) (.r rfl) (wi (by omega) (by omega))) rfl<|VO.l (LO.mv (.r rfl)) rfl<|VO.nil ?_)
        refine VE.thenN fun a w ha hw => ⟨(k + 1, ml ++ [(⟨0,0⟩ : Span)], p4, c4), ⟨by dsimp only; omega, map_eq hm (by unfold mapAt; rw [vAt_f h32, vAt_f h51]; all_goals (first | rfl | simp))⟩, (by dsimp only; omega), ha.sub (.cons rfl (.cons rfl (.cons rfl (.cons rfl (.cons rfl .nil))))), hw.sel [2,3,4,5] rfl⟩
  ·
    refine VC.exit (VE.thenX (VE.thenX (VE.inX (VE.seqN ?_))))
    refine VC.seq ?_
    refine VC.reg (VO.l (LO.lda (vs := [_,_,_,_,_,_]) A26 (.r rfl) (fun _ hw => cells_at hw 0 rfl ⟨_, rfl⟩) rfl) rfl<|VO.h0<|HO.st 2 (vs := [_,_,_,_,_,_]) (C' := [_,_,_,_,_,_]) (L' := [_,_,_,_]) N26 rfl rfl rfl rfl rfl rfl rfl rfl<|VO.nil ?_)
    refine VE.seqN ?_
    refine VC.ret (VE.res (vs := [_]) rfl ⟨RV.agg (vs := [_,_,_,_,_,_]) A26 rfl (cells_blk 2 rfl ⟨_, rfl⟩) rfl, trivial⟩ (fun w hw => ?_))
    have hke : k = mapW x * mapH x := by omega
    subst hke
    subst hm
    exact ⟨⟨po, co⟩, trivial, rfl, selK [1] rfl rfl _ hw⟩

set_option maxRecDepth 20000 in
theorem level_c (n : Nat) (w : World) (hn : n ≤ 255) :
  Calls Try.prog 34 #[.int .u8 (n : Int)] w fun e w' => e = .returned (.int .i64 ((1 + n % 50 : Nat) : Int)) ∧ St (bs w) [] w' := by
  refine enter (vs := [_]) (env := [(0,_)]) Try.func34 rfl rfl rfl rfl ?_
  refine VC.seq ?_
  refine VC.reg (VO.l (LO.as (.r rfl)) rfl<|VO.nil ?_)
  refine VE.seqN ?_
  refine VC.seq ?_
  refine VC.reg (VO.l (LO.mv (.r rfl)) rfl<|VO.l (LO.cv ⟨_, Try.underlying5⟩ Try.underlying3 (.r rfl) (cv8 hn)) rfl<|VO.l (LO.eqv (LO.rem (.r rfl) (.r rfl) (by omega)) (congrArg (Value.int .i64) (mod_i (m := 50)))) rfl<|VO.l (LO.eqv (LO.add (.r rfl) (.r rfl) (wi (by omega) (by omega))) (congrArg (Value.int .i64) (show (1 : Int) + ((n % 50 : Nat) : Int) = ((1 + n % 50 : Nat) : Int) by push_cast; rfl))) rfl<|VO.l (LO.as (.r rfl)) rfl<|VO.nil ?_)
  refine VE.seqN ?_
  refine VC.ret (VE.res (vs := [_]) rfl ⟨rfl, trivial⟩ (fun w hw => ?_))
  exact ⟨rfl, hw.nil⟩

end Go.Proofs.Ytgemekpofpoopaa

namespace Go.Proofs.Ytgemekpofpoopaa
open Go.SL Go.Proofs Go.Cast Go.Cell
set_option linter.unusedVariables false

theorem vAt_lt {l : List Nat} {m i : Nat} (h : 0 < m) : vAt l m i < m := by unfold vAt; split <;> first | exact Nat.mod_lt _ h | exact h
theorem mem_at {l : List Int} {n : Int} {i : Nat} (hi : i < l.length) (h : l.getD i 0 = n) : n ∈ l := by
  rw [List.getD_eq_getElem?_getD, List.getElem?_eq_getElem hi] at h
  have h : l[i] = n := h
  rw [← h]; exact List.getElem_mem hi
theorem mem_no {l : List Int} {n : Int} (h : ∀ k, k < l.length → ¬ l.getD k 0 = n) : ¬ n ∈ l := fun hm => by
  obtain ⟨k, hk, e⟩ := List.mem_iff_getElem.1 hm
  refine h k hk ?_
  rw [List.getD_eq_getElem?_getD, List.getElem?_eq_getElem hk]; exact e
end Go.Proofs.Ytgemekpofpoopaa

namespace Go.Proofs.Ytgemekpofpoopaa
open Go.SL Go.Proofs Go.Cast Go.Cell
set_option linter.unusedVariables false

theorem C41 : IsFn Try.prog 41 := ⟨_, Try.func41, by decide, rfl⟩


set_option maxRecDepth 20000 in
theorem member_c (l : List Int) (p : Option Addr) (c : Nat) (n : Int) (w : World) (hl : Ints w p l) (hn : l.length ≤ 1000000) :
  Calls Try.prog 41 #[.slice p l.length c, .int .i64 n] w fun e w' => e = .returned (.bool (decide (n ∈ l))) ∧ St (bs w) [] w' := by
  refine enter (vs := [_,_]) (env := [(0,_), (1,_)]) Try.func41 rfl rfl rfl rfl ?_
  refine VC.seq ?_
  refine VC.reg (VO.l (LO.as (.r rfl)) rfl<|VO.nil ?_)
  refine VE.seqN ?_
  refine VC.seq ?_
  refine VC.seq ?_
  refine VC.reg (VO.l (LO.mv (.r rfl)) rfl<|VO.l (LO.len S40 (.r rfl) rfl) rfl<|VO.l (LO.mv (.r rfl)) rfl<|VO.nil ?_)
  refine VE.seqN ?_
  refine VC.block ?_
  refine VC.loopK (α := Nat) 0 (fun gx => [(9, .int .i64 (gx : Nat))]) [(1,_), (7,_), (8,_)] (fun gx => []) (fun gx => gx ≤ l.length ∧ ∀ k, k < gx → ¬ l.getD k 0 = n) (fun gx => l.length - gx) 0 (by exact ⟨Nat.zero_le _, fun k h => absurd h (Nat.not_lt_zero _)⟩) (.cons rfl (.cons rfl (.cons rfl (.cons rfl .nil)))) (fun _ h => h) ?_
  rintro i ⟨hi, hz⟩
  refine VC.seq ?_
  refine VC.reg (VO.l (LO.lt (.r rfl) (.r rfl)) rfl<|VO.nil ?_)
  refine VE.seqN ?_
  refine VC.seq ?_
  refine VC.cond rfl (fun h10 => ?_) (fun h10 => ?_)
  ·
    refine VC.skip (VE.seqN ?_)
    refine VC.seq ?_
    refine VC.block ?_
    refine VC.seq ?_
    refine VC.reg (VO.l (LO.ixs S40 N3 hl.some (.r rfl) (.r rfl) rfl (by omega)) rfl<|VO.l (LO.ld O3 (.r rfl) (fun w hw => cells_part (off := 0) ((hl.at (j := i) (by omega)) w hw) ⟨_, rfl⟩)) rfl<|VO.l (LO.as (.r rfl)) rfl<|VO.nil ?_)
    refine VE.seqN ?_
    refine VC.seq ?_
    refine VC.reg (VO.l (LO.mv (.r rfl)) rfl<|VO.l (LO.mv (.r rfl)) rfl<|VO.l (LO.eq (.r rfl) (.r rfl)) rfl<|VO.nil ?_)
    refine VE.seqN ?_
    refine VC.cond rfl (fun h15 => ?_) (fun h15 => ?_)
    ·
      refine VC.seq ?_
      refine VC.reg (VO.l (LO.as (.r rfl)) rfl<|VO.nil ?_)
      refine VE.seqN ?_
      refine VC.ret (VE.inR (VE.thenR (VE.thenR (VE.inR (VE.thenR (VE.res (vs := [_]) rfl ⟨rfl, trivial⟩ (fun w hw => ?_)))))))
      refine ⟨congrArg (fun z => Ending.returned (.bool z)) ?_, hw.nil⟩
      first | exact (decide_eq_true (mem_at (i := i) (by omega) h15)).symm | exact (decide_eq_false (mem_no (fun k hk => hz k (by omega)))).symm
    ·
      refine VC.skip (VE.inN (VE.seqN ?_))
      refine VC.reg (VO.l (LO.add (.r rfl) (.r rfl) (wi (by omega) (by omega))) rfl<|VO.l (LO.mv (.r rfl)) rfl<|VO.nil ?_)
      refine VE.thenN fun a w ha hw => ⟨i + 1, ⟨by omega, step_all (P := fun k => ¬ l.getD k 0 = n) hz h15⟩, (by omega), ha.sub (.cons rfl (.cons rfl (.cons rfl (.cons rfl .nil)))), hw⟩
  ·
    refine VC.exit (VE.thenX (VE.thenX (VE.inX (VE.seqN ?_))))
    refine VC.seq ?_
    refine VC.reg (VO.l (LO.as (.r rfl)) rfl<|VO.nil ?_)
    refine VE.seqN ?_
    refine VC.ret (VE.res (vs := [_]) rfl ⟨rfl, trivial⟩ (fun w hw => ?_))
    refine ⟨congrArg (fun z => Ending.returned (.bool z)) ?_, hw.nil⟩
    first | exact (decide_eq_true (mem_at (i := i) (by omega) h15)).symm | exact (decide_eq_false (mem_no (fun k hk => hz k (by omega)))).symm

end Go.Proofs.Ytgemekpofpoopaa

namespace Go.Proofs.Ytgemekpofpoopaa
open Go.SL Go.Proofs Go.Cast Go.Cell
set_option linter.unusedVariables false

theorem C33 : IsFn Try.prog 33 := ⟨_, Try.func33, by decide, rfl⟩
theorem C34 : IsFn Try.prog 34 := ⟨_, Try.func34, by decide, rfl⟩
structure MpY where
  p : Option Addr
  c : Nat
  v : List Span
/-- A map of the statements. -/
structure FldOk (G : Grid) (vs : List Span) : Prop where
  grid : gridOk G
  wide : (vs.length : Int) = G.wide * G.high
  n : vs.length = gW G * gH G
  sp : ∀ j, j < vs.length → 0 ≤ (vs.getD j ⟨0,0⟩).lo ∧ (vs.getD j ⟨0,0⟩).lo ≤ (vs.getD j ⟨0,0⟩).hi ∧ (vs.getD j ⟨0,0⟩).hi ≤ 100
  le : vs.length ≤ 36
  pos : 0 < vs.length
theorem mapTo_get {x : MapA} {k j : Nat} (h : j < k) : (mapTo x k).getD j ⟨0,0⟩ = mapAt x j := by
  unfold mapTo; rw [List.getD_eq_getElem?_getD, List.getElem?_map, List.getElem?_range h]; rfl
theorem map_fld (x : MapA) : FldOk (mapG x) (mapVs x) := by
  obtain ⟨h1, h2, h3, h4⟩ := map_wh x
  have hl : (mapVs x).length = mapW x * mapH x := mapTo_len
  have hp : 0 < mapW x * mapH x := Nat.mul_pos (by omega) (by omega)
  refine ⟨by unfold gridOk; dsimp only; omega, ?_, ?_, fun j hj => ?_, by rw [hl]; exact map_area x, by omega⟩
  · rw [hl]; exact Int.natCast_mul _ _
  · rw [hl]; show _ = ((mapW x : Nat) : Int).toNat * ((mapH x : Nat) : Int).toNat; rw [Int.toNat_natCast, Int.toNat_natCast]
  · have h40 : vAt x.lo 40 j < 40 := vAt_lt (by decide)
    have h30 : vAt x.mo 30 j < 30 := vAt_lt (by decide)
    rw [hl] at hj
    unfold mapVs
    rw [mapTo_get hj]
    unfold mapAt
    dsimp only
    omega
theorem field_k (G : Grid) (x : MapA) (w : World) (hx : MapI w x) (hk : MapK x) (hG : G = mapG x) : Calls Try.prog 33 #[x.V] w fun e w' => ∃ y : MpY, FldOk G y.v ∧ e = .returned (fieldV G y.p y.v.length y.c) ∧ St (bs w) [own 71 2 y.p y.c (y.v.map Span.cells)] w' := by
  subst hG
  exact (field_c x w hx hk).mono fun e w' ⟨y,_, h2, h3⟩ => ⟨⟨y.p, y.c, mapVs x⟩, map_fld x, h2, h3⟩
theorem level_k (lv : Int) (n : Nat) (w : World) (hn : n ≤ 255) (hlv : lv = ((1 + n % 50 : Nat) : Int)) : Calls Try.prog 34 #[.int .u8 (n : Int)] w fun e w' => e = .returned (.int .i64 lv) ∧ St (bs w) [] w' := by
  subst hlv
  exact level_c n w hn
theorem open_zero {G : Grid} {vs : List Span} {lv : Int} (h : FldOk G vs) (h1 : 1 ≤ lv) (h2 : lv ≤ 1073741824) : openE G vs lv = 0 := by
  unfold openE
  rw [if_neg (fun q => q (fE4 (m := 1073741824) (f := ⟨G, vs⟩) (j := vs.length) h.grid h.wide (fun k hk => if_pos (by have := h.sp k hk; unfold spanOk; dsimp only; omega)) (Nat.le_refl _)).symm), if_neg (by omega)]
end Go.Proofs.Ytgemekpofpoopaa

namespace Go.Proofs.Ytgemekpofpoopaa
open Go.SL Go.Proofs Go.Cast Go.Cell
set_option linter.unusedVariables false
theorem mem_castI {l : List Nat} {p : Nat} : ((p : Int) ∈ l.map fun n : Nat => (n : Int)) ↔ p ∈ l := by
  rw [List.mem_map]
  exact ⟨fun ⟨a, h1, h2⟩ => by have : a = p := by omega
                               subst this; exact h1, fun h => ⟨p, h, rfl⟩⟩
theorem ro_I {w : World} {p : Option Addr} {l : List Nat} (h : RO 1 nC w p l) : RO 1 iC w p (l.map fun n : Nat => (n : Int)) := by
  have e : (l.map fun n : Nat => (n : Int)).map iC = l.map nC := by rw [List.map_map]; rfl
  unfold RO at *; rw [e]; exact h
section
variable {W H : Nat} {vs ts : List Span} {lv : Int} {ar br : ArY} {ow sm : List Int} {i j m p : Nat}
end
end Go.Proofs.Ytgemekpofpoopaa

namespace Go.Proofs.Ytgemekpofpoopaa
open Go.SL Go.Proofs Go.Cast Go.Cell
set_option linter.unusedVariables false

theorem M205 : IsSet Try.prog 205 := ⟨3,4, .i64, Try.underlying205, Try.underlying3, by unfold ZeroOf; kernel_rfl⟩
theorem C122 : IsFn Try.prog 122 := ⟨_, Try.func122, by decide, rfl⟩
theorem C121 : IsFn Try.prog 121 := ⟨_, Try.func121, by decide, rfl⟩


theorem _root_.Go.SL.RO.of_ownO {α : Type} {f : α → List Value} {β : Bs} {L : List Res} {w : World} {E z cap : Nat} {p : Option Addr} {l : List α} (hw : St β L w) (i : Nat) (hi : L[i]? = some (ownO E z p cap (l.map f))) : RO z f w p l := ownO_rows hw i hi
theorem ownO_cap {α : Type} {f : α → List Value} {β : Bs} {L : List Res} {w : World} {E z cap : Nat} {p : Option Addr} {l : List α} (hw : St β L w) (i : Nat) (hi : L[i]? = some (ownO E z p cap (l.map f))) : l.length ≤ cap := by
  have := (hw.inv i _ hi).1
  rwa [List.length_map] at this
abbrev cI (l : List Nat) : List Int := l.map fun n : Nat => (n : Int)
theorem ins_memB {ml : List Nat} {x : Nat} : insB (memB (cI ml)) (x : Int) = memB (cI (x :: ml)) := by
  funext m
  unfold insB memB cI
  rw [List.map_cons]
  rw [← Bool.decide_or]
  exact decide_eq_decide.2 List.mem_cons.symm
theorem memB_nat {ml : List Nat} {x : Nat} : memB (cI ml) (x : Int) = true ↔ x ∈ ml := by
  unfold memB; rw [decide_eq_true_eq]; exact mem_castI
theorem set_mem {ml : List Nat} {x : Nat} : setM (fun y => decide (y ∈ ml)) x = fun y => decide (y ∈ x :: ml) := by
  funext y
  unfold setM
  rw [← Bool.decide_or]
  exact decide_eq_decide.2 (by rw [List.mem_cons]; exact or_congr eq_comm Iff.rfl)
theorem asc_nat {ml : List Nat} {l : List Int} (h : AscOf (memB (cI ml)) l) : ∃ k : List Nat, l = cI k ∧ k.Pairwise (· < ·) ∧ ∀ x, x ∈ k ↔ x ∈ ml := by
  have hnn : ∀ n, n ∈ l → ∃ k : Nat, n = k ∧ k ∈ ml := fun n hn => by
    have := (h.2 n).1 hn
    unfold memB at this
    rw [decide_eq_true_eq] at this
    obtain ⟨k, hk, e⟩ := List.mem_map.1 this
    exact ⟨k, e.symm, hk⟩
  have e : l = cI (l.map Int.toNat) := by
    unfold cI
    rw [List.map_map]
    refine (List.map_id l).symm.trans (List.map_congr_left fun n hn => ?_)
    obtain ⟨k, rfl,_⟩ := hnn n hn
    rfl
  refine ⟨l.map Int.toNat, e, ?_, fun x => ?_⟩
  · refine List.pairwise_map.2 (h.1.imp_of_mem fun {a b} ha hb hab => ?_)
    obtain ⟨k, rfl,_⟩ := hnn a ha
    obtain ⟨j, rfl,_⟩ := hnn b hb
    have : k < j := by omega
    exact this
  · constructor
    · intro hx
      obtain ⟨n, hn, rfl⟩ := List.mem_map.1 hx
      obtain ⟨k, rfl, hk⟩ := hnn n hn
      exact hk
    · intro hx
      exact List.mem_map.2 ⟨(x : Int), (h.2 x).2 (memB_nat.2 hx), rfl⟩
structure RlY where
  l : List Nat
  p : Option Addr
  c : Nat
structure RlP (nx : Nat → List Nat) (n : Nat) (l : List Nat) : Prop where
  asc : l.Pairwise (· < ·)
  mem : ∀ x, x ∈ l ↔ Rch nx n x

set_option maxRecDepth 20000 in
set_option maxHeartbeats 4000000 in
theorem find_ok (b : Nat) (h : BkH) (la : Int) (q : BkQ) (pt : Option Addr) (ct : Nat) (kd : Nat → Int) (tk : List TkR) (w : World) (hb : Cells w ⟨b, 0, none⟩ (bkC h la q pt tk.length ct kd)) (htk : RO 6 TkR.cells w pt tk) (n : Nat) (t : TkR) (hnt : tk[n]? = some t) :
  Calls Try.prog 98 #[.pointer (some ⟨b, 0, none⟩), .int .i64 (n : Int)] w fun e w' => e = .returned (.tuple #[tkV t, .int .i64 0]) ∧ St (bs w) [] w' := by
  have hnl := (List.getElem?_eq_some_iff.1 hnt).1
  refine enter (vs := [_,_]) (env := [(0,_), (1,_)]) Try.func98 rfl rfl rfl rfl ?_
  refine VC.seq ?_
  refine VC.reg (VO.h rfl<|HO.alloc (C := #[_,_,_,_,_,_]) Z109 rfl fun b1 => VO.l (LO.as (.r rfl)) rfl<|VO.nil ?_)
  refine VE.seqN ?_
  refine VC.seq ?_
  refine VC.block ?_
  refine VC.seq ?_
  refine VC.reg (VO.l (LO.mv (.r rfl)) rfl<|VO.l (LO.call (xs := [_]) (vs := [_]) C91 ⟨(.r rfl), trivial⟩ (fun w2 hw => valid_y b h la q pt tk.length ct kd w2 (cells_keep hb w2 hw))) rfl<|VO.l (LO.not (.r rfl)) rfl<|VO.l (LO.as (.r rfl)) rfl<|VO.nil ?_)
  refine VE.seqN ?_
  refine VC.cond rfl (fun h6 => ?_) (fun h6 => ?_)
  ·
    (exfalso; exact h6 rfl)
  ·
    refine VC.seq ?_
    refine VC.reg (VO.l (LO.mv (.r rfl)) rfl<|VO.l (LO.lt (.r rfl) (.r rfl)) rfl<|VO.l (LO.mv (.r rfl)) rfl<|VO.lg rfl rfl (GD.f _) (fun hg => LO.mv (.r rfl)) rfl<|VO.lg rfl rfl (GD.f _) (fun hg => LO.mv (.r rfl)) rfl<|VO.lg rfl rfl (GD.f _) (fun hg => LO.nc (.g hg rfl)) rfl<|VO.lg rfl rfl (GD.f _) (fun hg => LO.fa (r := 9) F119_5 (.g hg rfl) rfl) rfl<|VO.lg rfl rfl (GD.f _) (fun hg => LO.ld O102 (.g hg rfl) (cells_keep (sub_cells (off := 9) hb ⟨_, rfl⟩))) rfl<|VO.lg rfl rfl (GD.f _) (fun hg => LO.len S102 (.g hg rfl) rfl) rfl<|VO.lg rfl rfl (GD.f _) (fun hg => LO.ge (.g hg rfl) (.g hg rfl)) rfl<|VO.l (LO.pkO (.r rfl) (.r rfl) rfl rfl) rfl<|VO.l (LO.as (.r rfl)) rfl<|VO.nil ?_)
    refine VE.seqN ?_
    refine VC.cond rfl (fun h11 => ?_) (fun h11 => ?_)
    ·
      (exfalso; omega)
    ·
      refine VC.skip (VE.inN (VE.seqN ?_))
      refine VC.seq ?_
      refine VC.reg (VO.l (LO.mv (.r rfl)) rfl<|VO.l (LO.nc (.r rfl)) rfl<|VO.l (LO.fa (r := 9) F119_5 (.r rfl) rfl) rfl<|VO.l (LO.ld O102 (.r rfl) (cells_keep (sub_cells (off := 9) hb ⟨_, rfl⟩))) rfl<|VO.l (LO.mv (.r rfl)) rfl<|VO.l (LO.ixs S102 N109 htk.sm (.r rfl) (.r rfl) rfl (by have := (List.getElem?_eq_some_iff.1 hnt).1; omega)) rfl<|VO.l (LO.lda (vs := [_,_,_,_,_,_]) A109 (.r rfl) (fun w hw => cells_part (off := 0) ((fun w3 h3 => RO.cel (htk.keep w3 h3) hnt) w hw) ⟨_, rfl⟩) rfl) rfl<|VO.h0<|HO.st 0 (vs := [_,_,_,_,_,_]) (C' := [_,_,_,_,_,_]) (L' := [_]) N109 rfl rfl rfl rfl rfl rfl rfl rfl<|VO.l (LO.as (.r rfl)) rfl<|VO.nil ?_)
      refine VE.seqN ?_
      refine VC.ret (VE.res (vs := [_,_]) rfl ⟨RV.agg (vs := [_,_,_,_,_,_]) A109 rfl (cells_blk 0 rfl ⟨_, rfl⟩) rfl, rfl, trivial⟩ (fun w hw => ?_))
      exact ⟨rfl, hw.nil⟩

set_option maxRecDepth 20000 in
set_option maxHeartbeats 16000000 in
theorem relatives_ok (b : Nat) (h : BkH) (la : Int) (q : BkQ) (pt : Option Addr) (ct : Nat) (kd : Nat → Int) (tk : List TkR) (w : World) (hb : Cells w ⟨b, 0, none⟩ (bkC h la q pt tk.length ct kd)) (htk : RO 6 TkR.cells w pt tk) (hlen : tk.length ≤ 1000000) (n : Nat) (fn : Nat) (sp : TkR → Option Addr) (sc : TkR → Nat) (sl : TkR → List Nat) (hfn : IsFn Try.prog fn) (hq : ∀ {L : List Res} (w2 : World) (t : TkR), St (bs w) L w2 → Calls Try.prog fn ([] ++ [tkV t] ++ []).toArray w2 fun e w' => e = .returned (.slice (sp t) (sl t).length (sc t)) ∧ St (bs w2) [] w') (hro : ∀ t, t ∈ tk → RO 1 nC w (sp t) (sl t)) (nx : Nat → List Nat) (hnx : ∀ k t, tk[k]? = some t → sl t = nx k) (hall : ∀ x, Rch nx n x → x < tk.length) (hsz : (rlB nx tk.length (fun _ => false) + (nx n).length) ≤ 1000000000) (t : TkR) (hnt : tk[n]? = some t) :
  Calls Try.prog 95 #[.pointer (some ⟨b, 0, none⟩), .int .i64 (n : Int), .func (.func fn) #[] #[]] w fun e w' => ∃ y : RlY, RlP nx n y.l ∧ e = .returned (.tuple #[.slice y.p y.l.length y.c, .int .i64 0]) ∧ St (bs w) [own 3 1 y.p y.c (y.l.map nC)] w' := by
  have hst : sl t = nx n := hnx n t hnt
  have htm := List.mem_of_getElem? hnt
  have hsl : (sl t).length ≤ 1000000000 := by rw [hst]; omega
  refine enter (vs := [_,_,_]) (env := [(0,_), (1,_), (2,_)]) Try.func95 rfl rfl rfl rfl ?_
  refine VC.seq ?_
  refine VC.reg (VO.l (LO.as (.r rfl)) rfl<|VO.l (LO.as (.r rfl)) rfl<|VO.nil ?_)
  refine VE.seqN ?_
  refine VC.seq ?_
  refine VC.reg (VO.l (LO.mv (.r rfl)) rfl<|VO.l (LO.mv (.r rfl)) rfl<|VO.l (LO.call (xs := [_,_]) (vs := [_,_]) C98 ⟨(.r rfl), (.r rfl), trivial⟩ (fun w2 hw => find_ok b h la q pt ct kd tk w2 (cells_keep hb w2 hw) (htk.keep w2 hw) n t hnt)) rfl<|VO.l (LO.mv (.r rfl)) rfl<|VO.l (LO.ex (.r rfl) rfl) rfl<|VO.l (LO.ex (.r rfl) rfl) rfl<|VO.h rfl<|HO.alloc (C := #[_,_,_,_,_,_]) Z109 rfl fun b1 => VO.h0<|HO.st 0 (vs := [_,_,_,_,_,_]) (C' := [_,_,_,_,_,_]) (L' := [_]) N109 rfl rfl rfl rfl rfl rfl rfl rfl<|VO.l (LO.as (.r rfl)) rfl<|VO.nil ?_)
  refine VE.seqN ?_
  refine VC.seq ?_
  refine VC.seq ?_
  refine VC.reg (VO.l (LO.mv (.r rfl)) rfl<|VO.l (LO.ne (.r rfl) (.r rfl)) rfl<|VO.nil ?_)
  refine VE.seqN ?_
  refine VC.cond rfl (fun h20 => ?_) (fun h20 => ?_)
  ·
    (exfalso; exact h20 rfl)
  ·
    refine VC.skip (VE.seqN ?_)
    refine VC.seq ?_
    refine VC.reg (VO.h rfl<|HO.mkset fun b3 => VO.h rfl<|HO.lo (LO.as (.r rfl))<|VO.nil ?_)
    refine VE.seqN ?_
    refine VC.seq ?_
    refine VC.seq ?_
    refine VC.reg (VO.l (LO.mv (.r rfl)) rfl<|VO.l (LO.lda (vs := [_,_,_,_,_,_]) A109 (.r rfl) (fun _ hw => cells_at hw 1 rfl ⟨_, rfl⟩) rfl) rfl<|VO.l (LO.callv (first := []) (cap := []) (xs := [_]) (vs := [_]) (.r rfl) hfn ⟨.r rfl, trivial⟩ (fun w2 hw2 => hq w2 t hw2)) rfl<|VO.h rfl<|HO.callx (xs := [_]) (vs := [_]) C120 ⟨(.r rfl), trivial⟩ (fun w2 hw => Clone_c (sl t) (sp t) (sc t) w2 ((hro t htm).keep w2 hw) (by omega)) fun y _ => VO.h rfl<|HO.lo (LO.as (.r rfl))<|VO.nil ?_)
    refine VE.seqN ?_
    refine VC.block ?_
    refine VC.res (fun w hw => St.toO hw 0 rfl) ?_
    show VC _ _ _ _ _ _ [ownO 3 1 y.p y.c ((sl t).map nC),_,_] _ _
    refine VC.loopK (α := (List Nat) × (Option Addr) × Nat × (List Nat)) 2 (fun gx => [(11, .slice gx.2.1 gx.1.length gx.2.2.1)]) [(0,_), (2,_), (10,_)] (fun gx => [ownO 3 1 gx.2.1 gx.2.2.1 (gx.1.map nC), setR b3 (memB (cI gx.2.2.2))]) (fun gx => RL nx tk.length n (fun y => decide (y ∈ gx.2.2.2)) gx.1 ∧ gx.2.2.2.length + gx.1.length + rlB nx tk.length (fun y => decide (y ∈ gx.2.2.2)) ≤ (rlB nx tk.length (fun _ => false) + (nx n).length)) (fun gx => gx.1.length + rlB nx tk.length (fun y => decide (y ∈ gx.2.2.2))) ((sl t), y.p, y.c, []) (by exact ⟨by rw [hst]; exact RL.zero, by rw [hst]; show 0 + (nx n).length + rlB nx tk.length (fun _ => false) ≤ _; omega⟩) (.cons rfl (.cons rfl (.cons rfl (.cons rfl .nil)))) (fun _ h => h) ?_
    rintro ⟨td, tp, tc, ml⟩ ⟨hRL, hcnt⟩
    show VC _ _ _ _ _ ([(11, .slice tp td.length tc)] ++ _) ([ownO 3 1 tp tc (td.map nC), setR b3 (memB (cI ml))] ++ _) _ _
    dsimp only at hRL hcnt
    refine VC.seq ?_
    refine VC.seq ?_
    refine VC.reg (VO.l (LO.mv (.r rfl)) rfl<|VO.l (LO.len S40 (.r rfl) rfl) rfl<|VO.l (LO.gt (.r rfl) (.r rfl)) rfl<|VO.nil ?_)
    refine VE.seqN ?_
    refine VC.cond rfl (fun h29 => ?_) (fun h29 => ?_)
    ·
      refine VC.skip (VE.seqN ?_)
      refine VC.block ?_
      refine VC.seq ?_
      refine VC.pur (φ := SlSome tp td.length ∧ td.length ≤ tc) (fun w hw => ⟨(RO.of_ownO hw 0 rfl).sm, ownO_cap hw 0 rfl⟩) fun htd => ?_
      obtain ⟨k, rest, rfl⟩ : ∃ k rest, td = k :: rest := by cases td with | nil => (simp at h29) | cons k rest => exact ⟨k, rest, rfl⟩
      have hkl := hall k (hRL.t k List.mem_cons_self)
      refine VC.reg (VO.l (LO.mv (.r rfl)) rfl<|VO.l (LO.ixs S40 N3 htd.1 (.r rfl) (.r rfl) (j := 0) rfl (by simp)) rfl<|VO.l (LO.ld O3 (.r rfl) (fun w hw => cells_part (off := 0) ((fun w3 h3 => RO.cel (RO.of_ownO h3 0 rfl) (show (k :: rest)[0]? = some k from rfl)) w hw) ⟨_, rfl⟩)) rfl<|VO.l (LO.as (.r rfl)) rfl<|VO.nil ?_)
      refine VE.seqN ?_
      refine VC.seq ?_
      refine VC.reg (VO.l (LO.mv (.r rfl)) rfl<|VO.l (LO.eqv (LO.sl (l := 1) (E := 3) (z := 1) S40 (by kernel_rfl) (.r rfl) (.r rfl) rfl (by simp)) (show Value.slice (slFrom tp tc 1 1) ((k :: rest).length - 1) (tc - 1) = Value.slice (slFrom tp tc 1 1) rest.length (tc - 1) from rfl)) rfl<|VO.l (LO.as (.r rfl)) rfl<|VO.nil ?_)
      refine VE.seqN ?_
      refine VC.seq ?_
      refine VC.res (fun w hw => St.dropO hw 0 rfl) ?_
      show VC _ _ _ _ _ _ [ownO 3 1 (slFrom tp tc 1 1) (tc - 1) (rest.map nC),_,_] _ _
      refine VC.reg (VO.l (LO.mv (.r rfl)) rfl<|VO.l (LO.mv (.r rfl)) rfl<|VO.l (LO.lk M205 (.r rfl) (.r rfl) (fun _ hw => St.inv hw 1 _ rfl)) rfl<|VO.l (LO.not (.r rfl)) rfl<|VO.nil ?_)
      refine VE.seqN ?_
      refine VC.cond rfl (fun h38 => ?_) (fun h38 => ?_)
      ·
        have hnin : k ∉ ml := fun z => h38 (memB_nat.2 z)
        obtain ⟨tt, hkt⟩ := get_ex (l := tk) (n := k) hkl
        have hskk := hnx k tt hkt
        have hrl := rl_new (nx := nx) (met := fun y => decide (y ∈ ml)) hkl (decide_eq_false hnin)
        refine VC.seq ?_
        refine VC.reg (VO.l (LO.mv (.r rfl)) rfl<|VO.l (LO.mv (.r rfl)) rfl<|VO.h0<|HO.mu 1 (fun R => [_, R,_]) M205 (.r rfl) (.r rfl) (.r rfl) rfl (fun _ => rfl)<|VO.nil ?_)
        rw [ins_memB]
        refine VE.seqN ?_
        refine VC.reg (VO.l (LO.mv (.r rfl)) rfl<|VO.l (LO.mv (.r rfl)) rfl<|VO.l (LO.mv (.r rfl)) rfl<|VO.l (LO.nc (.r rfl)) rfl<|VO.l (LO.fa (r := 9) F119_5 (.r rfl) rfl) rfl<|VO.l (LO.ld O102 (.r rfl) (cells_keep (sub_cells (off := 9) hb ⟨_, rfl⟩))) rfl<|VO.l (LO.mv (.r rfl)) rfl<|VO.l (LO.ixs S102 N109 htk.sm (.r rfl) (.r rfl) rfl (by have := (List.getElem?_eq_some_iff.1 hkt).1; omega)) rfl<|VO.l (LO.lda (vs := [_,_,_,_,_,_]) A109 (.r rfl) (fun w hw => cells_part (off := 0) ((fun w3 h3 => RO.cel (htk.keep w3 h3) hkt) w hw) ⟨_, rfl⟩) rfl) rfl<|VO.l (LO.callv (first := []) (cap := []) (xs := [_]) (vs := [_]) (.r rfl) hfn ⟨.r rfl, trivial⟩ (fun w2 hw2 => hq w2 tt hw2)) rfl<|VO.h rfl<|HO.appO (f := nC) (l := rest) (m := (sl tt)) 0 (fun R => [R,_,_]) S40 S40 I3 (.r rfl) (.r rfl) rfl (fun w hw => (hro tt (List.mem_of_getElem? hkt)).keep w hw) (fun _ => rfl) (fun _ => rfl) rfl rfl (fun _ => rfl) rfl rfl (by rw [hskk] at *; simp only [List.length_cons] at hcnt; omega) fun p10 c10 _ => VO.h rfl<|HO.lo (LO.as (.r rfl))<|VO.nil ?_)
        refine VE.inN ?_
        refine VE.thenN fun a w ha hw => ⟨((rest ++ sl tt), p10, c10, (k :: ml)), ⟨by rw [← set_mem, hskk]; exact hRL.new, by rw [← set_mem]; simp only [List.length_append, List.length_cons] at *; rw [hskk]; omega⟩, (by dsimp only; rw [← set_mem]; simp only [List.length_append, List.length_cons]; rw [hskk]; omega), ha.sub (.cons (congrArg (fun n => some (Value.slice p10 n c10)) (List.length_append ..).symm) (.cons rfl (.cons rfl (.cons rfl .nil)))), hw⟩
      ·
        have hin : k ∈ ml := memB_nat.1 (Classical.not_not.1 h38)
        refine VC.skip (VE.inN ?_)
        refine VE.thenN fun a w ha hw => ⟨(rest, (slFrom tp tc 1 1), (tc - 1), ml), ⟨hRL.old (decide_eq_true hin), by dsimp only; simp only [List.length_cons] at hcnt; omega⟩, (by dsimp only; simp only [List.length_cons]; omega), ha.sub (.cons rfl (.cons rfl (.cons rfl (.cons rfl .nil)))), hw⟩
    ·
      have htd0 : td = [] := List.eq_nil_of_length_eq_zero (by omega)
      subst htd0
      have hmb : ∀ n, n ∈ cI ml → -9223372036854775808 ≤ n ∧ n ≤ 9223372036854775807 := fun z hz => by obtain ⟨x, hx, rfl⟩ := List.mem_map.1 hz; have := hall x (hRL.m x (decide_eq_true hx)); have := hlen; omega
      have hml : (cI ml).length ≤ 1000000000000 := by rw [List.length_map]; simp only [List.length_nil] at hcnt; omega
      refine VC.exit (VE.thenX (VE.thenX (VE.inX (VE.seqN ?_))))
      refine VC.seq ?_
      refine VC.reg (VO.l (LO.mv (.r rfl)) rfl<|VO.h rfl<|HO.callx (xs := [_]) (vs := [_]) C122 ⟨(.r rfl), trivial⟩ (fun w2 _ => Keys_h _ w2) fun kf _ => VO.h rfl<|HO.callx (xs := [_]) (vs := [_]) C121 ⟨(.r rfl), trivial⟩ (fun w2 hw => Sorted_h kf b3 (cI ml) w2 (hw.inv 0 _ rfl) (hw.inv 2 _ rfl) hmb hml) fun so hso => VO.h rfl<|HO.lo (LO.as (.r rfl))<|VO.l (LO.as (.r rfl)) rfl<|VO.nil ?_)
      refine VE.seqN ?_
      refine VC.ret (VE.res (vs := [_,_]) rfl ⟨rfl, rfl, trivial⟩ (fun w hw => ?_))
      obtain ⟨⟨sp_, sc_, l⟩, hl⟩ : ∃ x : Option Addr × Nat × List Int, so = x := ⟨_, rfl⟩
      subst hl
      obtain ⟨hasc,_⟩ := hso
      obtain ⟨k2, e2, h1, h2⟩ := asc_nat hasc
      dsimp only at e2
      subst e2
      rw [show (cI k2).map intC = k2.map nC from by rw [List.map_map]; rfl] at hw
      exact ⟨⟨k2, sp_, sc_⟩, ⟨h1, fun x => (h2 x).trans (by rw [← hRL.done (x := x), decide_eq_true_eq])⟩, by show _ = Ending.returned (Value.tuple #[.slice sp_ k2.length sc_, .int .i64 0]); rw [show (cI k2).length = k2.length from List.length_map ..]; rfl, selK [0] rfl rfl _ hw⟩

end Go.Proofs.Ytgemekpofpoopaa

namespace Go.Proofs.Ytgemekpofpoopaa
open Go.SL Go.Proofs Go.Cast Go.Cell
set_option linter.unusedVariables false



/-- What is read of events. -/
structure EvI (w : World) (p : Option Addr) (l : List EvR) : Prop where
  ev : RO 3 EvR.cells w p l
  f : ∀ e, e ∈ l → RO 1 nC w e.fp e.f
  t : ∀ e, e ∈ l → RO 1 nC w e.tp e.t
theorem member_k (l : List Nat) (p : Option Addr) (c : Nat) (n : Nat) (w : World) (hl : RO 1 nC w p l) (hn : l.length ≤ 1000000) : Calls Try.prog 41 #[.slice p l.length c, .int .i64 (n : Int)] w fun e w' => e = .returned (.bool (decide (n ∈ l))) ∧ St (bs w) [] w' := by
  have z := member_c (l.map fun n : Nat => (n : Int)) p c n w (ro_I hl) (by rw [List.length_map]; exact hn)
  rw [List.length_map] at z
  refine z.mono fun e w' ⟨h1, h2⟩ => ⟨?_, h2⟩
  rw [h1]
  refine congrArg (fun b => Ending.returned (.bool b)) ?_
  by_cases h : n ∈ l
  · rw [decide_eq_true h, decide_eq_true (mem_castI.2 h)]
  · rw [decide_eq_false h, decide_eq_false fun z => h (mem_castI.1 z)]
end Go.Proofs.Ytgemekpofpoopaa

namespace Go.Proofs.Ytgemekpofpoopaa
open Go.SL Go.Proofs Go.Cast Go.Cell
set_option linter.unusedVariables false



theorem fieldE_zero {G : Grid} {vs : List Span} (h : FldOk G vs) : fieldE 1073741824 ⟨G, vs⟩ = 0 := (fE4 (m := 1073741824) (f := ⟨G, vs⟩) (j := vs.length) h.grid h.wide (fun k hk => if_pos (by have := h.sp k hk; unfold spanOk; dsimp only; omega)) (Nat.le_refl _)).symm
theorem pair_zero {G : Grid} {vs ts : List Span} {lv : Int} {r : Nat} (h : FldOk G vs) (k : FldOk G ts) (h1 : 1 ≤ lv) (h2 : lv ≤ 1073741824) (hr : r ≤ 8) : pairE G vs G ts lv r = 0 := by
  unfold pairE
  rw [if_neg (fun z => z (fieldE_zero h)), if_neg (fun z => z (fieldE_zero k)), if_neg (fun z => z rfl), if_neg (by omega)]
end Go.Proofs.Ytgemekpofpoopaa

namespace Go.Proofs.Ytgemekpofpoopaa
open Go.SL Go.Proofs Go.Cast Go.Cell
set_option linter.unusedVariables false

theorem B63 : Builds Try.prog 63 [(0,1), (1,1), (2,1), (3,1)] [.int .u8 0, .int .u8 0, .slice none 0 0, .slice none 0 0] := Builds.mk fun _ => by kernel_rfl


theorem numbers_k (l m : List Nat) (p : Option Addr) (c : Nat) (q : Option Addr) (d : Nat) (w : World) (hl : RO 1 nC w p l) (hm : RO 1 nC w q m) (hn : l.length ≤ 1000000) : Calls Try.prog 40 #[.slice p l.length c, .slice q m.length d] w fun e w' => e = .returned (.bool (decide (l = m))) ∧ St (bs w) [] w' := by
  have z := numbers_c (l.map fun n : Nat => (n : Int)) (m.map fun n : Nat => (n : Int)) p c q d w (ro_I hl) (ro_I hm) (by rw [List.length_map]; exact hn)
  rw [List.length_map, List.length_map] at z
  refine z.mono fun e w' ⟨h1, h2⟩ => ⟨?_, h2⟩
  rw [h1]
  refine congrArg (fun b => Ending.returned (.bool b)) ?_
  have hinj : Function.Injective (fun n : Nat => (n : Int)) := fun a b e => by have e : (a : Int) = (b : Int) := e; omega
  by_cases h : l = m
  · rw [decide_eq_true h, decide_eq_true (by rw [h])]
  · rw [decide_eq_false h, decide_eq_false fun z => h (List.map_inj_right (fun a b e => hinj e) |>.1 z)]
end Go.Proofs.Ytgemekpofpoopaa

namespace Go.Proofs.Ytgemekpofpoopaa
open Go.SL Go.Proofs Go.Cast Go.Cell
set_option linter.unusedVariables false

theorem Z4 : ZeroOf Try.prog 4 (.bool false) := by unfold ZeroOf; kernel_rfl
end Go.Proofs.Ytgemekpofpoopaa

namespace Go.SL
set_option linter.unusedVariables false
theorem St.bagDNil {β : Bs} {L : List Res} {w : World} (h : St β L w) : St β (Go.SL.bagD [] :: L) w := St.bagD (Rs := []) h
end Go.SL
namespace Go.Proofs.Ytgemekpofpoopaa
open Go.SL Go.Proofs Go.Cast Go.Cell
set_option linter.unusedVariables false
section
variable {W H p i k : Nat} {vs : List Span} {lv : Int} {l : List Nat} {w : World}
/-! ### Lists of areas that are read -/
structure AL (w : World) (p : Option Addr) (l : List AreaR) : Prop where
  ar : RO 8 AreaR.cells w p l
  px : ∀ a, a ∈ l → RO 1 nC w a.px.p a.px.l
  kr : ∀ a, a ∈ l → RR 1 nC w a.kp a.kr
theorem own_inv_ro {α : Type} {f : α → List Value} {E z cap : Nat} {p : Option Addr} {l : List α} (h : (own E z p cap (l.map f)).inv w) : RO z f w p l := own_inv_rows h
end
end Go.Proofs.Ytgemekpofpoopaa

namespace Go.Proofs.Ytgemekpofpoopaa
open Go.SL Go.Proofs Go.Cast Go.Cell
set_option linter.unusedVariables false

theorem take_app1 {α : Type} {l : List α} {k : Nat} {x : α} (h : l[k]? = some x) : l.take (k + 1) = l.take k ++ [x] := by rw [List.take_add_one, h]; rfl
end Go.Proofs.Ytgemekpofpoopaa

namespace Go.Proofs.Ytgemekpofpoopaa
open Go.SL Go.Proofs Go.Cast Go.Cell
set_option linter.unusedVariables false



theorem getNn {l : List Nat} {n : Nat} (h : n < l.length) : l[n]? = some (l.getD n 0) := by rw [List.getD_eq_getElem?_getD, List.getElem?_eq_getElem h]; rfl
end Go.Proofs.Ytgemekpofpoopaa

namespace Go.Proofs.Ytgemekpofpoopaa
open Go.SL Go.Proofs Go.Cast Go.Cell
set_option linter.unusedVariables false

/-- Areas, or nothing: as they are read. -/
structure AbY where
  l : List AreaR
  p : Option Addr
  c : Nat
  R : List Res
structure ALB (l : List AreaR) : Prop where
  n : l.length ≤ 4096
  px : ∀ a, a ∈ l → a.px.l.length ≤ 4096
  kr : ∀ a, a ∈ l → a.kr.length ≤ 4096
  kl : ∀ a, a ∈ l → ∀ k, k ∈ a.kr → k.l.length ≤ 4096
structure AbP (g : Grid) (vs : List Span) (lv : Int) (y : AbY) : Prop where
  m : y.l.map AreaR.m = if openE g vs lv = 0 then areasM (gW g) (gH g) vs lv else []
  rd : ∀ w : World, (∀ r, r ∈ y.R → r.inv w) → AL w y.p y.l
  bd : ALB y.l
theorem part_len {W H : Nat} {S : Nat → Bool} {l : List Nat} (h : l ∈ partsL W H S) : l.length ≤ W * H := by
  obtain ⟨p, hp, hs, rfl⟩ := mem_partsTo (p := W * H) h
  have hn : (compL W H S p).Nodup := (compL_sorted hp).imp fun h => Nat.ne_of_lt h
  have := length_le_of_subset (m := List.range (W * H)) hn (fun x hx => List.mem_range.2 (compL_lt hp hx))
  simpa using this
theorem areas_bd {W H : Nat} {vs : List Span} {lv : Int} {l : List AreaR} (hW : W * H ≤ 4096) (h : l.map AreaR.m = areasM W H vs lv) : ALB l := by
  have hmem : ∀ a, a ∈ l → ∃ pl, pl ∈ partsL W H (mayB vs lv) ∧ a.m = areaM W H vs lv pl := fun a ha => by
    have : a.m ∈ areasM W H vs lv := by rw [← h]; exact List.mem_map_of_mem ha
    obtain ⟨pl, h1, h2⟩ := List.mem_map.1 this
    exact ⟨pl, h1, h2.symm⟩
  have hk : ∀ a, a ∈ l → ∃ pl, a.kr.map RowA.l = (partsL W H (inB vs lv)).filter (fun k => decide (k.headD 0 ∈ pl)) := fun a ha => by
    obtain ⟨pl,_, h2⟩ := hmem a ha
    exact ⟨pl, congrArg AreaM.ks h2⟩
  refine ⟨?_, fun a ha => ?_, fun a ha => ?_, fun a ha k hk2 => ?_⟩
  · have := congrArg List.length h
    unfold areasM at this
    rw [List.length_map, List.length_map] at this
    have := parts_len (W := W) (H := H) (S := mayB vs lv) (p := W * H)
    unfold partsL at *
    omega
  · obtain ⟨pl, h1, h2⟩ := hmem a ha
    have : a.px.l = pl := congrArg AreaM.px h2
    rw [this]
    have := part_len h1; omega
  · obtain ⟨pl, h1⟩ := hk a ha
    have h2 := congrArg List.length h1
    rw [List.length_map] at h2
    have h3 := List.length_filter_le (fun k => decide (k.headD 0 ∈ pl)) (partsL W H (inB vs lv))
    have h4 := parts_len (W := W) (H := H) (S := inB vs lv) (p := W * H)
    unfold partsL at *
    omega
  · obtain ⟨pl, h1⟩ := hk a ha
    have : k.l ∈ (partsL W H (inB vs lv)).filter (fun k => decide (k.headD 0 ∈ pl)) := by rw [← h1]; exact List.mem_map_of_mem hk2
    have := part_len (List.mem_filter.1 this).1
    omega
theorem alb_nil : ALB [] := ⟨Nat.zero_le _, by simp, by simp, by simp⟩
theorem al_nil (w : World) : AL w none [] := ⟨⟨by simp, fun _ => rfl, fun h => absurd rfl h⟩, by simp, by simp⟩
theorem AL.of_ar {w : World} {y : ArY} {of : List Int} {W H : Nat} {vs : List Span} {lv : Int} (hp : ArP W H vs lv y) (h : ∀ r, r ∈ y.R of → r.inv w) : AL w y.p y.l where
  ar := own_inv_ro (h (own 73 8 y.p y.c (y.l.map AreaR.cells)) (by unfold ArY.R; simp))
  px := fun a ha => by
    have h1 := h (bagR 3 1 nC y.rs) (by unfold ArY.R; simp)
    have h2 : a.px ∈ y.rs := by rw [← hp.px]; exact List.mem_map_of_mem ha
    exact own_inv_rows (h1 _ (List.mem_map_of_mem (f := fun x : RowA Nat => own 3 1 x.p x.c (x.l.map nC)) h2))
  kr := fun a ha => by
    have h1 := (h (bagD (y.l.map AreaR.kR)) (by unfold ArY.R; simp)).1 _ (List.mem_map_of_mem ha)
    have h2 := h (bagR 3 1 nC y.ks) (by unfold ArY.R; simp)
    exact ⟨own_inv_rows h1, fun x hx => by
      have h3 := h2 _ (List.mem_map_of_mem (f := fun x : RowA Nat => own 3 1 x.p x.c (x.l.map nC)) (hp.kr a ha x hx))
      refine ⟨?_, own_inv_rows h3⟩
      have := h3.1
      rwa [List.length_map] at this⟩
theorem grid_le {g : Grid} {vs : List Span} {lv : Int} (h : openE g vs lv = 0) : gW g * gH g ≤ 4096 := area_le (openOk h).1
theorem st_bag {β : Bs} {L : List Res} {w : World} (h : St β L w) : St β [bagD L] w := St.bagD (Rs := L) (L := []) (by rw [List.append_nil]; exact h)
theorem Areas_b (g : Grid) (vs : List Span) (pv : Option Addr) (cv : Nat) (lv : Int) (w : World) (hv : Spans w pv vs) :
  Calls Try.prog 17 #[fieldV g pv vs.length cv, .int .i64 lv] w fun e w' => ∃ y : AbY, AbP g vs lv y ∧ e = .returned (.tuple #[.slice y.p y.l.length y.c, .int .i64 (openE g vs lv)]) ∧ St (bs w) [bagD y.R] w' := by
  by_cases h : openE g vs lv = 0
  · refine (Areas_ok g vs pv cv lv w hv h).mono fun e w' ⟨y, h1, h2, h3⟩ => ⟨⟨y.l, y.p, y.c, y.R (ofL (gW g) (gH g) (mayB vs lv))⟩, ⟨by rw [if_pos h]; exact h1.m, fun w k => AL.of_ar h1 k, areas_bd (grid_le h) h1.m⟩, by rw [h2, h], st_bag h3⟩
  · refine (Areas_e g vs pv cv lv w hv h).mono fun e w' ⟨h2, h3⟩ => ⟨⟨[], none, 0, []⟩, ⟨by rw [if_neg h]; rfl, fun w k => al_nil w, alb_nil⟩, h2, st_bag h3⟩

end Go.Proofs.Ytgemekpofpoopaa

namespace Go.Proofs.Ytgemekpofpoopaa
open Go.SL Go.Proofs Go.Cast Go.Cell
set_option linter.unusedVariables false

theorem evP_uniq {W H r n m : Nat} {oa ob : List Int} {l l2 : List EvM} (h : EvP W H r oa ob n m l) (k : EvP W H r oa ob n m l2) : l = l2 := by
  obtain ⟨ld, h1, rfl⟩ := h.ex
  obtain ⟨ld2, h2, rfl⟩ := k.ex
  exact evsM_congr fun i j _ _ => (h1 _ _).trans (h2 _ _).symm
structure EbY where
  l : List EvR
  p : Option Addr
  c : Nat
  R : List Res
structure EbP (g1 : Grid) (v1 : List Span) (g2 : Grid) (v2 : List Span) (lv reach : Int) (y : EbY) : Prop where
  ok : pairE g1 v1 g2 v2 lv reach = 0 → EvP (gW g1) (gH g1) reach.toNat (ofL (gW g1) (gH g1) (mayB v1 lv)) (ofL (gW g1) (gH g1) (mayB v2 lv)) (nP g1 v1 lv) (nP g1 v2 lv) (y.l.map EvR.m)
  no : pairE g1 v1 g2 v2 lv reach ≠ 0 → y.l = []
  rd : ∀ w : World, (∀ r, r ∈ y.R → r.inv w) → EvI w y.p y.l
  n : y.l.length ≤ 1000000
  f : ∀ e, e ∈ y.l → e.f.length ≤ 1000000 ∧ e.t.length ≤ 1000000
theorem nP_le {g : Grid} {vs : List Span} {lv : Int} (hW : gW g * gH g ≤ 4096) : nP g vs lv ≤ 4096 := by
  have := parts_len (W := gW g) (H := gH g) (S := mayB vs lv) (p := gW g * gH g)
  unfold nP partsL; omega
theorem ev_bds {W H r n m : Nat} {oa ob : List Int} {l : List EvR} (h : EvP W H r oa ob n m (l.map EvR.m)) (hn : n ≤ 4096) (hm : m ≤ 4096) : l.length ≤ 1000000 ∧ ∀ e, e ∈ l → e.f.length ≤ 1000000 ∧ e.t.length ≤ 1000000 := by
  have hg := h.good
  refine ⟨?_, fun e he => ?_⟩
  · have := hg.lenE
    rw [List.length_map] at this; omega
  · have := hg.lenF (List.mem_map_of_mem (f := EvR.m) he)
    have h1 : e.f.length ≤ n := this.1
    have h2 : e.t.length ≤ m := this.2
    omega
theorem evi_inv {w : World} {T : Nat} {l : List EvR} {p : Option Addr} {c : Nat} (h : ∀ r, r ∈ [own T 3 p c (l.map EvR.cells), bagD (l.map EvR.fR), bagD (l.map EvR.tR)] → r.inv w) : EvI w p l :=
  ⟨own_inv_ro (h (own T 3 p c (l.map EvR.cells)) (by simp)), fun e he => own_inv_ro ((h (bagD (l.map EvR.fR)) (by simp)).1 _ (List.mem_map_of_mem (f := EvR.fR) he)), fun e he => own_inv_ro ((h (bagD (l.map EvR.tR)) (by simp)).1 _ (List.mem_map_of_mem (f := EvR.tR) he))⟩
theorem evi_nil (w : World) : EvI w none [] := ⟨⟨by simp, fun _ => rfl, fun h => absurd rfl h⟩, by simp, by simp⟩
theorem Match_b (g1 : Grid) (v1 : List Span) (p1 : Option Addr) (c1 : Nat) (g2 : Grid) (v2 : List Span) (p2 : Option Addr) (c2 : Nat) (lv reach : Int) (w : World) (hv1 : Spans w p1 v1) (hv2 : Spans w p2 v2) :
  Calls Try.prog 27 #[fieldV g1 p1 v1.length c1, fieldV g2 p2 v2.length c2, .int .i64 lv, .int .i64 reach] w fun e w' => ∃ y : EbY, EbP g1 v1 g2 v2 lv reach y ∧ e = .returned (.tuple #[.slice y.p y.l.length y.c, .int .i64 (pairE g1 v1 g2 v2 lv reach)]) ∧ St (bs w) [bagD y.R] w' := by
  by_cases h : pairE g1 v1 g2 v2 lv reach = 0
  · obtain ⟨hf1,_,_, hl1, hl2, hr1,_⟩ := pairOk h
    have hle := grid_le (field_open (lv := lv) hf1 hl1 hl2)
    obtain ⟨r, rfl⟩ : ∃ r : Nat, reach = r := ⟨reach.toNat, by omega⟩
    refine (Match_ok g1 v1 p1 c1 g2 v2 p2 c2 lv r w hv1 hv2 h).mono fun e w' ⟨y, h1, h2, h3⟩ => ⟨⟨y.l, y.p, y.c, y.R⟩, ⟨fun _ => h1, fun z => absurd h z, fun w k => evi_inv k, (ev_bds h1 (nP_le hle) (nP_le hle)).1, (ev_bds h1 (nP_le hle) (nP_le hle)).2⟩, by rw [h2, h], st_bag h3⟩
  · refine (Match_e g1 v1 p1 c1 g2 v2 p2 c2 lv reach w hv1 hv2 h).mono fun e w' ⟨h2, h3⟩ => ⟨⟨[], none, 0, []⟩, ⟨fun z => absurd z h, fun _ => rfl, fun w k => evi_nil w, Nat.zero_le _, by simp⟩, h2, st_bag h3⟩
theorem ev_at {l m : List EvR} {i : Nat} {a b : EvR} (h : l.map EvR.m = m.map EvR.m) (ha : l[i]? = some a) (hb : m[i]? = some b) : a.kd = b.kd ∧ a.f = b.f ∧ a.t = b.t := by
  have e := congrArg (fun l => l[i]?) h
  simp only [List.getElem?_map, ha, hb, Option.map_some, Option.some.injEq] at e
  exact ⟨congrArg EvM.kd e, congrArg EvM.f e, congrArg EvM.t e⟩
theorem ev_len2 {l m : List EvR} (h : l.map EvR.m = m.map EvR.m) : l.length = m.length := by have := congrArg List.length h; rwa [List.length_map, List.length_map] at this

end Go.Proofs.Ytgemekpofpoopaa

namespace Go.Proofs.Ytgemekpofpoopaa
open Go.SL Go.Proofs Go.Cast Go.Cell
set_option linter.unusedVariables false



theorem fpL_bag {Rs : List Res} : fpL [bagD Rs] = fpL Rs := by
  funext k
  refine propext ⟨fun h => ?_, fun h => ?_⟩
  · obtain ⟨r, hr, hk⟩ := fpL_mem.1 h
    have := List.mem_singleton.1 hr
    subst this
    obtain ⟨s, hs, hk⟩ := hk
    exact fpL_mem.2 ⟨s, hs, hk⟩
  · obtain ⟨s, hs, hk⟩ := fpL_mem.1 h
    exact fpL_mem.2 ⟨bagD Rs, List.mem_singleton.2 rfl, ⟨s, hs, hk⟩⟩
/-- A book, and what is known of it. -/
structure BkG where
  la : Int
  pm : Option Addr
  cm : Nat
  ys : List ArY
  pt : Option Addr
  ct : Nat
  kd : Nat → Int
  tk : List TkR
  of : Nat × Nat → Option Nat
  E : List (List EvM)
  Ms : List Nat
  yP : ArY
  vP : List Span
  X : List Res
abbrev BkG.F (b : Nat) (h : BkH) (s : BkG) : List Res := bkF b h s.la s.pm s.cm s.ys s.pt s.ct s.kd s.tk s.of
def BkG.R (b : Nat) (h : BkH) (s : BkG) : List Res := s.F b h ++ s.X
structure BkP (h : BkH) (N : Nat) (s : BkG) : Prop where
  n : s.ys.length = N
  m : s.Ms.length = N
  inv : TInv s.E s.Ms (s.tk.map TkR.m) s.of
  all : GoodAll s.E s.Ms
  last : ∀ n, N = n + 1 → s.ys[n]? = some s.yP ∧ ArP (gW h.g) (gH h.g) s.vP h.lv s.yP ∧ s.Ms.getD n 0 = s.yP.l.length ∧ s.X = s.yP.R (ofL (gW h.g) (gH h.g) (mayB s.vP h.lv)) ∧ gW h.g * gH h.g ≤ 4096
  la : s.la < 10 * N
  tk : s.tk.length ≤ 4096 * N
  kd : ∀ j, 0 ≤ s.kd j ∧ s.kd j ≤ 10000 * N
  sum : ∀ n, n ∈ s.Ms → n ≤ 4096
def bk0 (h : BkH) : BkG := ⟨-1, none, 0, [], none, 0, fun _ => 0, [], fun _ => none, [], [], ⟨[], none, 0, [], none, 0, [], none, 0, none, 0, [], none, 0⟩, [], []⟩
theorem BkP.zero {h : BkH} : BkP h 0 (bk0 h) := ⟨rfl, rfl, TInv.zero, ⟨fun n hn => absurd hn (Nat.not_lt_zero _)⟩, fun n hn => by omega, by show (-1 : Int) < 10 * ((0 : Nat) : Int); omega, Nat.zero_le _, fun j => ⟨Int.le_refl _, by show (0 : Int) ≤ _; omega⟩, fun n hn => by cases hn⟩
/-- What Add answers. -/
structure AnY where
  s : BkG
  ev : List EvR
  p : Option Addr
  c : Nat
  R : List Res
structure AnP (h : BkH) (N r : Nat) (vs : List Span) (s : BkG) (y : AnY) : Prop where
  bk : BkP h (N + 1) y.s
  v : y.s.vP = vs
  rd : ∀ w : World, (∀ r, r ∈ y.R → r.inv w) → EvI w y.p y.ev
  ev : 0 < N → EvP (gW h.g) (gH h.g) r (ofL (gW h.g) (gH h.g) (mayB s.vP h.lv)) (ofL (gW h.g) (gH h.g) (mayB vs h.lv)) (nP h.g s.vP h.lv) (nP h.g vs h.lv) (y.ev.map EvR.m)
  ev0 : N = 0 → y.ev = []
  ms : y.s.Ms = s.Ms ++ [nP h.g vs h.lv]
  tl : y.s.tk.length = s.tk.length + (if N = 0 then nP h.g vs h.lv else bgnE (y.ev.map EvR.m))
theorem nP_ar {g : Grid} {vs : List Span} {lv : Int} {y : ArY} (h : ArP (gW g) (gH g) vs lv y) : y.l.length = nP g vs lv := by
  have := congrArg List.length h.m
  rw [List.length_map] at this
  rw [this]; unfold areasM nP; rw [List.length_map]
theorem getD_app1' {l : List Nat} {n i : Nat} (h : i < l.length) : (l ++ [n]).getD i 0 = l.getD i 0 := by
  rw [List.getD_eq_getElem?_getD, List.getD_eq_getElem?_getD, List.getElem?_append_left h]
theorem good_app {E : List (List EvM)} {Ms : List Nat} {evs : List EvM} {m n : Nat} (h : GoodAll E Ms) (hN : Ms.length = n + 1) (hE : E.length = Ms.length) (hg : GoodEv (Ms.getD n 0) m evs) : GoodAll (E ++ [evs]) (Ms ++ [m]) := ⟨fun i hi => by
  rw [List.length_append, List.length_singleton] at hi
  by_cases e : i = n
  · subst e
    rw [getD_app1' (by omega), show (Ms ++ [m]).getD (i + 1) 0 = m from by rw [← hN]; exact getD_app2, show (E ++ [evs]).getD (i + 1) [] = evs from by rw [← hN, ← hE]; exact getD_app2]
    exact hg
  · rw [getD_app1' (by omega), getD_app1' (by omega), getD_app1 (by omega)]
    exact h.g i (by omega)⟩
theorem field_ok {G : Grid} {vs : List Span} (h : FldOk G vs) : fieldE 1073741824 ⟨G, vs⟩ = 0 := by
  have z := open_zero h (lv := 1) (by omega) (by omega)
  unfold openE at z
  split at z
  · rename_i q; exact absurd z q
  · rename_i q; exact Classical.not_not.1 q
theorem add_ok {h : BkH} {N : Nat} {s : BkG} {vs : List Span} (hb : BkP h N s) (hf : FldOk h.g vs) (hN : N ≤ 6) : addE h s.la s.ys.length (10 * (N : Int)) h.g vs = 0 := by
  have h1 := hb.la
  have h2 := hb.n
  unfold addE
  rw [if_neg (fun z => z (field_ok hf)), if_neg (fun z => z rfl), if_neg (by omega), if_neg (by omega), if_neg (by omega)]
theorem leftOf {β : Bs} {A B : List Res} {w : World} (h : St β (A ++ B) w) : St β A w := by
  exact h.map (fun j => j) (fun a b hab _ _ => hab) (fun j r hr => .inr (by rw [List.getElem?_append_left (List.getElem?_eq_some_iff.1 hr).1]; exact hr))
theorem st_bag2 {β : Bs} {A B : List Res} {w : World} (h : St β (A ++ B) w) : St β [bagD A, bagD B] w := by
  have h1 := St.bagD (Rs := A) (L := B) h
  have h2 : St β (B ++ [bagD A]) w := h1.perm (by
    have : (bagD A :: B).Perm (B ++ [bagD A]) := (List.perm_append_comm (l₁ := [bagD A]) (l₂ := B))
    exact this)
  exact (St.bagD (Rs := B) (L := [bagD A]) h2).perm (.swap _ _ _)
/-- Add, whichever map it is. -/
theorem Add_g (b : Nat) (h : BkH) (s : BkG) (N r : Nat) (vs : List Span) (pv : Option Addr) (cv : Nat) (w : World) (hh : Has w [bagD (s.R b h)]) (hvv : ∀ {L : List Res} {v : World}, St ⟨w, fpL [bagD (s.R b h)]⟩ L v → Spans v pv vs) (hb : BkP h N s) (hf : FldOk h.g vs) (hlv : 1 ≤ h.lv ∧ h.lv ≤ 1073741824) (hrc : h.rc = (r : Int)) (hr : r ≤ 8) (hN : N ≤ 6) :
  Calls Try.prog 48 #[.pointer (some ⟨b, 0, none⟩), .int .i64 (10 * (N : Int)), .agg #[.int .i64 h.g.x, .int .i64 h.g.y, .int .i64 h.g.size, .int .i64 h.g.wide, .int .i64 h.g.high, .slice pv vs.length cv]] w fun e w' => ∃ y : AnY, AnP h N r vs s y ∧ e = .returned (.tuple #[.slice y.p y.ev.length y.c, .int .i64 0]) ∧ St ⟨w, fpL [bagD (s.R b h)]⟩ [bagD (y.s.R b h), bagD y.R] w' := by
  have hle : gW h.g * gH h.g ≤ 4096 := area_le hf.grid
  have hU : Has w (s.F b h ++ s.X) := by
    have z := Has.unbag (R := []) hh
    rw [List.append_nil] at z
    exact z
  have hfp : fpL [bagD (s.R b h)] = fpL (s.F b h ++ s.X) := fpL_bag
  have hok := add_ok hb hf hN
  have hnP : nP h.g vs h.lv ≤ 4096 := nP_le hle
  have htk := hb.tk
  rw [hfp]
  rw [hfp] at hvv
  have hF : Has w (s.F b h) := hU.sub (List.sublist_append_left _ _)
  have up : ∀ {L : List Res} {v : World}, St ⟨w, fpL (s.F b h)⟩ L v → St ⟨w, fpL (s.F b h ++ s.X)⟩ (L ++ s.X) v := fun hs => St.callG hU.enter (fun k hk => hk) hs
  have hvF : ∀ {L : List Res} {v : World}, St ⟨w, fpL (s.F b h)⟩ L v → Spans v pv vs := fun hs => hvv (up hs)
  by_cases hN0 : N = 0
  · subst hN0
    have hys : s.ys = [] := List.eq_nil_of_length_eq_zero hb.n
    have hMs : s.Ms = [] := List.eq_nil_of_length_eq_zero hb.m
    have hE : s.E = [] := List.eq_nil_of_length_eq_zero (by rw [hb.inv.q.len, hMs]; rfl)
    have hok0 : addE h s.la 0 (10 * ((0 : Nat) : Int)) h.g vs = 0 := by rw [hys] at hok; exact hok
    have eF : s.F b h = bkF b h s.la s.pm s.cm [] s.pt s.ct s.kd s.tk s.of := by unfold BkG.F; rw [hys]
    refine (Add_0 b h s.la s.pm s.cm s.pt s.ct s.kd s.tk s.of (10 * ((0 : Nat) : Int)) vs pv cv w (by rw [← eF]; exact hF) (fun hs => hvF (by rw [eF]; exact hs)) hok0 hlv (by omega)).mono fun e w' ⟨y, ⟨h1, h2, h3⟩, h4, h5⟩ => ?_
    have hn := nP_ar h1
    have hi0 : TInv [] [] (s.tk.map TkR.m) s.of := by rw [← hE, ← hMs]; exact hb.inv
    have hq := (TInvQ.first (m := y.yN.l.length) hi0).births (N := 0) rfl (fun z => absurd z (Nat.lt_irrefl 0)) y.yN.l.length (Nat.le_refl _)
    rw [show ([[]] : List (List EvM)).getD 0 [] = [] from rfl, ← h2] at hq
    have hinv : TInv [[]] [y.yN.l.length] (y.tk.map TkR.m) y.of := TInvQ.done (N := 0) hq rfl
    have hlen : y.tk.length = s.tk.length + y.yN.l.length := by
      have z := congrArg (fun q => q.1.length) h2
      have z2 := births_len (N := 0) (evs := []) (s := (s.tk.map TkR.m, s.of)) (k := y.yN.l.length)
      simp only [List.length_map] at z
      rw [z, z2, first_new, List.length_map]
    refine ⟨⟨⟨10 * ((0 : Nat) : Int), y.pm, y.cm, [y.yN], y.pt, y.ct, s.kd, y.tk, y.of, [[]], [y.yN.l.length], y.yN, vs, y.yN.R (ofL (gW h.g) (gH h.g) (mayB vs h.lv))⟩, [], none, 0, []⟩, ?_, h4, ?_⟩
    · refine ⟨⟨rfl, rfl, hinv, ⟨fun n hn => by have : n + 1 < 1 := hn; omega⟩, fun n hn => ?_, by show (10 * ((0 : Nat) : Int)) < 10 * ((0 + 1 : Nat) : Int); omega, by show y.tk.length ≤ _; omega, fun j => ?_, fun n hn => ?_⟩, rfl, fun w _ => evi_nil w, fun z => absurd z (Nat.lt_irrefl 0), fun _ => rfl, by rw [hMs, hn]; rfl, by rw [if_pos rfl, ← hn]; exact hlen⟩
      · have : n = 0 := by omega
        subst this; exact ⟨rfl, h1, rfl, rfl, hle⟩
      · have := hb.kd j; show 0 ≤ s.kd j ∧ s.kd j ≤ _; omega
      · have : n = y.yN.l.length := List.mem_singleton.1 hn
        omega
    · rw [← eF] at h5
      have h6 := up h5
      have h7 : St ⟨w, fpL (s.F b h ++ s.X)⟩ (bkF b h (10 * ((0 : Nat) : Int)) y.pm y.cm [y.yN] y.pt y.ct s.kd y.tk y.of ++ y.yN.R (ofL (gW h.g) (gH h.g) (mayB vs h.lv))) w' := leftOf h6
      exact st_bag2 (A := _) (B := []) (by rw [List.append_nil]; exact h7)
  · obtain ⟨n, rfl⟩ : ∃ n, N = n + 1 := ⟨N - 1, by omega⟩
    obtain ⟨l1, l2, l3, l4,_⟩ := hb.last n rfl
    have hsp : ∀ {L : List Res} {v : World}, St ⟨w, fpL (s.F b h)⟩ L v → SpI v s.yP (ofL (gW h.g) (gH h.g) (mayB s.vP h.lv)) := fun hs => by
      have z := up hs
      rw [l4] at z
      exact SpI.of_res (St.rightOf z) l2 0 1 3 7 rfl rfl rfl rfl
    have hys := hb.n
    have hokn : addE h s.la s.ys.length (10 * ((n + 1 : Nat) : Int)) h.g vs = 0 := hok
    refine (Add_1 b h s.la s.pm s.cm s.ys s.pt s.ct s.kd s.tk s.of (10 * ((n + 1 : Nat) : Int)) vs pv cv w hF hvF hokn hlv (by omega) n r hys (by omega) s.yP l1 s.vP l2 hsp s.E s.Ms hb.inv hb.m l3 hrc hr (fun j => by have := hb.kd j; omega)).mono fun e w' ⟨y, hy, h4, h5⟩ => ?_
    have hn := nP_ar hy.ar
    have hnp := nP_ar l2
    have hev := hy.ev
    rw [hnp, hn] at hev
    have hg := hev.good
    have hgs : GoodEv (s.Ms.getD n 0) (nP h.g vs h.lv) (y.ev.l.map EvR.m) := by rw [l3, hnp]; exact hg
    have hN2 : (s.Ms ++ [nP h.g vs h.lv]).length = (n + 1) + 1 := by rw [List.length_append, hb.m]; rfl
    have hEl : (s.E ++ [y.ev.l.map EvR.m]).getD (n + 1) [] = y.ev.l.map EvR.m := by
      have e : n + 1 = s.E.length := by rw [hb.inv.q.len, hb.m]
      rw [e]; exact getD_app2
    have hM1 : (s.Ms ++ [nP h.g vs h.lv]).getD n 0 = s.Ms.getD n 0 := getD_app1' (by rw [hb.m]; omega)
    have hM2 : (s.Ms ++ [nP h.g vs h.lv]).getD (n + 1) 0 = nP h.g vs h.lv := by
      have e : n + 1 = s.Ms.length := hb.m.symm
      rw [e]; exact getD_app2
    have hq0 := TInvQ.change (m := nP h.g vs h.lv) hb.inv hb.m hgs
    have hgb : 0 < n + 1 → GoodEv ((s.Ms ++ [nP h.g vs h.lv]).getD (n + 1 - 1) 0) ((s.Ms ++ [nP h.g vs h.lv]).getD (n + 1) 0) ((s.E ++ [y.ev.l.map EvR.m]).getD (n + 1) []) := fun _ => by
      rw [hM2, hEl, show n + 1 - 1 = n from rfl, hM1]; exact hgs
    have hq := hq0.births (N := n + 1) hN2 hgb (nP h.g vs h.lv) (by rw [hM2]; exact Nat.le_refl _)
    rw [hEl] at hq
    have htrk := hy.trk
    rw [hn] at htrk
    rw [← htrk] at hq
    have hinv : TInv (s.E ++ [y.ev.l.map EvR.m]) (s.Ms ++ [nP h.g vs h.lv]) (y.tk.map TkR.m) y.of := TInvQ.done (N := n + 1) (by rw [hM2]; exact hq) hN2
    have hlen : y.tk.length = s.tk.length + bgnE (y.ev.l.map EvR.m) := by
      have z := congrArg (fun q => q.1.length) htrk
      have z2 := births_len (N := n + 1) (evs := y.ev.l.map EvR.m) (s := ((s.tk.map TkR.m).map (chgB (n + 1) (y.ev.l.map EvR.m)), ofC n (y.ev.l.map EvR.m) s.of)) (k := nP h.g vs h.lv)
      simp only [List.length_map] at z
      rw [z, z2, hg.newT (Nat.succ_ne_zero n), List.length_map, List.length_map]
    have hevl := hg.lenE
    rw [List.length_map] at hevl
    have hnv : nP h.g s.vP h.lv ≤ 4096 := nP_le hle
    have hyl := hy.len
    refine ⟨⟨⟨10 * ((n + 1 : Nat) : Int), y.pm, y.cm, s.ys ++ [y.yN], y.pt, y.ct, y.kd, y.tk, y.of, s.E ++ [y.ev.l.map EvR.m], s.Ms ++ [nP h.g vs h.lv], y.yN, vs, y.yN.R (ofL (gW h.g) (gH h.g) (mayB vs h.lv))⟩, y.ev.l, y.ev.p, y.ev.c, y.ev.R⟩, ?_, h4, ?_⟩
    · refine ⟨⟨by rw [List.length_append, hys]; rfl, hN2, hinv, good_app hb.all hb.m hb.inv.q.len hgs, fun k hk => ?_, by show (10 * ((n + 1 : Nat) : Int)) < 10 * ((n + 1 + 1 : Nat) : Int); omega, by show y.tk.length ≤ _; omega, fun j => ?_, fun k hk => ?_⟩, rfl, fun w k => evi_inv k, fun _ => hev, fun z => absurd z (Nat.succ_ne_zero n), rfl, by rw [if_neg (Nat.succ_ne_zero n)]; exact hlen⟩
      · have : k = n + 1 := by omega
        subst this
        refine ⟨?_, hy.ar, by rw [hM2, hn], rfl, hle⟩
        show (s.ys ++ [y.yN])[n + 1]? = some y.yN
        rw [List.getElem?_append_right (by omega), hys, Nat.sub_self]; rfl
      · have hz := kdF_bd (es := y.ev.l.map EvR.m) (kd := s.kd) (B := 10000 * ((n + 1 : Nat) : Int)) (fun j => hb.kd j) j
        show 0 ≤ y.kd j ∧ y.kd j ≤ _
        rw [hy.kd]
        rw [List.length_map] at hz
        omega
      · rcases List.mem_append.1 hk with z | z
        · exact hb.sum k z
        · have := List.mem_singleton.1 z; omega
    · have h6 := up h5
      have h7 : St ⟨w, fpL (s.F b h ++ s.X)⟩ ((bkF b h (10 * ((n + 1 : Nat) : Int)) y.pm y.cm (s.ys ++ [y.yN]) y.pt y.ct y.kd y.tk y.of ++ y.yN.R (ofL (gW h.g) (gH h.g) (mayB vs h.lv))) ++ y.ev.R) w' := by rw [List.append_assoc]; exact leftOf h6
      exact st_bag2 h7

end Go.Proofs.Ytgemekpofpoopaa

namespace Go.Proofs.Ytgemekpofpoopaa
open Go.SL Go.Proofs Go.Cast Go.Cell
set_option linter.unusedVariables false

theorem C96 : IsFn Try.prog 96 := ⟨_, Try.func96, by decide, rfl⟩
theorem C97 : IsFn Try.prog 97 := ⟨_, Try.func97, by decide, rfl⟩


section
variable {E : List (List EvM)} {Ms : List Nat} {tk : List TkM} {of : Nat × Nat → Option Nat} {t : TkM} {n k j : Nat}
/-- Which areas are through: those of the histories below 'n', and of 'n' itself the first 'k'. -/
def vis (of : Nat × Nat → Option Nat) (tk : List TkM) (n k : Nat) (a : Int × Int) : Option Bool :=
  match ofI of a with
  | some m => if m < n ∨ (m = n ∧ a.1 < (((tk.getD n zT).fr + k : Nat) : Int)) then some true else none
  | none => none
theorem ofI_some {a : Int × Int} {m : Nat} (h : ofI of a = some m) : ∃ x y : Nat, a = ((x : Int), (y : Int)) ∧ of (x, y) = some m := by
  unfold ofI at h
  split at h
  · rename_i z
    exact ⟨a.1.toNat, a.2.toNat, Prod.ext (by show a.1 = _; omega) (by show a.2 = _; omega), h⟩
  · cases h
theorem vis_zero (h : TInv E Ms tk of) : vis of tk 0 0 = fun _ => none := by
  funext a
  unfold vis
  cases e : ofI of a with
  | none => rfl
  | some m =>
    obtain ⟨x, y, rfl, ho⟩ := ofI_some e
    obtain ⟨t, ht, h1,_⟩ := (h.q.base.ofi x y m).1 ho
    dsimp only
    refine if_neg fun z => ?_
    rcases z with z | ⟨z, z2⟩
    · exact absurd z (Nat.not_lt_zero _)
    · subst z
      rw [zT_at ht] at z2
      omega
theorem vis_none (h : TInv E Ms tk of) (ht : tk[n]? = some t) {a : Nat} (ha : t.ar[k]? = some a) : vis of tk n k (((t.fr + k : Nat) : Int), (a : Int)) = none := by
  unfold vis
  rw [ofI_nat, (h.at_ ht ha).1]
  dsimp only
  rw [zT_at ht]
  exact if_neg (by omega)
theorem vis_set (h : TInv E Ms tk of) (ht : tk[n]? = some t) {a : Nat} (ha : t.ar[k]? = some a) : updG (vis of tk n k) (((t.fr + k : Nat) : Int), (a : Int)) true = vis of tk n (k + 1) := by
  funext b
  unfold updG
  by_cases e : b = (((t.fr + k : Nat) : Int), (a : Int))
  · subst e
    rw [if_pos rfl]
    unfold vis
    rw [ofI_nat, (h.at_ ht ha).1]
    dsimp only
    rw [zT_at ht, if_pos (by omega)]
  · rw [if_neg e]
    unfold vis
    cases eo : ofI of b with
    | none => rfl
    | some m =>
      obtain ⟨x, y, rfl, ho⟩ := ofI_some eo
      obtain ⟨s, hs, h1, h2⟩ := (h.q.base.ofi x y m).1 ho
      dsimp only
      rw [zT_at ht]
      have key : m = n → x ≠ t.fr + k := fun em ex => by
        subst em
        rw [hs] at ht
        have := Option.some.inj ht
        subst this
        subst ex
        rw [show s.fr + k - s.fr = k by omega, ha] at h2
        exact e (by rw [Option.some.inj h2])
      by_cases c : m < n ∨ (m = n ∧ (x : Int) < ((t.fr + k : Nat) : Int))
      · rw [if_pos c, if_pos (by omega)]
      · rw [if_neg c, if_neg (by
          intro z
          rcases z with z | ⟨z1, z2⟩
          · exact c (.inl z)
          · have := key z1
            exact c (.inr ⟨z1, by omega⟩))]
theorem vis_next (h : TInv E Ms tk of) (ht : tk[n]? = some t) : vis of tk n t.ar.length = vis of tk (n + 1) 0 := by
  funext b
  unfold vis
  cases eo : ofI of b with
  | none => rfl
  | some m =>
    obtain ⟨x, y, rfl, ho⟩ := ofI_some eo
    obtain ⟨s, hs, h1, h2⟩ := (h.q.base.ofi x y m).1 ho
    have h3 := (List.getElem?_eq_some_iff.1 h2).1
    dsimp only
    rw [zT_at ht]
    have k1 : m = n → (x : Int) < ((t.fr + t.ar.length : Nat) : Int) := fun em => by
      subst em
      rw [hs] at ht
      have := Option.some.inj ht
      subst this
      omega
    have k2 : m = n + 1 → ¬ (x : Int) < (((tk.getD (n + 1) zT).fr + 0 : Nat) : Int) := fun em => by
      subst em
      rw [zT_at hs]
      omega
    by_cases c : m < n ∨ (m = n ∧ (x : Int) < ((t.fr + t.ar.length : Nat) : Int))
    · rw [if_pos c, if_pos (.inl (by omega))]
    · rw [if_neg c, if_neg (by
        intro z
        rcases z with z | ⟨z1, z2⟩
        · rcases Nat.lt_succ_iff_lt_or_eq.1 z with z | z
          · exact c (.inl z)
          · exact c (.inr ⟨z, k1 z⟩)
        · exact k2 z1 z2)]
theorem vis_end (h : TInv E Ms tk of) (a : Int × Int) : (vis of tk tk.length 0 a).isSome = true ↔ (ofI of a).isSome = true := by
  unfold vis
  cases eo : ofI of a with
  | none => rfl
  | some m =>
    obtain ⟨x, y, rfl, ho⟩ := ofI_some eo
    obtain ⟨s, hs,_⟩ := (h.q.base.ofi x y m).1 ho
    dsimp only
    rw [if_pos (.inl (len_at hs))]
    simp
theorem prs_of (h : TInv E Ms tk of) (a : Int × Int) : a ∈ prs Ms ↔ (ofI of a).isSome = true := by
  rw [mem_prs]
  constructor
  · rintro ⟨n, i, hn, hi, rfl⟩
    obtain ⟨k,_, hk,_⟩ := h.all hn hi
    rw [ofI_nat, hk]; rfl
  · intro ha
    obtain ⟨m, hm⟩ := Option.isSome_iff_exists.1 ha
    obtain ⟨x, y, rfl, ho⟩ := ofI_some hm
    obtain ⟨s, hs, h1, h2⟩ := (h.q.base.ofi x y m).1 ho
    obtain ⟨_, h4, h5⟩ := h.at_ hs h2
    rw [show s.fr + (x - s.fr) = x by omega] at h4 h5
    exact ⟨x, y, h4, h5, rfl⟩
theorem rl_bd {nx : Nat → List Nat} {n B : Nat} {met : Nat → Bool} (h : ∀ k, (nx k).length ≤ B) : rlB nx n met ≤ n * B := by
  unfold rlB
  have key : ∀ l : List Nat, (l.map fun k => (nx k).length).sum ≤ l.length * B := fun l => by
    induction l with
    | nil => simp
    | cons a l ih =>
      rw [List.map_cons, List.sum_cons, List.length_cons, Nat.add_mul, Nat.one_mul]
      have := h a; omega
  refine Nat.le_trans (key _) (Nat.mul_le_mul_right _ ?_)
  refine Nat.le_trans (List.length_filter_le _ _) (by simp)
theorem nxP_len (h : TInv E Ms tk of) (k : Nat) : (nxP tk k).length ≤ tk.length := by
  unfold nxP
  by_cases hk : k < tk.length
  · obtain ⟨t, ht⟩ := at_ex hk
    rw [zT_at ht, h.q.pa k t ht]
    refine Nat.le_trans (List.length_filter_le _ _) (by simp)
  · rw [nx_none (by omega)]; exact Nat.zero_le _
theorem nxC_len (h : TInv E Ms tk of) (k : Nat) : (nxC tk k).length ≤ tk.length := by
  unfold nxC
  by_cases hk : k < tk.length
  · obtain ⟨t, ht⟩ := at_ex hk
    rw [zT_at ht, h.q.ch k t ht]
    refine Nat.le_trans (List.length_filter_le _ _) (by simp)
  · rw [nx_none (by omega)]; exact Nat.zero_le _
end
theorem tk_m {tk : List TkR} {k : Nat} {t : TkR} (h : tk[k]? = some t) : (tk.map TkR.m).getD k zT = t.m := zT_at (by rw [List.getElem?_map, h]; rfl)
/-- What is read of a book. -/
structure BkI (w : World) (b : Nat) (h : BkH) (s : BkG) : Prop where
  c : Cells w ⟨b, 0, none⟩ (bkC h s.la ⟨s.pm, s.ys.length, s.cm⟩ s.pt s.tk.length s.ct s.kd)
  tk : RO 6 TkR.cells w s.pt s.tk
  ti : ∀ t, t ∈ s.tk → TkI w t
  of : (mapR plV niV h.bm (ofI s.of)).inv w
theorem BkI.keep {w0 : World} {b : Nat} {h : BkH} {s : BkG} (k : BkI w0 b h s) {L : List Res} : ∀ w, St (bs w0) L w → BkI w b h s := fun w hw => ⟨cells_keep k.c w hw, k.tk.keep w hw, fun t ht => (k.ti t ht).keep w hw, mapR_keep k.of w hw⟩
theorem BkI.mk' {w : World} {b : Nat} {h : BkH} {s : BkG} (k : ∀ r, r ∈ s.R b h → r.inv w) : BkI w b h s where
  c := by
    have z := k (blk b (.cells (bkC h s.la ⟨s.pm, s.ys.length, s.cm⟩ s.pt s.tk.length s.ct s.kd).toArray 119)) (by unfold BkG.R BkG.F bkF; simp)
    have y := cells_inv z
    simpa using y
  tk := own_inv_ro (k (own 109 6 s.pt s.ct (s.tk.map TkR.cells)) (by unfold BkG.R BkG.F bkF; simp))
  ti := fun t ht => ⟨own_inv_ro ((k (bagD (s.tk.map TkR.aR)) (by unfold BkG.R BkG.F bkF; simp)).1 _ (List.mem_map_of_mem (f := TkR.aR) ht)), own_inv_ro ((k (bagD (s.tk.map TkR.pR)) (by unfold BkG.R BkG.F bkF; simp)).1 _ (List.mem_map_of_mem (f := TkR.pR) ht)), own_inv_ro ((k (bagD (s.tk.map TkR.cR)) (by unfold BkG.R BkG.F bkF; simp)).1 _ (List.mem_map_of_mem (f := TkR.cR) ht))⟩
  of := k (mapR plV niV h.bm (ofI s.of)) (by unfold BkG.R BkG.F bkF; simp)

set_option maxRecDepth 20000 in
theorem pastF_c (t : TkR) (w : World) :
  Calls Try.prog 96 #[tkV t] w fun e w' => e = .returned (.slice t.pp t.pa.length t.pc) ∧ St (bs w) [] w' := by
  refine enter (vs := [_]) (env := [(0,_)]) Try.func96 rfl rfl rfl rfl ?_
  refine VC.seq ?_
  refine VC.reg (VO.h rfl<|HO.box (C := #[_,_,_,_,_,_]) rfl rfl fun b1 => VO.l (LO.as (.r rfl)) rfl<|VO.nil ?_)
  refine VE.seqN ?_
  refine VC.seq ?_
  refine VC.reg (VO.l (LO.fa (r := 4) F109_4 (.r rfl) rfl) rfl<|VO.l (LO.ld O40 (.r rfl) (fun _ hw => cells_at hw 0 rfl ⟨_, rfl⟩)) rfl<|VO.l (LO.as (.r rfl)) rfl<|VO.nil ?_)
  refine VE.seqN ?_
  refine VC.ret (VE.res (vs := [_]) rfl ⟨rfl, trivial⟩ (fun w hw => ?_))
  exact ⟨rfl, hw.nil⟩

set_option maxRecDepth 20000 in
theorem futF_c (t : TkR) (w : World) :
  Calls Try.prog 97 #[tkV t] w fun e w' => e = .returned (.slice t.cp t.ch.length t.cc) ∧ St (bs w) [] w' := by
  refine enter (vs := [_]) (env := [(0,_)]) Try.func97 rfl rfl rfl rfl ?_
  refine VC.seq ?_
  refine VC.reg (VO.h rfl<|HO.box (C := #[_,_,_,_,_,_]) rfl rfl fun b1 => VO.l (LO.as (.r rfl)) rfl<|VO.nil ?_)
  refine VE.seqN ?_
  refine VC.seq ?_
  refine VC.reg (VO.l (LO.fa (r := 5) F109_5 (.r rfl) rfl) rfl<|VO.l (LO.ld O40 (.r rfl) (fun _ hw => cells_at hw 0 rfl ⟨_, rfl⟩)) rfl<|VO.l (LO.as (.r rfl)) rfl<|VO.nil ?_)
  refine VE.seqN ?_
  refine VC.ret (VE.res (vs := [_]) rfl ⟨rfl, trivial⟩ (fun w hw => ?_))
  exact ⟨rfl, hw.nil⟩

set_option maxRecDepth 20000 in
set_option maxHeartbeats 4000000 in
theorem Past_ok (b : Nat) (h : BkH) (s : BkG) (n : Nat) (t : TkR) (w : World) (hb : BkI w b h s) (hI : TInv s.E s.Ms (s.tk.map TkR.m) s.of) (hlen : s.tk.length ≤ 30000) (hnt : s.tk[n]? = some t) :
  Calls Try.prog 52 #[.pointer (some ⟨b, 0, none⟩), .int .i64 (n : Int)] w fun e w' => ∃ y : RlY, RlP (nxP (s.tk.map TkR.m)) n y.l ∧ e = .returned (.tuple #[.slice y.p y.l.length y.c, .int .i64 0]) ∧ St (bs w) [own 3 1 y.p y.c (y.l.map nC)] w' := by
  have hnl := (List.getElem?_eq_some_iff.1 hnt).1
  have hml : (s.tk.map TkR.m).length = s.tk.length := List.length_map ..
  have hall : ∀ x, Rch (nxP (s.tk.map TkR.m)) n x → x < s.tk.length := fun x hx => by have := past_lt hI hx; omega
  have hsz : rlB (nxP (s.tk.map TkR.m)) s.tk.length (fun _ => false) + (nxP (s.tk.map TkR.m) n).length ≤ 1000000000 := by have h1 := rl_bd (n := s.tk.length) (met := fun _ => false) (fun k => nxP_len hI k); have h2 := nxP_len hI n; rw [hml] at h1 h2; have h3 := Nat.mul_le_mul hlen hlen; omega
  refine enter (vs := [_,_]) (env := [(0,_), (1,_)]) Try.func52 rfl rfl rfl rfl ?_
  refine VC.seq ?_
  refine VC.reg (VO.l (LO.as (.r rfl)) rfl<|VO.l (LO.as (.r rfl)) rfl<|VO.nil ?_)
  refine VE.seqN ?_
  refine VC.seq ?_
  refine VC.reg (VO.l (LO.mv (.r rfl)) rfl<|VO.l (LO.mv (.r rfl)) rfl<|VO.h rfl<|HO.callx (xs := [_,_,_]) (vs := [_,_,_]) C95 ⟨(.r rfl), (.r rfl), (.r rfl), trivial⟩ (fun w2 hw => relatives_ok b h s.la ⟨s.pm, s.ys.length, s.cm⟩ s.pt s.ct s.kd s.tk w2 (hb.keep w2 hw).c (hb.keep w2 hw).tk (by omega) n 96 TkR.pp TkR.pc TkR.pa C96 (fun w3 t _ => pastF_c t w3) (fun t ht => ((hb.keep w2 hw).ti t ht).p) (nxP (s.tk.map TkR.m)) (fun k t ht => by unfold nxP; rw [tk_m ht]; rfl) hall hsz t hnt) fun y hy => VO.h rfl<|HO.lo (LO.ex (.r rfl) rfl)<|VO.h rfl<|HO.lo (LO.ex (.r rfl) rfl)<|VO.h rfl<|HO.lo (LO.as (.r rfl))<|VO.h rfl<|HO.lo (LO.as (.r rfl))<|VO.nil ?_)
  refine VE.seqN ?_
  refine VC.ret (VE.res (vs := [_,_]) rfl ⟨rfl, rfl, trivial⟩ (fun w hw => ?_))
  exact ⟨y, hy, rfl, selK [0] rfl rfl _ hw⟩

set_option maxRecDepth 20000 in
set_option maxHeartbeats 4000000 in
theorem Future_ok (b : Nat) (h : BkH) (s : BkG) (n : Nat) (t : TkR) (w : World) (hb : BkI w b h s) (hI : TInv s.E s.Ms (s.tk.map TkR.m) s.of) (hlen : s.tk.length ≤ 30000) (hnt : s.tk[n]? = some t) :
  Calls Try.prog 53 #[.pointer (some ⟨b, 0, none⟩), .int .i64 (n : Int)] w fun e w' => ∃ y : RlY, RlP (nxC (s.tk.map TkR.m)) n y.l ∧ e = .returned (.tuple #[.slice y.p y.l.length y.c, .int .i64 0]) ∧ St (bs w) [own 3 1 y.p y.c (y.l.map nC)] w' := by
  have hnl := (List.getElem?_eq_some_iff.1 hnt).1
  have hml : (s.tk.map TkR.m).length = s.tk.length := List.length_map ..
  have hall : ∀ x, Rch (nxC (s.tk.map TkR.m)) n x → x < s.tk.length := fun x hx => by have := future_lt hI hx; omega
  have hsz : rlB (nxC (s.tk.map TkR.m)) s.tk.length (fun _ => false) + (nxC (s.tk.map TkR.m) n).length ≤ 1000000000 := by have h1 := rl_bd (n := s.tk.length) (met := fun _ => false) (fun k => nxC_len hI k); have h2 := nxC_len hI n; rw [hml] at h1 h2; have h3 := Nat.mul_le_mul hlen hlen; omega
  refine enter (vs := [_,_]) (env := [(0,_), (1,_)]) Try.func53 rfl rfl rfl rfl ?_
  refine VC.seq ?_
  refine VC.reg (VO.l (LO.as (.r rfl)) rfl<|VO.l (LO.as (.r rfl)) rfl<|VO.nil ?_)
  refine VE.seqN ?_
  refine VC.seq ?_
  refine VC.reg (VO.l (LO.mv (.r rfl)) rfl<|VO.l (LO.mv (.r rfl)) rfl<|VO.h rfl<|HO.callx (xs := [_,_,_]) (vs := [_,_,_]) C95 ⟨(.r rfl), (.r rfl), (.r rfl), trivial⟩ (fun w2 hw => relatives_ok b h s.la ⟨s.pm, s.ys.length, s.cm⟩ s.pt s.ct s.kd s.tk w2 (hb.keep w2 hw).c (hb.keep w2 hw).tk (by omega) n 97 TkR.cp TkR.cc TkR.ch C97 (fun w3 t _ => futF_c t w3) (fun t ht => ((hb.keep w2 hw).ti t ht).c) (nxC (s.tk.map TkR.m)) (fun k t ht => by unfold nxC; rw [tk_m ht]; rfl) hall hsz t hnt) fun y hy => VO.h rfl<|HO.lo (LO.ex (.r rfl) rfl)<|VO.h rfl<|HO.lo (LO.ex (.r rfl) rfl)<|VO.h rfl<|HO.lo (LO.as (.r rfl))<|VO.h rfl<|HO.lo (LO.as (.r rfl))<|VO.nil ?_)
  refine VE.seqN ?_
  refine VC.ret (VE.res (vs := [_,_]) rfl ⟨rfl, rfl, trivial⟩ (fun w hw => ?_))
  exact ⟨y, hy, rfl, selK [0] rfl rfl _ hw⟩

end Go.Proofs.Ytgemekpofpoopaa
