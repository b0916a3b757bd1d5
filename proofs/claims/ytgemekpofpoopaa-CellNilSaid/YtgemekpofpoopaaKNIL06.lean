/-
  The chapter's examples hold.
  CellNil, walked.
-/
import Derived.Test.YtgemekpofpoopaaKNIL05

set_option linter.unusedSimpArgs false
namespace Go.Proofs.Ytgemekpofpoopaa
open Go.SL Go.Proofs Go.Cast Go.Cell
set_option linter.unusedVariables false

theorem C56 : IsFn Try.prog 56 := ⟨_, Try.func56, by decide, rfl⟩
theorem C17 : IsFn Try.prog 17 := ⟨_, Try.func17, by decide, rfl⟩
theorem C26 : IsFn Try.prog 26 := ⟨_, Try.func26, by decide, rfl⟩
theorem EA71 : FlatA Try.prog 71 2 := ⟨⟨_, Try.underlying71, rfl⟩, by kernel_rfl, by kernel_rfl⟩
theorem C20 : IsFn Try.prog 20 := ⟨_, Try.func20, by decide, rfl⟩
theorem C22 : IsFn Try.prog 22 := ⟨_, Try.func22, by decide, rfl⟩
theorem C24 : IsFn Try.prog 24 := ⟨_, Try.func24, by decide, rfl⟩
theorem C27 : IsFn Try.prog 27 := ⟨_, Try.func27, by decide, rfl⟩
theorem C30 : IsFn Try.prog 30 := ⟨_, Try.func30, by decide, rfl⟩
theorem EA85 : FlatA Try.prog 85 2 := ⟨⟨_, Try.underlying85, rfl⟩, by kernel_rfl, by kernel_rfl⟩
theorem C47 : IsFn Try.prog 47 := ⟨_, Try.func47, by decide, rfl⟩
theorem C48 : IsFn Try.prog 48 := ⟨_, Try.func48, by decide, rfl⟩
theorem C49 : IsFn Try.prog 49 := ⟨_, Try.func49, by decide, rfl⟩
theorem F109_0 : FieldAt Try.prog 109 0 0 := ⟨_,_, Try.underlying109, rfl, rfl, 0, by kernel_rfl⟩
theorem C50 : IsFn Try.prog 50 := ⟨_, Try.func50, by decide, rfl⟩
theorem EA105 : FlatA Try.prog 105 9 := ⟨⟨_, Try.underlying105, rfl⟩, by kernel_rfl, by kernel_rfl⟩


theorem rowF_c (b : Nat) (w : World) (h : Ints w (some ⟨b, 0, none⟩) [5,5,2,5,5,5,0,1]) : Calls Try.prog (56) #[.slice (some ⟨b, 0, none⟩) 8 8] w fun e w' => ∃ y : SlY, True ∧ e = .returned (fieldV xG y.p xF.length y.c) ∧ St (bs w) [own 71 2 y.p y.c (xF.map Span.cells)] w' := row_c [5,5,2,5,5,5,0,1] _ 8 w h (by decide)
theorem rowH_c (b : Nat) (w : World) (h : Ints w (some ⟨b, 0, none⟩) [0,1,5,5,2,5,5,5]) : Calls Try.prog (56) #[.slice (some ⟨b, 0, none⟩) 8 8] w fun e w' => ∃ y : SlY, True ∧ e = .returned (fieldV xG y.p xH.length y.c) ∧ St (bs w) [own 71 2 y.p y.c (xH.map Span.cells)] w' := row_c [0,1,5,5,2,5,5,5] _ 8 w h (by decide)
theorem xJoin2_c (p : Option Addr) (c : Nat) (w : World) (hv : Spans w p xF) : Calls Try.prog (20) #[fieldV xG p xF.length c, .int .i64 5, .int .i64 0, .int .i64 2] w fun e w' => e = .returned (.tuple #[.int .i64 3, .int .i64 0]) ∧ St (bs w) [] w' := by
  have z := Joined_ok xG xF p c 5 0 2 w hv xP2
  rw [xJ2] at z; exact z
theorem xJoin3_c (p : Option Addr) (c : Nat) (w : World) (hv : Spans w p xF) : Calls Try.prog (20) #[fieldV xG p xF.length c, .int .i64 5, .int .i64 0, .int .i64 3] w fun e w' => e = .returned (.tuple #[.int .i64 2, .int .i64 0]) ∧ St (bs w) [] w' := by
  have z := Joined_ok xG xF p c 5 0 3 w hv xP3
  rw [xJ3] at z; exact z
theorem xGap2_c (p : Option Addr) (c : Nat) (w : World) (hv : Spans w p xF) : Calls Try.prog (22) #[fieldV xG p xF.length c, .int .i64 5, .int .i64 0, .int .i64 2] w fun e w' => e = .returned (.tuple #[.int .i64 1, .int .i64 0]) ∧ St (bs w) [] w' :=
  (Gap_ok xG xF p c 5 0 2 w hv xP2).mono fun e w' ⟨z, h1, h2, h3⟩ => ⟨by rw [h2, xGap2 h1], h3⟩
theorem xGap3_c (p : Option Addr) (c : Nat) (w : World) (hv : Spans w p xF) : Calls Try.prog (22) #[fieldV xG p xF.length c, .int .i64 5, .int .i64 0, .int .i64 3] w fun e w' => e = .returned (.tuple #[.int .i64 (-1), .int .i64 0]) ∧ St (bs w) [] w' :=
  (Gap_ok xG xF p c 5 0 3 w hv xP3).mono fun e w' ⟨z, h1, h2, h3⟩ => ⟨by rw [h2, xGap3 h1], h3⟩
structure XtY where
  p : Option Addr
  c : Nat
  p1 : Option Addr
  c1 : Nat
  p2 : Option Addr
  c2 : Nat
theorem xTree_c (p : Option Addr) (c b : Nat) (w : World) (hv : Spans w p xF) (hl : Ints w (some ⟨b, 0, none⟩) [1,5]) : Calls Try.prog (24) #[fieldV xG p xF.length c, .slice (some ⟨b, 0, none⟩) 2 2] w fun e w' => ∃ y : XtY, True ∧ e = .returned (.tuple #[.slice y.p 2 y.c, .int .i64 0]) ∧ St (bs w) [own 40 1 y.p y.c (([⟨y.p1, y.c1, [-1]⟩, ⟨y.p2, y.c2, [0]⟩] : List (RowA Int)).map rowC), bagR 3 1 iC [⟨y.p1, y.c1, [-1]⟩, ⟨y.p2, y.c2, [0]⟩]] w' :=
  (Tree_ok xG xF p c [1,5] _ 2 w hv hl xTreeE).mono fun e w' ⟨y, h1, h2, h3⟩ => by
    rw [xTree] at h1
    obtain ⟨p1, c1, p2, c2, e1⟩ := row_list2 h1
    rw [e1] at h2 h3
    exact ⟨⟨y.p, y.c, p1, c1, p2, c2⟩, trivial, h2, h3⟩
structure XeY where
  p : Option Addr
  c : Nat
  fp : Option Addr
  fc : Nat
  tp : Option Addr
  tc : Nat
def XeY.e (y : XeY) : EvR := ⟨4, y.fp, y.fc, [0], y.tp, y.tc, [0]⟩
theorem ev_list {l : List EvR} {e : EvM} (h : l.map EvR.m = [e]) : ∃ fp fc tp tc, l = [⟨e.kd, fp, fc, e.f, tp, tc, e.t⟩] := by
  rcases l with _ | ⟨a,_ | ⟨b, r⟩⟩
  · cases h
  · obtain ⟨kd, fp, fc, f, tp, tc, t⟩ := a
    have h := (List.cons.inj h).1
    subst h; exact ⟨fp, fc, tp, tc, rfl⟩
  · cases (List.cons.inj h).2
theorem xMatch_c (p : Option Addr) (c : Nat) (q : Option Addr) (d : Nat) (w : World) (hv : Spans w p xF) (hu : Spans w q xH) : Calls Try.prog (27) #[fieldV xG p xF.length c, fieldV xG q xH.length d, .int .i64 5, .int .i64 1] w fun e w' => ∃ y : XeY, True ∧ e = .returned (.tuple #[.slice y.p 1 y.c, .int .i64 0]) ∧ St (bs w) [own 81 3 y.p y.c ([y.e].map EvR.cells), bagD ([y.e].map EvR.fR), bagD ([y.e].map EvR.tR)] w' :=
  (Match_ok xG xF p c xG xH q d 5 1 w hv hu xPair).mono fun e w' ⟨y, h1, h2, h3⟩ => by
    rw [xNf, xNh] at h1
    obtain ⟨fp, fc, tp, tc, e1⟩ := ev_list (xEv h1)
    obtain ⟨l, yp, yc⟩ := y
    subst e1
    exact ⟨⟨yp, yc, fp, fc, tp, tc⟩, trivial, h2, h3⟩
def xMv : List Mv := [⟨-1, -1⟩, ⟨0, -1⟩, ⟨1, -1⟩, ⟨-1,0⟩, ⟨1,0⟩, ⟨-1,1⟩, ⟨0,1⟩, ⟨1,1⟩]
theorem xMoves_c (p : Option Addr) (c : Nat) (q : Option Addr) (d : Nat) (w : World) (hv : Spans w p xF) (hu : Spans w q xH) : Calls Try.prog (30) #[fieldV xG p xF.length c, fieldV xG q xH.length d, .int .i64 5, .int .i64 1, .int .i64 0, .int .i64 0] w fun e w' => ∃ y : SlY, True ∧ e = .returned (.tuple #[.slice y.p 8 y.c, .int .i64 0]) ∧ St (bs w) [own 85 2 y.p y.c (xMv.map Mv.cells)] w' :=
  (Moves_ok xG xF p c xG xH q d 5 0 0 1 w hv hu xMoveE).mono fun e w' ⟨y, h1, h2, h3⟩ => by
    rw [xMoves] at h2 h3
    exact ⟨y, trivial, h2, h3⟩
structure XaY where
  p : Option Addr
  c : Nat
  pp : Option Addr
  pc : Nat
  kp : Option Addr
  kc : Nat
  p1 : Option Addr
  c1 : Nat
  p2 : Option Addr
  c2 : Nat
def XaY.a (y : XaY) : AreaR := ⟨⟨y.pp, y.pc, [0,1,2]⟩, y.kp, y.kc, [⟨y.p1, y.c1, [0]⟩, ⟨y.p2, y.c2, [2]⟩], ⟨0,2,0,0,10,15⟩⟩
structure XaI (w : World) (y : XaY) : Prop where
  ar : RO 8 AreaR.cells w y.p [y.a]
  px : Ints w y.pp [0,1,2]
  kr : RR 1 iC w y.kp [⟨y.p1, y.c1, [0]⟩, ⟨y.p2, y.c2, [2]⟩]
theorem rr_nat {w : World} {p : Option Addr} {rs : List (RowA Nat)} (h : RR 1 nC w p rs) : RR 1 iC w p (rs.map fun r => (⟨r.p, r.c, r.l.map fun n : Nat => (n : Int)⟩ : RowA Int)) := by
  refine ⟨?_, fun x hx => ?_⟩
  · have h1 := h.1
    unfold RO at h1 ⊢
    rw [List.map_map]
    have e : (rowC ∘ fun r : RowA Nat => (⟨r.p, r.c, r.l.map fun n : Nat => (n : Int)⟩ : RowA Int)) = rowC := by
      funext r; show [Value.slice r.p (r.l.map _).length r.c] = _; rw [List.length_map]; rfl
    rw [e]; exact h1
  · obtain ⟨r, hr, rfl⟩ := List.mem_map.1 hx
    have := h.2 r hr
    exact ⟨by show (r.l.map _).length ≤ r.c; rw [List.length_map]; exact this.1, ints_nat this.2⟩
structure XaF (y : ArY) (z : XaY) : Prop where
  ar : ArP (gW xG) (gH xG) xF 5 y
  l : y.l = [z.a]
  p : y.p = z.p
theorem xAreas_c (p : Option Addr) (c : Nat) (w : World) (hv : Spans w p xF) : Calls Try.prog (17) #[fieldV xG p xF.length c, .int .i64 5] w fun e w' => ∃ y : ArY × XaY, XaF y.1 y.2 ∧ e = .returned (.tuple #[.slice y.2.p 1 y.2.c, .int .i64 0]) ∧ St (bs w) (y.1.R (ofL (gW xG) (gH xG) (mayB xF 5))) w' :=
  (Areas_ok xG xF p c 5 w hv xF_open).mono fun e w' ⟨y, h1, h2, h3⟩ => by
    obtain ⟨pp, pc, kp, kc, p1, c1, p2, c2, hl⟩ := exAr h1 xAreas
    rw [hl] at h2
    exact ⟨⟨y, ⟨y.p, y.c, pp, pc, kp, kc, p1, c1, p2, c2⟩⟩, ⟨h1, hl, rfl⟩, h2, h3⟩
theorem XaI.of {y : ArY} {z : XaY} {β : Bs} {L : List Res} {w : World} (h : XaF y z) (hw : St β (y.R (ofL (gW xG) (gH xG) (mayB xF 5)) ++ L) w) : XaI w z := by
  have hS := SpI.of_res hw h.ar 0 1 3 7 rfl rfl rfl rfl
  have hR : RR 1 nC w y.pr y.rs := RR.of_own hw 5 6 rfl rfl
  have hl := h.l
  refine ⟨?_, ?_, ?_⟩
  · have := hS.ar; rw [hl, h.p] at this; exact this
  · exact ints_nat (hR.2 z.a.px (by rw [← h.ar.px, hl]; exact List.mem_singleton.2 rfl)).2
  · exact rr_nat (hS.kr z.a (by rw [hl]; exact List.mem_singleton.2 rfl))
theorem XaI.keep {w0 : World} {y : XaY} (h : XaI w0 y) : ∀ {L : List Res} (w : World), St (bs w0) L w → XaI w y := fun w hw => ⟨h.ar.keep w hw, h.px.keep w hw, h.kr.keep w hw⟩
theorem rr_lit2 {w : World} {b1 b2 b3 : Nat} {x y : Int} (h1 : Ints w (some ⟨b1,0, none⟩) [x]) (h2 : Ints w (some ⟨b2,0, none⟩) [y]) (h3 : Cells w ⟨b3,0, none⟩ [.slice (some ⟨b1,0, none⟩) 1 1, .slice (some ⟨b2,0, none⟩) 1 1]) : RR 1 iC w (some ⟨b3,0, none⟩) [⟨some ⟨b1,0, none⟩, 1, [x]⟩, ⟨some ⟨b2,0, none⟩, 1, [y]⟩] := by
  refine ⟨RO.ofC (fun _ => rfl) h3, fun r hr => ?_⟩
  rcases List.mem_cons.1 hr with rfl | hr
  · exact ⟨Nat.le_refl _, h1⟩
  · have hr := List.mem_singleton.1 hr; subst hr; exact ⟨Nat.le_refl _, h2⟩
theorem two_rows {a b : RowA Int} (ha : a.l.length = 1) (hb : b.l.length = 1) : ∀ x, x ∈ [a, b] → x.l.length ≤ 1000000 := fun x hx => by
  rcases List.mem_cons.1 hx with rfl | hx
  · omega
  · have hx := List.mem_singleton.1 hx; subst hx; omega
abbrev xBk (bm : Nat) : BkH := ⟨xG, 5,1, bm⟩
theorem xBook : bookE xG 5 1 = 0 := by kernel_rfl
theorem xAdd0 (bm : Nat) : addE (xBk bm) (-1) 0 10 xG xF = 0 := rfl
theorem xAdd1 (bm : Nat) : addE (xBk bm) 10 1 20 xG xH = 0 := rfl
theorem xLate (bm n : Nat) : addE (xBk bm) 20 n 20 xG xH = 17 := rfl
theorem xLate_c (b bm : Nat) (q : BkQ) (pt : Option Addr) (nt ct : Nat) (kd : Nat → Int) (p : Option Addr) (c : Nat) (w : World) (hb : Cells w ⟨b, 0, none⟩ (bkC (xBk bm) 20 q pt nt ct kd)) (hv : Spans w p xH) : Calls Try.prog (48) #[.pointer (some ⟨b, 0, none⟩), .int .i64 20, fieldV xG p xH.length c] w fun e w' => e = .returned (.tuple #[.slice none 0 0, .int .i64 17]) ∧ St (bs w) [] w' := by
  have z := Add_e b (xBk bm) 20 q pt nt ct kd 20 xG xH p c w hb hv (by rw [xLate]; decide)
  rw [xLate] at z; exact z
structure XkY where
  p : Option Addr
  c : Nat
  ap : Option Addr
  ac : Nat
  pp : Option Addr
  pc : Nat
  cp : Option Addr
  cc : Nat
def XkY.t (y : XkY) : TkR := ⟨1,0, y.ap, y.ac, [0,0], 0, y.pp, y.pc, [], y.cp, y.cc, []⟩
theorem xk_list {tk : List TkR} (h : tk.map TkR.m = [⟨1,0, [0,0], 0, [], []⟩]) : ∃ ap ac pp pc cp cc, tk = [⟨1,0, ap, ac, [0,0], 0, pp, pc, [], cp, cc, []⟩] := by
  obtain ⟨t, rfl, hm⟩ := tk_list h
  obtain ⟨bg, fr, ap, ac, ar, en, pp, pc, pa, cp, cc, ch⟩ := t
  cases hm
  exact ⟨ap, ac, pp, pc, cp, cc, rfl⟩
theorem xTracks_c (b : Nat) (h : BkH) (la : Int) (q : BkQ) (pt : Option Addr) (ct : Nat) (kd : Nat → Int) (tk : List TkR) (w : World) (hb : Cells w ⟨b, 0, none⟩ (bkC h la q pt tk.length ct kd)) (htk : RO 6 TkR.cells w pt tk) (hti : ∀ t, t ∈ tk → TkI w t) (hm : tk.map TkR.m = [⟨1,0, [0,0], 0, [], []⟩]) : Calls Try.prog (49) #[.pointer (some ⟨b, 0, none⟩)] w fun e w' => ∃ y : XkY, True ∧ e = .returned (.slice y.p 1 y.c) ∧ St (bs w) [own 109 6 y.p y.c ([y.t].map TkR.cells), bagD ([y.t].map TkR.aR), bagD ([y.t].map TkR.pR), bagD ([y.t].map TkR.cR)] w' :=
  (Tracks_ok b h la q pt ct kd tk w hb htk hti (fun t ht => by
    obtain ⟨_,_,_,_,_,_, rfl⟩ := xk_list hm
    have := List.mem_singleton.1 ht; subst this
    exact ⟨(show 2 ≤ 1000000000 by decide), (show 0 ≤ 1000000000 by decide), (show 0 ≤ 1000000000 by decide)⟩) (by obtain ⟨_,_,_,_,_,_, rfl⟩ := xk_list hm; exact (show 1 ≤ 1000000 by decide))).mono fun e w' ⟨y, h1, h2, h3⟩ => by
    rw [hm] at h1
    obtain ⟨l, yp, yc⟩ := y
    obtain ⟨ap, ac, pp, pc, cp, cc, rfl⟩ := xk_list h1
    exact ⟨⟨yp, yc, ap, ac, pp, pc, cp, cc⟩, trivial, h2, h3⟩
theorem xTally_c (b bm : Nat) (la : Int) (pm : Option Addr) (cm : Nat) (ys : List ArY) (pt : Option Addr) (ct : Nat) (kd : Nat → Int) (tk : List TkR) (of : Nat × Nat → Option Nat) (w : World) (hb : Cells w ⟨b, 0, none⟩ (bkC (xBk bm) la ⟨pm, ys.length, cm⟩ pt tk.length ct kd)) (ho : (mapR plV niV bm (ofI of)).inv w) (hys : ys.length = 2) (hm : tk.map TkR.m = [⟨1,0, [0,0], 0, [], []⟩]) (hk : ∀ a, a ∈ [((0 : Int), (0 : Int)), (1,0)] ↔ (ofI of a).isSome = true) (hkd : kd = kdF (fun _ => 0) [⟨4, [0], [0]⟩]) :
    Calls Try.prog (50) #[.pointer (some ⟨b, 0, none⟩)] w fun e w' => e = .returned (.agg #[.int .i64 2, .int .i64 2, .int .i64 1, .int .i64 0, .int .i64 0, .int .i64 1, .int .i64 0, .int .i64 0, .int .i64 0]) ∧ St (bs w) [] w' := by
  have z := Tally_ok b (xBk bm) la ⟨pm, ys.length, cm⟩ pt ct kd tk w hb of ho [((0 : Int), (0 : Int)), (1,0)] (by decide) hk
  obtain ⟨_,_,_,_,_,_, rfl⟩ := xk_list hm
  subst hkd
  rw [hys] at z
  exact z

set_option maxRecDepth 20000 in
set_option maxHeartbeats 16000000 in
theorem works_c (w : World) :
  Calls Try.prog 16 #[] w fun e w' => e = .returned (.bool true) ∧ St (bs w) [] w' := by
  refine enter (vs := []) (env := []) Try.func16 rfl rfl rfl rfl ?_
  refine VC.seq ?_
  refine VC.reg (VO.l (LO.as (.r rfl)) rfl<|VO.nil ?_)
  refine VE.seqN ?_
  refine VC.seq ?_
  refine VC.reg (VO.h rfl<|HO.bs (ps := [(_,_), (_,_), (_,_), (_,_), (_,_), (_,_), (_,_), (_,_)]) (vs := [(_,_), (_,_), (_,_), (_,_), (_,_), (_,_), (_,_), (_,_)]) (Z := [_,_,_,_,_,_,_,_]) (C := [_,_,_,_,_,_,_,_]) S40 Z3 N3 ⟨(.r rfl), (.r rfl), (.r rfl), (.r rfl), (.r rfl), (.r rfl), (.r rfl), (.r rfl), trivial⟩ rfl rfl rfl rfl ⟨_, [_], [_,_,_,_,_,_,_,_], rfl, rfl, rfl, rfl, ⟨_, [_], [_,_,_,_,_,_,_,_], rfl, rfl, rfl, rfl, ⟨_, [_], [_,_,_,_,_,_,_,_], rfl, rfl, rfl, rfl, ⟨_, [_], [_,_,_,_,_,_,_,_], rfl, rfl, rfl, rfl, ⟨_, [_], [_,_,_,_,_,_,_,_], rfl, rfl, rfl, rfl, ⟨_, [_], [_,_,_,_,_,_,_,_], rfl, rfl, rfl, rfl, ⟨_, [_], [_,_,_,_,_,_,_,_], rfl, rfl, rfl, rfl, ⟨_, [_], [_,_,_,_,_,_,_,_], rfl, rfl, rfl, rfl, rfl⟩⟩⟩⟩⟩⟩⟩⟩ fun b1 => VO.h rfl<|HO.callx (xs := [_]) (vs := [_]) C56 ⟨(.r rfl), trivial⟩ (fun w2 hw => rowF_c b1 w2 (ints_lit _ (cells_inv (hw.inv 0 _ rfl)))) fun f1 _ => VO.h rfl<|HO.bs (ps := [(_,_), (_,_), (_,_), (_,_), (_,_), (_,_), (_,_), (_,_)]) (vs := [(_,_), (_,_), (_,_), (_,_), (_,_), (_,_), (_,_), (_,_)]) (Z := [_,_,_,_,_,_,_,_]) (C := [_,_,_,_,_,_,_,_]) S40 Z3 N3 ⟨(.r rfl), (.r rfl), (.r rfl), (.r rfl), (.r rfl), (.r rfl), (.r rfl), (.r rfl), trivial⟩ rfl rfl rfl rfl ⟨_, [_], [_,_,_,_,_,_,_,_], rfl, rfl, rfl, rfl, ⟨_, [_], [_,_,_,_,_,_,_,_], rfl, rfl, rfl, rfl, ⟨_, [_], [_,_,_,_,_,_,_,_], rfl, rfl, rfl, rfl, ⟨_, [_], [_,_,_,_,_,_,_,_], rfl, rfl, rfl, rfl, ⟨_, [_], [_,_,_,_,_,_,_,_], rfl, rfl, rfl, rfl, ⟨_, [_], [_,_,_,_,_,_,_,_], rfl, rfl, rfl, rfl, ⟨_, [_], [_,_,_,_,_,_,_,_], rfl, rfl, rfl, rfl, ⟨_, [_], [_,_,_,_,_,_,_,_], rfl, rfl, rfl, rfl, rfl⟩⟩⟩⟩⟩⟩⟩⟩ fun b3 => VO.h rfl<|HO.callx (xs := [_]) (vs := [_]) C56 ⟨(.r rfl), trivial⟩ (fun w2 hw => rowH_c b3 w2 (ints_lit _ (cells_inv (hw.inv 0 _ rfl)))) fun f2 _ => VO.h rfl<|HO.alloc (C := #[_,_,_,_,_,_]) Z26 rfl fun b5 => VO.h rfl<|HO.alloc (C := #[_,_,_,_,_,_]) Z26 rfl fun b6 => VO.h0<|HO.st 1 (vs := [_,_,_,_,_,_]) (C' := [_,_,_,_,_,_]) (L' := [_,_,_,_,_,_]) N26 rfl rfl rfl rfl rfl rfl rfl rfl<|VO.h0<|HO.st 0 (vs := [_,_,_,_,_,_]) (C' := [_,_,_,_,_,_]) (L' := [_,_,_,_,_,_]) N26 rfl rfl rfl rfl rfl rfl rfl rfl<|VO.nil ?_)
  refine VE.seqN ?_
  refine VC.seq ?_
  refine VC.rebase fun w1 hst1 => ?_
  have hf1 : Cells w1 ⟨b5,0, none⟩ [.int .i64 xG.x, .int .i64 xG.y, .int .i64 xG.size, .int .i64 xG.wide, .int .i64 xG.high, .slice f1.p xF.length f1.c] := cells_inv (hst1.inv 1 _ rfl)
  have hsF : Spans w1 f1.p xF := RO.of_own hst1 4 rfl
  have hf2 : Cells w1 ⟨b6,0, none⟩ [.int .i64 xG.x, .int .i64 xG.y, .int .i64 xG.size, .int .i64 xG.wide, .int .i64 xG.high, .slice f2.p xH.length f2.c] := cells_inv (hst1.inv 0 _ rfl)
  have hsH : Spans w1 f2.p xH := RO.of_own hst1 2 rfl
  refine VC.reg (VO.l (LO.lda (vs := [_,_,_,_,_,_]) A26 (.r rfl) (cells_keep (sub_cells (off := 0) hf1 ⟨_, rfl⟩)) rfl) rfl<|VO.h rfl<|HO.callx (xs := [_,_]) (vs := [_,_]) C17 ⟨(.r rfl), (.r rfl), trivial⟩ (fun w2 hw => xAreas_c f1.p f1.c w2 (hsF.keep w2 hw)) fun yaa hyaf => VO.h rfl<|HO.lo (LO.mv (.r rfl))<|VO.h rfl<|HO.lo (LO.ex (.r rfl) rfl)<|VO.h rfl<|HO.lo (LO.ex (.r rfl) rfl)<|VO.h rfl<|HO.lo (LO.as (.r rfl))<|VO.h rfl<|HO.lo (LO.as (.r rfl))<|VO.nil ?_)
  refine VE.seqN ?_
  refine VC.seq ?_
  refine VC.seq ?_
  obtain ⟨yy, ya⟩ := yaa
  dsimp only at hyaf
  refine VC.rebase fun w2 hst2 => ?_
  have hya0 : XaI w2 ya := XaI.of (L := []) hyaf (selK [0,1,2,3,4,5,6,7] rfl rfl _ hst2)
  have hya : ∀ {L : List Res} (w : World), St (bs w2) L w → XaI w ya := fun w hw => hya0.keep w hw
  have hf1 := cells_keep hf1 _ hst2
  have hf2 := cells_keep hf2 _ hst2
  have hsF := hsF.keep _ hst2
  have hsH := hsH.keep _ hst2
  refine VC.reg (VO.l (LO.mv (.r rfl)) rfl<|VO.l (LO.ne (.r rfl) (.r rfl)) rfl<|VO.l (LO.mv (.r rfl)) rfl<|VO.lg rfl rfl (GD.f _) (fun hg => LO.mv (.r rfl)) rfl<|VO.lg rfl rfl (GD.f _) (fun hg => LO.len S29 (.g hg rfl) rfl) rfl<|VO.lg rfl rfl (GD.f _) (fun hg => LO.ne (.g hg rfl) (.r rfl)) rfl<|VO.l (LO.pkO (.r rfl) (.r rfl) rfl rfl) rfl<|VO.l (LO.mv (.r rfl)) rfl<|VO.lg rfl rfl (GD.f _) (fun hg => LO.mv (.r rfl)) rfl<|VO.lg rfl rfl (GD.f _) (fun hg => LO.ixs S29 N73 hya0.ar.sm (.g hg rfl) (.r rfl) (j := 0) rfl Nat.zero_lt_one) rfl<|VO.lg rfl rfl (GD.f _) (fun hg => LO.fa F73_0 (.g hg rfl) rfl) rfl<|VO.lg rfl rfl (GD.f _) (fun hg => LO.ld O40 (.g hg rfl) (fun w hw => cells_part (off := 0) ((fun w3 h3 => RO.cel (hya w3 h3).ar (show [ya.a][0]? = some ya.a from rfl)) w hw) ⟨_, rfl⟩)) rfl<|VO.bc (x := 33) rfl (fun hg3_7 => (by exfalso; exact absurd hg3_7 (by decide))) (fun hg3_7 => VO.gT rfl rfl (congrArg Value.bool hg3_7) rfl<|HO.bs (ps := [(_,_), (_,_), (_,_)]) (vs := [(_,_), (_,_), (_,_)]) (Z := [_,_,_]) (C := [_,_,_]) S40 Z3 N3 ⟨(.r rfl), (.r rfl), (.r rfl), trivial⟩ rfl rfl rfl rfl ⟨_, [_], [_,_,_], rfl, rfl, rfl, rfl, ⟨_, [_], [_,_,_], rfl, rfl, rfl, rfl, ⟨_, [_], [_,_,_], rfl, rfl, rfl, rfl, rfl⟩⟩⟩ fun b17 => VO.gT rfl rfl (congrArg Value.bool hg3_7) rfl<|HO.lo (LO.call (xs := [_,_]) (vs := [_,_]) C40 ⟨(.g (by rw [hg3_7]; rfl) rfl), (.r rfl), trivial⟩ (fun w2 hw => numbers_c [0,1,2] [0,1,2] ya.pp ya.pc (some ⟨b17,0, none⟩) 3 w2 (hya w2 hw).px (ints_lit [0,1,2] (cells_inv (hw.inv 0 _ rfl))) (by decide)))<|VO.gT rfl rfl (congrArg Value.bool hg3_7) rfl<|HO.lo (LO.not (.r rfl))<|VO.h rfl<|HO.lo (LO.pkF (.r rfl) hg3_7 (.r rfl))<|VO.h rfl<|HO.lo (LO.mv (.r rfl))<|VO.lg rfl rfl (GD.f _) (fun hg => LO.mv (.r rfl)) rfl<|VO.lg rfl rfl (GD.f _) (fun hg => LO.ixs S29 N73 hya0.ar.sm (.g hg rfl) (.r rfl) (j := 0) rfl Nat.zero_lt_one) rfl<|VO.lg rfl rfl (GD.f _) (fun hg => LO.fa F73_1 (.g hg rfl) rfl) rfl<|VO.lg rfl rfl (GD.f _) (fun hg => LO.ld O41 (.g hg rfl) (fun w hw => cells_part (off := 1) ((fun w3 h3 => RO.cel (hya w3 h3).ar (show [ya.a][0]? = some ya.a from rfl)) w hw) ⟨_, rfl⟩)) rfl<|VO.bc (x := 42) rfl (fun hg3_16 => (by exfalso; exact absurd hg3_16 (by decide))) (fun hg3_16 => VO.gT rfl rfl (congrArg Value.bool hg3_16) rfl<|HO.bs (ps := [(_,_)]) (vs := [(_,_)]) (Z := [_]) (C := [_]) S40 Z3 N3 ⟨(.r rfl), trivial⟩ rfl rfl rfl rfl ⟨_, [_], [_], rfl, rfl, rfl, rfl, rfl⟩ fun b18 => VO.gT rfl rfl (congrArg Value.bool hg3_16) rfl<|HO.bs (ps := [(_,_)]) (vs := [(_,_)]) (Z := [_]) (C := [_]) S40 Z3 N3 ⟨(.r rfl), trivial⟩ rfl rfl rfl rfl ⟨_, [_], [_], rfl, rfl, rfl, rfl, rfl⟩ fun b19 => VO.gT rfl rfl (congrArg Value.bool hg3_16) rfl<|HO.bs (ps := [(_,_), (_,_)]) (vs := [(_,_), (_,_)]) (Z := [_,_]) (C := [_,_]) S41 Z40 N40 ⟨(.r rfl), (.r rfl), trivial⟩ rfl rfl rfl rfl ⟨_, [_], [_,_], rfl, rfl, rfl, rfl, ⟨_, [_], [_,_], rfl, rfl, rfl, rfl, rfl⟩⟩ fun b20 => VO.gT rfl rfl (congrArg Value.bool hg3_16) rfl<|HO.lo (LO.call (xs := [_,_]) (vs := [_,_]) C26 ⟨(.g (by rw [hg3_16]; rfl) rfl), (.r rfl), trivial⟩ (fun w2 hw => lists_c [⟨ya.p1, ya.c1, [0]⟩, ⟨ya.p2, ya.c2, [2]⟩] [⟨some ⟨b18,0, none⟩, 1, [0]⟩, ⟨some ⟨b19,0, none⟩, 1, [2]⟩] ya.kp ya.kc (some ⟨b20,0, none⟩) 2 w2 (hya w2 hw).kr (rr_lit2 (ints_lit [0] (cells_inv (hw.inv 2 _ rfl))) (ints_lit [2] (cells_inv (hw.inv 1 _ rfl))) (cells_inv (hw.inv 0 _ rfl))) (show 2 ≤ 1000000 by decide) (two_rows rfl rfl)))<|VO.gT rfl rfl (congrArg Value.bool hg3_16) rfl<|HO.lo (LO.not (.r rfl))<|VO.h rfl<|HO.lo (LO.pkF (.r rfl) hg3_16 (.r rfl))<|VO.h rfl<|HO.lo (LO.mv (.r rfl))<|VO.lg rfl rfl (GD.f _) (fun hg => LO.mv (.r rfl)) rfl<|VO.lg rfl rfl (GD.f _) (fun hg => LO.ixs S29 N73 hya0.ar.sm (.g hg rfl) (.r rfl) (j := 0) rfl Nat.zero_lt_one) rfl<|VO.lg rfl rfl (GD.f _) (fun hg => LO.fa F73_2 (.g hg rfl) rfl) rfl<|VO.lg rfl rfl (GD.f _) (fun hg => LO.lda (vs := [_,_]) A71 (.g hg rfl) (fun w hw => cells_part (off := 2) ((fun w3 h3 => RO.cel (hya w3 h3).ar (show [ya.a][0]? = some ya.a from rfl)) w hw) ⟨_, rfl⟩) rfl) rfl<|VO.lg rfl rfl (GD.f _) (fun hg => LO.bd (ps := [(_,_), (_,_)]) (vs := [(_,_), (_,_)]) (C := [_,_]) B71  ⟨(.r rfl), (.r rfl), trivial⟩ rfl ⟨_, [_], [_,_], rfl, rfl, rfl, rfl, ⟨_, [_], [_,_], rfl, rfl, rfl, rfl, rfl⟩⟩) rfl<|VO.lg rfl rfl (GD.f _) (fun hg => LO.neA («as» := [_,_]) (bs := [_,_]) EA71 (.g hg rfl) (.g hg rfl) rfl rfl) rfl<|VO.h rfl<|HO.lo (LO.pkO (.r rfl) (.r rfl) rfl rfl)<|VO.h rfl<|HO.lo (LO.mv (.r rfl))<|VO.lg rfl rfl (GD.f _) (fun hg => LO.mv (.r rfl)) rfl<|VO.lg rfl rfl (GD.f _) (fun hg => LO.ixs S29 N73 hya0.ar.sm (.g hg rfl) (.r rfl) (j := 0) rfl Nat.zero_lt_one) rfl<|VO.lg rfl rfl (GD.f _) (fun hg => LO.fa F73_4 (.g hg rfl) rfl) rfl<|VO.lg rfl rfl (GD.f _) (fun hg => LO.lda (vs := [_,_]) A71 (.g hg rfl) (fun w hw => cells_part (off := 6) ((fun w3 h3 => RO.cel (hya w3 h3).ar (show [ya.a][0]? = some ya.a from rfl)) w hw) ⟨_, rfl⟩) rfl) rfl<|VO.lg rfl rfl (GD.f _) (fun hg => LO.bd (ps := [(_,_), (_,_)]) (vs := [(_,_), (_,_)]) (C := [_,_]) B71  ⟨(.r rfl), (.r rfl), trivial⟩ rfl ⟨_, [_], [_,_], rfl, rfl, rfl, rfl, ⟨_, [_], [_,_], rfl, rfl, rfl, rfl, rfl⟩⟩) rfl<|VO.lg rfl rfl (GD.f _) (fun hg => LO.neA («as» := [_,_]) (bs := [_,_]) EA71 (.g hg rfl) (.g hg rfl) rfl rfl) rfl<|VO.h rfl<|HO.lo (LO.pkO (.r rfl) (.r rfl) rfl rfl)<|VO.nil ?_)))
  refine VE.seqN ?_
  refine VC.cond rfl (fun h68 => ?_) (fun h68 => ?_)
  ·
    (exfalso; rcases h68 with (z | z) | z <;> exact z rfl)
  ·
    refine VC.skip (VE.seqN ?_)
    refine VC.seq ?_
    refine VC.perm [] rfl ?_
    show VC _ _ _ _ _ _ [] _ _
    refine VC.reg (VO.l (LO.lda (vs := [_,_,_,_,_,_]) A26 (.r rfl) (cells_keep (sub_cells (off := 0) hf1 ⟨_, rfl⟩)) rfl) rfl<|VO.l (LO.call (xs := [_,_,_,_]) (vs := [_,_,_,_]) C20 ⟨(.r rfl), (.r rfl), (.r rfl), (.r rfl), trivial⟩ (fun w2 hw => xJoin2_c f1.p f1.c w2 (hsF.keep w2 hw))) rfl<|VO.l (LO.mv (.r rfl)) rfl<|VO.l (LO.ex (.r rfl) rfl) rfl<|VO.l (LO.ex (.r rfl) rfl) rfl<|VO.l (LO.as (.r rfl)) rfl<|VO.l (LO.as (.r rfl)) rfl<|VO.nil ?_)
    refine VE.seqN ?_
    refine VC.seq ?_
    refine VC.reg (VO.l (LO.lda (vs := [_,_,_,_,_,_]) A26 (.r rfl) (cells_keep (sub_cells (off := 0) hf1 ⟨_, rfl⟩)) rfl) rfl<|VO.l (LO.call (xs := [_,_,_,_]) (vs := [_,_,_,_]) C20 ⟨(.r rfl), (.r rfl), (.r rfl), (.r rfl), trivial⟩ (fun w2 hw => xJoin3_c f1.p f1.c w2 (hsF.keep w2 hw))) rfl<|VO.l (LO.mv (.r rfl)) rfl<|VO.l (LO.ex (.r rfl) rfl) rfl<|VO.l (LO.ex (.r rfl) rfl) rfl<|VO.l (LO.as (.r rfl)) rfl<|VO.l (LO.as (.r rfl)) rfl<|VO.nil ?_)
    refine VE.seqN ?_
    refine VC.seq ?_
    refine VC.reg (VO.l (LO.lda (vs := [_,_,_,_,_,_]) A26 (.r rfl) (cells_keep (sub_cells (off := 0) hf1 ⟨_, rfl⟩)) rfl) rfl<|VO.l (LO.call (xs := [_,_,_,_]) (vs := [_,_,_,_]) C22 ⟨(.r rfl), (.r rfl), (.r rfl), (.r rfl), trivial⟩ (fun w2 hw => xGap2_c f1.p f1.c w2 (hsF.keep w2 hw))) rfl<|VO.l (LO.mv (.r rfl)) rfl<|VO.l (LO.ex (.r rfl) rfl) rfl<|VO.l (LO.ex (.r rfl) rfl) rfl<|VO.l (LO.as (.r rfl)) rfl<|VO.l (LO.as (.r rfl)) rfl<|VO.nil ?_)
    refine VE.seqN ?_
    refine VC.seq ?_
    refine VC.reg (VO.l (LO.lda (vs := [_,_,_,_,_,_]) A26 (.r rfl) (cells_keep (sub_cells (off := 0) hf1 ⟨_, rfl⟩)) rfl) rfl<|VO.l (LO.call (xs := [_,_,_,_]) (vs := [_,_,_,_]) C22 ⟨(.r rfl), (.r rfl), (.r rfl), (.r rfl), trivial⟩ (fun w2 hw => xGap3_c f1.p f1.c w2 (hsF.keep w2 hw))) rfl<|VO.l (LO.mv (.r rfl)) rfl<|VO.l (LO.ex (.r rfl) rfl) rfl<|VO.l (LO.ex (.r rfl) rfl) rfl<|VO.l (LO.as (.r rfl)) rfl<|VO.l (LO.as (.r rfl)) rfl<|VO.nil ?_)
    refine VE.seqN ?_
    refine VC.seq ?_
    refine VC.seq ?_
    refine VC.reg (VO.l (LO.mv (.r rfl)) rfl<|VO.l (LO.ne (.r rfl) (.r rfl)) rfl<|VO.l (LO.mv (.r rfl)) rfl<|VO.lg rfl rfl (GD.f _) (fun hg => LO.mv (.r rfl)) rfl<|VO.lg rfl rfl (GD.f _) (fun hg => LO.ne (.g hg rfl) (.r rfl)) rfl<|VO.l (LO.pkO (.r rfl) (.r rfl) rfl rfl) rfl<|VO.l (LO.mv (.r rfl)) rfl<|VO.lg rfl rfl (GD.f _) (fun hg => LO.mv (.r rfl)) rfl<|VO.lg rfl rfl (GD.f _) (fun hg => LO.ne (.g hg rfl) (.r rfl)) rfl<|VO.l (LO.pkO (.r rfl) (.r rfl) rfl rfl) rfl<|VO.l (LO.mv (.r rfl)) rfl<|VO.lg rfl rfl (GD.f _) (fun hg => LO.mv (.r rfl)) rfl<|VO.lg rfl rfl (GD.f _) (fun hg => LO.ne (.g hg rfl) (.r rfl)) rfl<|VO.l (LO.pkO (.r rfl) (.r rfl) rfl rfl) rfl<|VO.l (LO.mv (.r rfl)) rfl<|VO.lg rfl rfl (GD.f _) (fun hg => LO.mv (.r rfl)) rfl<|VO.lg rfl rfl (GD.f _) (fun hg => LO.ne (.g hg rfl) (.r rfl)) rfl<|VO.l (LO.pkO (.r rfl) (.r rfl) rfl rfl) rfl<|VO.l (LO.mv (.r rfl)) rfl<|VO.lg rfl rfl (GD.f _) (fun hg => LO.mv (.r rfl)) rfl<|VO.lg rfl rfl (GD.f _) (fun hg => LO.ne (.g hg rfl) (.r rfl)) rfl<|VO.l (LO.pkO (.r rfl) (.r rfl) rfl rfl) rfl<|VO.l (LO.mv (.r rfl)) rfl<|VO.lg rfl rfl (GD.f _) (fun hg => LO.mv (.r rfl)) rfl<|VO.lg rfl rfl (GD.f _) (fun hg => LO.ne (.g hg rfl) (.r rfl)) rfl<|VO.l (LO.pkO (.r rfl) (.r rfl) rfl rfl) rfl<|VO.l (LO.mv (.r rfl)) rfl<|VO.lg rfl rfl (GD.f _) (fun hg => LO.mv (.r rfl)) rfl<|VO.lg rfl rfl (GD.f _) (fun hg => LO.ne (.g hg rfl) (.r rfl)) rfl<|VO.l (LO.pkO (.r rfl) (.r rfl) rfl rfl) rfl<|VO.nil ?_)
    refine VE.seqN ?_
    refine VC.cond rfl (fun h118 => ?_) (fun h118 => ?_)
    ·
      (exfalso; exact absurd h118 (by decide))
    ·
      refine VC.skip (VE.seqN ?_)
      refine VC.seq ?_
      refine VC.reg (VO.l (LO.lda (vs := [_,_,_,_,_,_]) A26 (.r rfl) (cells_keep (sub_cells (off := 0) hf1 ⟨_, rfl⟩)) rfl) rfl<|VO.h rfl<|HO.bs (ps := [(_,_), (_,_)]) (vs := [(_,_), (_,_)]) (Z := [_,_]) (C := [_,_]) S40 Z3 N3 ⟨(.r rfl), (.r rfl), trivial⟩ rfl rfl rfl rfl ⟨_, [_], [_,_], rfl, rfl, rfl, rfl, ⟨_, [_], [_,_], rfl, rfl, rfl, rfl, rfl⟩⟩ fun b21 => VO.h rfl<|HO.callx (xs := [_,_]) (vs := [_,_]) C24 ⟨(.r rfl), (.r rfl), trivial⟩ (fun w2 hw => xTree_c f1.p f1.c b21 w2 (hsF.keep w2 hw) (ints_lit [1,5] (cells_inv (hw.inv 0 _ rfl)))) fun yt _ => VO.h rfl<|HO.lo (LO.mv (.r rfl))<|VO.h rfl<|HO.lo (LO.ex (.r rfl) rfl)<|VO.h rfl<|HO.lo (LO.ex (.r rfl) rfl)<|VO.h rfl<|HO.lo (LO.as (.r rfl))<|VO.h rfl<|HO.lo (LO.as (.r rfl))<|VO.nil ?_)
      refine VE.seqN ?_
      refine VC.seq ?_
      refine VC.reg (VO.l (LO.lda (vs := [_,_,_,_,_,_]) A26 (.r rfl) (cells_keep (sub_cells (off := 0) hf1 ⟨_, rfl⟩)) rfl) rfl<|VO.l (LO.lda (vs := [_,_,_,_,_,_]) A26 (.r rfl) (cells_keep (sub_cells (off := 0) hf2 ⟨_, rfl⟩)) rfl) rfl<|VO.h rfl<|HO.callx (xs := [_,_,_,_]) (vs := [_,_,_,_]) C27 ⟨(.r rfl), (.r rfl), (.r rfl), (.r rfl), trivial⟩ (fun w2 hw => xMatch_c f1.p f1.c f2.p f2.c w2 (hsF.keep w2 hw) (hsH.keep w2 hw)) fun ye _ => VO.h rfl<|HO.lo (LO.mv (.r rfl))<|VO.h rfl<|HO.lo (LO.ex (.r rfl) rfl)<|VO.h rfl<|HO.lo (LO.ex (.r rfl) rfl)<|VO.h rfl<|HO.lo (LO.as (.r rfl))<|VO.h rfl<|HO.lo (LO.as (.r rfl))<|VO.nil ?_)
      refine VE.seqN ?_
      refine VC.seq ?_
      refine VC.reg (VO.l (LO.lda (vs := [_,_,_,_,_,_]) A26 (.r rfl) (cells_keep (sub_cells (off := 0) hf1 ⟨_, rfl⟩)) rfl) rfl<|VO.l (LO.lda (vs := [_,_,_,_,_,_]) A26 (.r rfl) (cells_keep (sub_cells (off := 0) hf2 ⟨_, rfl⟩)) rfl) rfl<|VO.h rfl<|HO.callx (xs := [_,_,_,_,_,_]) (vs := [_,_,_,_,_,_]) C30 ⟨(.r rfl), (.r rfl), (.r rfl), (.r rfl), (.r rfl), (.r rfl), trivial⟩ (fun w2 hw => xMoves_c f1.p f1.c f2.p f2.c w2 (hsF.keep w2 hw) (hsH.keep w2 hw)) fun ym _ => VO.h rfl<|HO.lo (LO.mv (.r rfl))<|VO.h rfl<|HO.lo (LO.ex (.r rfl) rfl)<|VO.h rfl<|HO.lo (LO.ex (.r rfl) rfl)<|VO.h rfl<|HO.lo (LO.as (.r rfl))<|VO.h rfl<|HO.lo (LO.as (.r rfl))<|VO.nil ?_)
      refine VE.seqN ?_
      refine VC.seq ?_
      refine VC.seq ?_
      refine VC.reg (VO.l (LO.mv (.r rfl)) rfl<|VO.l (LO.ne (.r rfl) (.r rfl)) rfl<|VO.l (LO.mv (.r rfl)) rfl<|VO.lg rfl rfl (GD.f _) (fun hg => LO.mv (.r rfl)) rfl<|VO.lg rfl rfl (GD.f _) (fun hg => LO.ne (.g hg rfl) (.r rfl)) rfl<|VO.l (LO.pkO (.r rfl) (.r rfl) rfl rfl) rfl<|VO.l (LO.mv (.r rfl)) rfl<|VO.lg rfl rfl (GD.f _) (fun hg => LO.mv (.r rfl)) rfl<|VO.lg rfl rfl (GD.f _) (fun hg => LO.ne (.g hg rfl) (.r rfl)) rfl<|VO.l (LO.pkO (.r rfl) (.r rfl) rfl rfl) rfl<|VO.l (LO.mv (.r rfl)) rfl<|VO.lg rfl rfl (GD.f _) (fun hg => LO.mv (.r rfl)) rfl<|VO.bc (x := 147) rfl (fun hg14_10 => (by exfalso; exact absurd hg14_10 (by decide))) (fun hg14_10 => VO.gT rfl rfl (congrArg Value.bool hg14_10) rfl<|HO.bs (ps := [(_,_)]) (vs := [(_,_)]) (Z := [_]) (C := [_]) S40 Z3 N3 ⟨(.r rfl), trivial⟩ rfl rfl rfl rfl ⟨_, [_], [_], rfl, rfl, rfl, rfl, rfl⟩ fun b28 => VO.gT rfl rfl (congrArg Value.bool hg14_10) rfl<|HO.bs (ps := [(_,_)]) (vs := [(_,_)]) (Z := [_]) (C := [_]) S40 Z3 N3 ⟨(.r rfl), trivial⟩ rfl rfl rfl rfl ⟨_, [_], [_], rfl, rfl, rfl, rfl, rfl⟩ fun b29 => VO.gT rfl rfl (congrArg Value.bool hg14_10) rfl<|HO.bs (ps := [(_,_), (_,_)]) (vs := [(_,_), (_,_)]) (Z := [_,_]) (C := [_,_]) S41 Z40 N40 ⟨(.r rfl), (.r rfl), trivial⟩ rfl rfl rfl rfl ⟨_, [_], [_,_], rfl, rfl, rfl, rfl, ⟨_, [_], [_,_], rfl, rfl, rfl, rfl, rfl⟩⟩ fun b30 => VO.gT rfl rfl (congrArg Value.bool hg14_10) rfl<|HO.lo (LO.call (xs := [_,_]) (vs := [_,_]) C26 ⟨(.g (by rw [hg14_10]; rfl) rfl), (.r rfl), trivial⟩ (fun w2 hw => lists_c [⟨yt.p1, yt.c1, [-1]⟩, ⟨yt.p2, yt.c2, [0]⟩] [⟨some ⟨b28,0, none⟩, 1, [-1]⟩, ⟨some ⟨b29,0, none⟩, 1, [0]⟩] yt.p yt.c (some ⟨b30,0, none⟩) 2 w2 (RR.of_own hw 7 8 rfl rfl) (rr_lit2 (ints_lit [-1] (cells_inv (hw.inv 2 _ rfl))) (ints_lit [0] (cells_inv (hw.inv 1 _ rfl))) (cells_inv (hw.inv 0 _ rfl))) (show 2 ≤ 1000000 by decide) (two_rows rfl rfl)))<|VO.gT rfl rfl (congrArg Value.bool hg14_10) rfl<|HO.lo (LO.not (.r rfl))<|VO.h rfl<|HO.lo (LO.pkF (.r rfl) hg14_10 (.r rfl))<|VO.h rfl<|HO.lo (LO.mv (.r rfl))<|VO.lg rfl rfl (GD.f _) (fun hg => LO.mv (.r rfl)) rfl<|VO.lg rfl rfl (GD.f _) (fun hg => LO.len S46 (.g hg rfl) rfl) rfl<|VO.lg rfl rfl (GD.f _) (fun hg => LO.ne (.g hg rfl) (.r rfl)) rfl<|VO.h rfl<|HO.lo (LO.pkO (.r rfl) (.r rfl) rfl rfl)<|VO.h rfl<|HO.lo (LO.mv (.r rfl))<|VO.lg rfl rfl (GD.f _) (fun hg => LO.mv (.r rfl)) rfl<|VO.lg rfl rfl (GD.f _) (fun hg => LO.ixo S46 N81 (fun _ hw => (own_rows hw 4 rfl).some (by rfl)) (.g hg rfl) (.r rfl) (j := 0) rfl Nat.zero_lt_one) rfl<|VO.lg rfl rfl (GD.f _) (fun hg => LO.fa F81_0 (.g hg rfl) rfl) rfl<|VO.lg rfl rfl (GD.f _) (fun hg => LO.ld O3 (.g hg rfl) (fun w hw => cells_part (off := 0) (own_cell hw 4 rfl (show [ye.e][0]? = some ye.e from rfl)) ⟨_, rfl⟩)) rfl<|VO.lg rfl rfl (GD.f _) (fun hg => LO.ne (.g hg rfl) (.r rfl)) rfl<|VO.h rfl<|HO.lo (LO.pkO (.r rfl) (.r rfl) rfl rfl)<|VO.h rfl<|HO.lo (LO.mv (.r rfl))<|VO.lg rfl rfl (GD.f _) (fun hg => LO.mv (.r rfl)) rfl<|VO.lg rfl rfl (GD.f _) (fun hg => LO.len S53 (.g hg rfl) rfl) rfl<|VO.lg rfl rfl (GD.f _) (fun hg => LO.ne (.g hg rfl) (.r rfl)) rfl<|VO.h rfl<|HO.lo (LO.pkO (.r rfl) (.r rfl) rfl rfl)<|VO.h rfl<|HO.lo (LO.mv (.r rfl))<|VO.lg rfl rfl (GD.f _) (fun hg => LO.mv (.r rfl)) rfl<|VO.lg rfl rfl (GD.f _) (fun hg => LO.ixo S53 N85 (fun _ hw => (own_rows hw 3 rfl).some (by rfl)) (.g hg rfl) (.r rfl) (j := 3) rfl (by decide)) rfl<|VO.lg rfl rfl (GD.f _) (fun hg => LO.lda (vs := [_,_]) A85 (.g hg rfl) (fun w hw => cells_part (off := 0) (own_cell hw 3 rfl (show xMv[3]? = some _ from rfl)) ⟨_, rfl⟩) rfl) rfl<|VO.lg rfl rfl (GD.f _) (fun hg => LO.bd (ps := [(_,_)]) (vs := [(_,_)]) (C := [_,_]) B85  ⟨(.r rfl), trivial⟩ rfl ⟨_, [_], [_,_], rfl, rfl, rfl, rfl, rfl⟩) rfl<|VO.lg rfl rfl (GD.f _) (fun hg => LO.neA («as» := [_,_]) (bs := [_,_]) EA85 (.g hg rfl) (.g hg rfl) rfl rfl) rfl<|VO.h rfl<|HO.lo (LO.pkO (.r rfl) (.r rfl) rfl rfl)<|VO.h rfl<|HO.lo (LO.mv (.r rfl))<|VO.lg rfl rfl (GD.f _) (fun hg => LO.mv (.r rfl)) rfl<|VO.lg rfl rfl (GD.f _) (fun hg => LO.ixo S53 N85 (fun _ hw => (own_rows hw 3 rfl).some (by rfl)) (.g hg rfl) (.r rfl) (j := 4) rfl (by decide)) rfl<|VO.lg rfl rfl (GD.f _) (fun hg => LO.lda (vs := [_,_]) A85 (.g hg rfl) (fun w hw => cells_part (off := 0) (own_cell hw 3 rfl (show xMv[4]? = some _ from rfl)) ⟨_, rfl⟩) rfl) rfl<|VO.lg rfl rfl (GD.f _) (fun hg => LO.bd (ps := [(_,_)]) (vs := [(_,_)]) (C := [_,_]) B85  ⟨(.r rfl), trivial⟩ rfl ⟨_, [_], [_,_], rfl, rfl, rfl, rfl, rfl⟩) rfl<|VO.lg rfl rfl (GD.f _) (fun hg => LO.neA («as» := [_,_]) (bs := [_,_]) EA85 (.g hg rfl) (.g hg rfl) rfl rfl) rfl<|VO.h rfl<|HO.lo (LO.pkO (.r rfl) (.r rfl) rfl rfl)<|VO.nil ?_))
      refine VE.seqN ?_
      refine VC.cond rfl (fun h185 => ?_) (fun h185 => ?_)
      ·
        (exfalso; rcases h185 with ((((z | z) | z) | z) | z) | z <;> exact z rfl)
      ·
        refine VC.skip (VE.seqN ?_)
        refine VC.seq ?_
        refine VC.perm [] rfl ?_
        show VC _ _ _ _ _ _ [] _ _
        refine VC.reg (VO.l (LO.fa (r := 0) F26_0 (.r rfl) rfl) rfl<|VO.l (LO.lda (vs := [_,_,_,_,_]) A23 (.r rfl) (cells_keep (sub_cells (off := 0) hf1 ⟨_, rfl⟩)) rfl) rfl<|VO.h rfl<|HO.callx (xs := [_,_,_]) (vs := [_,_,_]) C47 ⟨(.r rfl), (.r rfl), (.r rfl), trivial⟩ (fun w2 hw => NewBook_ok xG 5 1 w2 xBook) fun yb _ => VO.h rfl<|HO.lo (LO.mv (.r rfl))<|VO.h rfl<|HO.lo (LO.ex (.r rfl) rfl)<|VO.h rfl<|HO.lo (LO.ex (.r rfl) rfl)<|VO.h rfl<|HO.lo (LO.as (.r rfl))<|VO.h rfl<|HO.lo (LO.as (.r rfl))<|VO.nil ?_)
        refine VE.seqN ?_
        refine VC.seq ?_
        refine VC.seq ?_
        refine VC.reg (VO.l (LO.mv (.r rfl)) rfl<|VO.l (LO.ne (.r rfl) (.r rfl)) rfl<|VO.nil ?_)
        refine VE.seqN ?_
        refine VC.cond rfl (fun h193 => ?_) (fun h193 => ?_)
        ·
          (exfalso; exact absurd h193 (by decide))
        ·
          refine VC.skip (VE.seqN ?_)
          refine VC.seq ?_
          refine VC.res (fun w hw => St.bagD (Rs := []) (St.bagD (Rs := []) ((St.bagD (Rs := []) ((hw.ownNil 109 6)) ).ownNil 154 7))) ?_
          refine VC.reg (VO.l (LO.mv (.r rfl)) rfl<|VO.l (LO.lda (vs := [_,_,_,_,_,_]) A26 (.r rfl) (cells_keep (sub_cells (off := 0) hf1 ⟨_, rfl⟩)) rfl) rfl<|VO.h rfl<|HO.callP (first := []) (cap := []) (xs := [_,_,_]) (vs := [_,_,_]) [_,_,_,_,_,_,_] [] (selK (L1 := [_,_,_,_,_,_,_] ++ []) [5,4,3,6,2,0,1] rfl rfl) (.r rfl) C48 ⟨(.r rfl), (.r rfl), (.r rfl), trivial⟩ (fun w2 hw hh => Add_0 yb.1 (xBk yb.2) (-1) none 0 none 0 (fun _ => 0) [] (fun _ => none) 10 xF f1.p f1.c w2 hh (fun hs => hsF.keep _ (St.fz (R := bkF yb.1 (xBk yb.2) (-1) none 0 [] none 0 (fun _ => 0) [] (fun _ => none)) (rest := []) (selK (L1 := [_,_,_,_,_,_,_]) [5,4,3,6,2,0,1] rfl rfl _ hw) hs)) (xAdd0 _) (show (1 : Int) ≤ 5 ∧ (5 : Int) ≤ 1073741824 by decide) (by decide)) fun ad had => VO.h rfl<|HO.lo (LO.mv (.r rfl))<|VO.h rfl<|HO.lo (LO.ex (.r rfl) rfl)<|VO.h rfl<|HO.lo (LO.ex (.r rfl) rfl)<|VO.h rfl<|HO.lo (LO.as (.r rfl))<|VO.nil ?_)
          have hadn : ad.yN.l.length = 1 := by rw [← ar_len had.1]; exact xNf
          have hadl : ad.tk.length ≤ 800000 := by have z := had.2.2; rw [hadn] at z; exact Nat.le_trans z (by decide)
          refine VE.seqN ?_
          refine VC.seq ?_
          refine VC.reg (VO.l (LO.mv (.r rfl)) rfl<|VO.l (LO.lda (vs := [_,_,_,_,_,_]) A26 (.r rfl) (cells_keep (sub_cells (off := 0) hf2 ⟨_, rfl⟩)) rfl) rfl<|VO.h rfl<|HO.callP (first := []) (cap := []) (xs := [_,_,_]) (vs := [_,_,_]) [_,_,_,_,_,_,_] [_,_,_,_,_,_,_,_] (selK (L1 := [_,_,_,_,_,_,_] ++ [_,_,_,_,_,_,_,_]) [0,1,2,3,4,5,6,7,8,9,10,11,12,13,14] rfl rfl) (.r rfl) C48 ⟨(.r rfl), (.r rfl), (.r rfl), trivial⟩ (fun w2 hw hh => Add_1 yb.1 (xBk yb.2) 10 ad.pm ad.cm [ad.yN] ad.pt ad.ct (fun _ => 0) ad.tk ad.of 20 xH f2.p f2.c w2 hh (fun hs => hsH.keep _ (St.fz (R := bkF yb.1 (xBk yb.2) 10 ad.pm ad.cm [ad.yN] ad.pt ad.ct (fun _ => 0) ad.tk ad.of) (rest := [_,_,_,_,_,_,_,_]) (selK (L1 := [_,_,_,_,_,_,_,_,_,_,_,_,_,_,_]) [0,1,2,3,4,5,6,7,8,9,10,11,12,13,14] rfl rfl _ hw) hs)) (xAdd1 _) (show (1 : Int) ≤ 5 ∧ (5 : Int) ≤ 1073741824 by decide) hadl 0 1 rfl (show 1 ≤ 48 by decide) ad.yN rfl xF had.1 (fun hs => SpI.of_res (St.rightOf (St.fz (R := bkF yb.1 (xBk yb.2) 10 ad.pm ad.cm [ad.yN] ad.pt ad.ct (fun _ => 0) ad.tk ad.of) (rest := [_,_,_,_,_,_,_,_]) (selK (L1 := [_,_,_,_,_,_,_,_,_,_,_,_,_,_,_]) [0,1,2,3,4,5,6,7,8,9,10,11,12,13,14] rfl rfl _ hw) hs)) had.1 0 1 3 7 rfl rfl rfl rfl) [[]] [ad.yN.l.length] (book0 had.2.1) rfl rfl rfl (by decide) (fun _ => by decide)) fun ae hae => VO.h rfl<|HO.lo (LO.mv (.r rfl))<|VO.h rfl<|HO.lo (LO.ex (.r rfl) rfl)<|VO.h rfl<|HO.lo (LO.ex (.r rfl) rfl)<|VO.h rfl<|HO.lo (LO.as (.r rfl))<|VO.nil ?_)
          have haen : ae.yN.l.length = 1 := by rw [← ar_len hae.ar]; exact xNh
          have hes : ae.ev.l.map EvR.m = [⟨4, [0], [0]⟩] := by have z := hae.ev; rw [hadn, haen] at z; exact xEv z
          have hkd := hae.kd
          rw [hes] at hkd
          have hb0 := had.2.1
          rw [hadn] at hb0
          have hb1 := hae.trk
          rw [hes, haen] at hb1
          obtain ⟨htkm, hks⟩ := exB1 hb0 hb1
          refine VE.seqN ?_
          refine VC.seq ?_
          refine VC.reg (VO.l (LO.mv (.r rfl)) rfl<|VO.l (LO.lda (vs := [_,_,_,_,_,_]) A26 (.r rfl) (cells_keep (sub_cells (off := 0) hf2 ⟨_, rfl⟩)) rfl) rfl<|VO.l (LO.call (xs := [_,_,_]) (vs := [_,_,_]) C48 ⟨(.r rfl), (.r rfl), (.r rfl), trivial⟩ (fun w2 hw => xLate_c yb.1 yb.2 _ _ _ _ _ f2.p f2.c w2 (cells_inv (hw.inv 0 _ rfl)) (hsH.keep w2 hw))) rfl<|VO.l (LO.mv (.r rfl)) rfl<|VO.l (LO.ex (.r rfl) rfl) rfl<|VO.l (LO.ex (.r rfl) rfl) rfl<|VO.l (LO.as (.r rfl)) rfl<|VO.nil ?_)
          refine VE.seqN ?_
          refine VC.seq ?_
          refine VC.reg (VO.l (LO.mv (.r rfl)) rfl<|VO.h rfl<|HO.callx (xs := [_]) (vs := [_]) C49 ⟨(.r rfl), trivial⟩ (fun w2 hw => xTracks_c yb.1 _ _ _ _ _ _ ae.tk w2 (cells_inv (hw.inv 0 _ rfl)) (RO.of_own hw 1 rfl) (fun t ht => ⟨(RO.of_bag (E := 3) (z := 1) (P := TkR.ap) (C := TkR.ac) (X := TkR.ar) (f := nC) hw 2 rfl ht), (RO.of_bag (E := 3) (z := 1) (P := TkR.pp) (C := TkR.pc) (X := TkR.pa) (f := nC) hw 5 rfl ht), (RO.of_bag (E := 3) (z := 1) (P := TkR.cp) (C := TkR.cc) (X := TkR.ch) (f := nC) hw 6 rfl ht)⟩) htkm) fun yk _ => VO.l (LO.as (.r rfl)) rfl<|VO.nil ?_)
          refine VE.seqN ?_
          refine VC.seq ?_
          refine VC.reg (VO.l (LO.mv (.r rfl)) rfl<|VO.l (LO.eq (.r rfl) (.r rfl)) rfl<|VO.l (LO.mv (.r rfl)) rfl<|VO.lg rfl rfl (GD.t _) (fun hg => LO.mv (.r rfl)) rfl<|VO.lg rfl rfl (GD.t _) (fun hg => LO.eq (.g hg rfl) (.r rfl)) rfl<|VO.l (LO.pkA (.r rfl) rfl rfl (.r rfl)) rfl<|VO.l (LO.mv (.r rfl)) rfl<|VO.lg rfl rfl (GD.t _) (fun hg => LO.mv (.r rfl)) rfl<|VO.lg rfl rfl (GD.t _) (fun hg => LO.eq (.g hg rfl) (.r rfl)) rfl<|VO.l (LO.pkA (.r rfl) rfl rfl (.r rfl)) rfl<|VO.l (LO.mv (.r rfl)) rfl<|VO.lg rfl rfl (GD.t _) (fun hg => LO.mv (.r rfl)) rfl<|VO.lg rfl rfl (GD.t _) (fun hg => LO.len S102 (.g hg rfl) rfl) rfl<|VO.lg rfl rfl (GD.t _) (fun hg => LO.eq (.g hg rfl) (.r rfl)) rfl<|VO.l (LO.pkA (.r rfl) rfl rfl (.r rfl)) rfl<|VO.l (LO.mv (.r rfl)) rfl<|VO.lg rfl rfl (GD.t _) (fun hg => LO.mv (.r rfl)) rfl<|VO.lg rfl rfl (GD.t _) (fun hg => LO.ixo S102 N109 (fun _ hw => (own_rows hw 0 rfl).some (by rfl)) (.g hg rfl) (.r rfl) (j := 0) rfl Nat.zero_lt_one) rfl<|VO.lg rfl rfl (GD.t _) (fun hg => LO.fa F109_0 (.g hg rfl) rfl) rfl<|VO.lg rfl rfl (GD.t _) (fun hg => LO.ld O3 (.g hg rfl) (fun w hw => cells_part (off := 0) (own_cell hw 0 rfl (show [yk.t][0]? = some yk.t from rfl)) ⟨_, rfl⟩)) rfl<|VO.lg rfl rfl (GD.t _) (fun hg => LO.eq (.g hg rfl) (.r rfl)) rfl<|VO.l (LO.pkA (.r rfl) rfl rfl (.r rfl)) rfl<|VO.l (LO.mv (.r rfl)) rfl<|VO.lg rfl rfl (GD.t _) (fun hg => LO.mv (.r rfl)) rfl<|VO.lg rfl rfl (GD.t _) (fun hg => LO.ixo S102 N109 (fun _ hw => (own_rows hw 0 rfl).some (by rfl)) (.g hg rfl) (.r rfl) (j := 0) rfl Nat.zero_lt_one) rfl<|VO.lg rfl rfl (GD.t _) (fun hg => LO.fa F109_3 (.g hg rfl) rfl) rfl<|VO.lg rfl rfl (GD.t _) (fun hg => LO.ld O3 (.g hg rfl) (fun w hw => cells_part (off := 3) (own_cell hw 0 rfl (show [yk.t][0]? = some yk.t from rfl)) ⟨_, rfl⟩)) rfl<|VO.lg rfl rfl (GD.t _) (fun hg => LO.eq (.g hg rfl) (.r rfl)) rfl<|VO.l (LO.pkA (.r rfl) rfl rfl (.r rfl)) rfl<|VO.l (LO.mv (.r rfl)) rfl<|VO.lg rfl rfl (GD.t _) (fun hg => LO.mv (.r rfl)) rfl<|VO.lg rfl rfl (GD.t _) (fun hg => LO.ixo S102 N109 (fun _ hw => (own_rows hw 0 rfl).some (by rfl)) (.g hg rfl) (.r rfl) (j := 0) rfl Nat.zero_lt_one) rfl<|VO.lg rfl rfl (GD.t _) (fun hg => LO.fa F109_2 (.g hg rfl) rfl) rfl<|VO.lg rfl rfl (GD.t _) (fun hg => LO.ld O40 (.g hg rfl) (fun w hw => cells_part (off := 2) (own_cell hw 0 rfl (show [yk.t][0]? = some yk.t from rfl)) ⟨_, rfl⟩)) rfl<|VO.bc (x := 243) rfl (fun hg23_29 => VO.gT rfl rfl (congrArg Value.bool hg23_29) rfl<|HO.bs (ps := [(_,_), (_,_)]) (vs := [(_,_), (_,_)]) (Z := [_,_]) (C := [_,_]) S40 Z3 N3 ⟨(.r rfl), (.r rfl), trivial⟩ rfl rfl rfl rfl ⟨_, [_], [_,_], rfl, rfl, rfl, rfl, ⟨_, [_], [_,_], rfl, rfl, rfl, rfl, rfl⟩⟩ fun b75 => VO.gT rfl rfl (congrArg Value.bool hg23_29) rfl<|HO.lo (LO.call (xs := [_,_]) (vs := [_,_]) C40 ⟨(.g hg23_29 rfl), (.r rfl), trivial⟩ (fun w2 hw => numbers_c [0,0] [0,0] yk.ap yk.ac (some ⟨b75,0, none⟩) 2 w2 (ints_nat (RO.of_bag (E := 3) (z := 1) (P := TkR.ap) (C := TkR.ac) (X := TkR.ar) (f := nC) (x := yk.t) hw 2 rfl (List.mem_singleton.2 rfl))) (ints_lit [0,0] (cells_inv (hw.inv 0 _ rfl))) (by decide)))<|VO.h rfl<|HO.lo (LO.pkT (.r rfl) hg23_29 (.r rfl))<|VO.h rfl<|HO.lo (LO.mv (.r rfl))<|VO.lg rfl rfl (GD.t _) (fun hg => LO.mv (.r rfl)) rfl<|VO.lg rfl rfl (GD.t _) (fun hg => LO.call (xs := [_]) (vs := [_]) C50 ⟨(.g hg rfl), trivial⟩ (fun w2 hw => xTally_c yb.1 yb.2 _ _ _ ([ad.yN] ++ [ae.yN]) _ _ _ ae.tk ae.of w2 (cells_inv (hw.inv 5 _ rfl)) (hw.inv 8 _ rfl) rfl htkm hks hkd)) rfl<|VO.lg rfl rfl (GD.t _) (fun hg => LO.bd (ps := [(_,_), (_,_), (_,_), (_,_)]) (vs := [(_,_), (_,_), (_,_), (_,_)]) (C := [_,_,_,_,_,_,_,_,_]) B105  ⟨(.r rfl), (.r rfl), (.r rfl), (.r rfl), trivial⟩ rfl ⟨_, [_], [_,_,_,_,_,_,_,_,_], rfl, rfl, rfl, rfl, ⟨_, [_], [_,_,_,_,_,_,_,_,_], rfl, rfl, rfl, rfl, ⟨_, [_], [_,_,_,_,_,_,_,_,_], rfl, rfl, rfl, rfl, ⟨_, [_], [_,_,_,_,_,_,_,_,_], rfl, rfl, rfl, rfl, rfl⟩⟩⟩⟩) rfl<|VO.lg rfl rfl (GD.t _) (fun hg => LO.eqA («as» := [_,_,_,_,_,_,_,_,_]) (bs := [_,_,_,_,_,_,_,_,_]) EA105 (.g hg rfl) (.g hg rfl) rfl rfl) rfl<|VO.h rfl<|HO.lo (LO.pkA (.r rfl) rfl rfl (.r rfl))<|VO.h rfl<|HO.lo (LO.as (.r rfl))<|VO.nil ?_) (fun hg23_29 => (by exfalso; exact absurd (hg23_29.symm.trans (show _ = true from rfl)) (by decide))))
          refine VE.seqN ?_
          refine VC.ret (VE.res (vs := [_]) rfl ⟨rfl, trivial⟩ (fun w hw => ?_))
          exact ⟨rfl, (hst1.call (hst2.call hw)).nil⟩

end Go.Proofs.Ytgemekpofpoopaa

namespace Go.Proofs.Ytgemekpofpoopaa
open Go.SL Go.Proofs Go.Cast Go.Cell
set_option linter.unusedVariables false

theorem C15 : IsFn Try.prog 15 := ⟨_, Try.func15, by decide, rfl⟩
theorem C16 : IsFn Try.prog 16 := ⟨_, Try.func16, by decide, rfl⟩
theorem S120 : IsSlice Try.prog 120 98 := Try.underlying120
theorem Z98 : ZeroOf Try.prog 98 (.pointer none) := by unfold ZeroOf; kernel_rfl
theorem N98 : (Try.prog.info? 98).map (·.size) = some 1 := by kernel_rfl
theorem O98 : IsOne Try.prog 98 := ⟨⟨_, Try.underlying98, rfl⟩, by kernel_rfl⟩
theorem C51 : IsFn Try.prog 51 := ⟨_, Try.func51, by decide, rfl⟩
theorem C52 : IsFn Try.prog 52 := ⟨_, Try.func52, by decide, rfl⟩
theorem C53 : IsFn Try.prog 53 := ⟨_, Try.func53, by decide, rfl⟩
theorem C54 : IsFn Try.prog 54 := ⟨_, Try.func54, by decide, rfl⟩
theorem S121 : IsSlice Try.prog 121 53 := Try.underlying121
theorem C55 : IsFn Try.prog 55 := ⟨_, Try.func55, by decide, rfl⟩


abbrev oneV (v : Value) : List Value := [v]

set_option maxRecDepth 20000 in
set_option maxHeartbeats 8000000 in
theorem CellNil_c (time : Int) (g : Grid) (vs : List Span) (pv : Option Addr) (cv : Nat) (n m : Int) (w : World) (hv : Spans w pv vs) :
  Calls Try.prog 14 #[.int .i64 time, fieldV g pv vs.length cv, .int .i64 n, .int .i64 m] w fun e w' => e = .returned (.bool true) ∧ St (bs w) [] w' := by
  refine enter (vs := [_,_,_,_]) (env := [(0,_), (1,_), (2,_), (3,_)]) Try.func14 rfl rfl rfl rfl ?_
  refine VC.seq ?_
  refine VC.reg (VO.h rfl<|HO.box (C := #[_,_,_,_,_,_]) rfl rfl fun b1 => VO.l (LO.as (.r rfl)) rfl<|VO.nil ?_)
  refine VE.seqN ?_
  refine VC.seq ?_
  refine VC.seq ?_
  refine VC.reg (VO.l (LO.lda (vs := [_,_,_,_,_,_]) A26 (.r rfl) (fun _ hw => cells_at hw 0 rfl ⟨_, rfl⟩) rfl) rfl<|VO.l (LO.call (xs := [_]) (vs := [_]) C15 ⟨(.r rfl), trivial⟩ (fun w2 _ => large_c g vs pv cv w2)) rfl<|VO.nil ?_)
  refine VE.seqN ?_
  refine VC.cond rfl (fun h23 => ?_) (fun h23 => ?_)
  ·
    refine VC.seq ?_
    refine VC.reg (VO.l (LO.call (xs := []) (vs := []) C16 trivial (fun w2 _ => works_c w2)) rfl<|VO.l (LO.as (.r rfl)) rfl<|VO.nil ?_)
    refine VE.seqN ?_
    refine VC.ret (VE.thenR (VE.res (vs := [_]) rfl ⟨rfl, trivial⟩ (fun w hw => ?_)))
    first | exact ⟨rfl, hw.nil⟩ | exact ⟨rfl, St.based hst1 hw⟩
  ·
    refine VC.skip (VE.seqN ?_)
    refine VC.seq ?_
    refine VC.reg (VO.l (LO.as (.r rfl)) rfl<|VO.nil ?_)
    refine VE.seqN ?_
    refine VC.seq ?_
    refine VC.seq ?_
    refine VC.reg (VO.l (LO.mv (.r rfl)) rfl<|VO.l (LO.bd (ps := []) (vs := []) (C := [_,_,_,_,_,_,_,_,_,_,_,_,_,_,_,_,_,_,_]) B119  trivial rfl rfl) rfl<|VO.h rfl<|HO.box (C := #[_,_,_,_,_,_,_,_,_,_,_,_,_,_,_,_,_,_,_]) rfl rfl fun b2 => VO.h rfl<|HO.bs (ps := [(_,_), (_,_)]) (vs := [(_,_), (_,_)]) (Z := [_,_]) (C := [_,_]) S120 Z98 N98 ⟨(.r rfl), (.r rfl), trivial⟩ rfl rfl rfl rfl ⟨_, [_], [_,_], rfl, rfl, rfl, rfl, ⟨_, [_], [_,_], rfl, rfl, rfl, rfl, rfl⟩⟩ fun b3 => VO.h rfl<|HO.lo (LO.len S120 (.r rfl) rfl)<|VO.l (LO.mv (.r rfl)) rfl<|VO.nil ?_)
    refine VE.seqN ?_
    refine VC.block ?_
    refine VC.rebase fun w1 hst1 => ?_
    have hfl : Cells w1 ⟨b1,0, none⟩ [.int .i64 g.x, .int .i64 g.y, .int .i64 g.size, .int .i64 g.wide, .int .i64 g.high, .slice pv vs.length cv] := cells_inv (hst1.inv 2 _ rfl)
    have hv := hv.keep w1 hst1
    have hzb : Cells w1 ⟨b2,0, none⟩ [.int .i64 0, .int .i64 0, .int .i64 0, .int .i64 0, .int .i64 0, .int .i64 0, .int .i64 0, .int .i64 0, .slice none 0 0, .slice none 0 0, .map none, .int .i64 0, .int .i64 0, .int .i64 0, .int .i64 0, .int .i64 0, .int .i64 0, .int .i64 0, .int .i64 0] := cells_inv (hst1.inv 1 _ rfl)
    have hpl : RO 1 oneV w1 (some ⟨b3,0, none⟩) [.pointer none, .pointer (some ⟨b2,0, none⟩)] := RO.ofC (fun _ => rfl) (cells_inv (hst1.inv 0 _ rfl))
    have hnb : ∀ rv, rv ∈ [Value.pointer none, Value.pointer (some ⟨b2,0, none⟩)] → NoBook w1 rv := fun rv hr => by
      rcases List.mem_cons.1 hr with rfl | hr
      · intro L w2 hw; exact valid_n w2
      · have hr := List.mem_singleton.1 hr
        subst hr
        intro L w2 hw; exact valid_z _ w2 (cells_keep hzb w2 hw)
    refine VC.loopK (α := Nat) 0 (fun gx => [(30, .int .i64 (gx : Nat))]) [(0,_), (2,_), (3,_), (5,_), (28,_), (29,_)] (fun gx => []) (fun gx => gx ≤ 2) (fun gx => 2 - gx) 0 (by exact Nat.zero_le _) (.cons rfl (.cons rfl (.cons rfl (.cons rfl (.cons rfl (.cons rfl (.cons rfl .nil))))))) (fun _ h => h) ?_
    rintro i hi
    refine VC.seq ?_
    refine VC.reg (VO.l (LO.lt (.r rfl) (.r rfl)) rfl<|VO.nil ?_)
    refine VE.seqN ?_
    refine VC.seq ?_
    refine VC.cond rfl (fun h31 => ?_) (fun h31 => ?_)
    ·
      obtain ⟨rv, hrv⟩ := get_ex (l := [Value.pointer none, Value.pointer (some ⟨b2,0, none⟩)]) (n := i) (show i < 2 by omega)
      have hno : NoBook w1 rv := hnb rv (List.mem_of_getElem? hrv)
      refine VC.skip (VE.seqN ?_)
      refine VC.seq ?_
      refine VC.block ?_
      refine VC.seq ?_
      refine VC.reg (VO.l (LO.ixs S120 N98 hpl.sm (.r rfl) (.r rfl) rfl (show i < 2 by omega)) rfl<|VO.l (LO.ld O98 (.r rfl) (fun w hw => cells_part (off := 0) ((fun w3 h3 => RO.cel (hpl.keep w3 h3) hrv) w hw) ⟨_, rfl⟩)) rfl<|VO.l (LO.as (.r rfl)) rfl<|VO.nil ?_)
      refine VE.seqN ?_
      refine VC.seq ?_
      refine VC.reg (VO.l (LO.mv (.r rfl)) rfl<|VO.l (LO.mv (.r rfl)) rfl<|VO.l (LO.lda (vs := [_,_,_,_,_,_]) A26 (.r rfl) (cells_keep (sub_cells (off := 0) hfl ⟨_, rfl⟩)) rfl) rfl<|VO.l (LO.call (xs := [_,_,_]) (vs := [_,_,_]) C48 ⟨(.r rfl), (.r rfl), (.r rfl), trivial⟩ (fun w2 hw => Add_n rv time g vs pv cv w2 (NoBook.keep hno hw))) rfl<|VO.l (LO.mv (.r rfl)) rfl<|VO.l (LO.ex (.r rfl) rfl) rfl<|VO.l (LO.ex (.r rfl) rfl) rfl<|VO.l (LO.as (.r rfl)) rfl<|VO.l (LO.as (.r rfl)) rfl<|VO.nil ?_)
      refine VE.seqN ?_
      refine VC.seq ?_
      refine VC.reg (VO.l (LO.mv (.r rfl)) rfl<|VO.l (LO.mv (.r rfl)) rfl<|VO.l (LO.mv (.r rfl)) rfl<|VO.l (LO.call (xs := [_,_,_]) (vs := [_,_,_]) C51 ⟨(.r rfl), (.r rfl), (.r rfl), trivial⟩ (fun w2 hw => Of_n rv n m w2 (NoBook.keep hno hw))) rfl<|VO.l (LO.mv (.r rfl)) rfl<|VO.l (LO.ex (.r rfl) rfl) rfl<|VO.l (LO.ex (.r rfl) rfl) rfl<|VO.l (LO.as (.r rfl)) rfl<|VO.l (LO.as (.r rfl)) rfl<|VO.nil ?_)
      refine VE.seqN ?_
      refine VC.seq ?_
      refine VC.reg (VO.l (LO.mv (.r rfl)) rfl<|VO.l (LO.mv (.r rfl)) rfl<|VO.l (LO.call (xs := [_,_]) (vs := [_,_]) C52 ⟨(.r rfl), (.r rfl), trivial⟩ (fun w2 hw => Past_n rv n w2 (NoBook.keep hno hw))) rfl<|VO.l (LO.mv (.r rfl)) rfl<|VO.l (LO.ex (.r rfl) rfl) rfl<|VO.l (LO.ex (.r rfl) rfl) rfl<|VO.l (LO.as (.r rfl)) rfl<|VO.l (LO.as (.r rfl)) rfl<|VO.nil ?_)
      refine VE.seqN ?_
      refine VC.seq ?_
      refine VC.reg (VO.l (LO.mv (.r rfl)) rfl<|VO.l (LO.mv (.r rfl)) rfl<|VO.l (LO.call (xs := [_,_]) (vs := [_,_]) C53 ⟨(.r rfl), (.r rfl), trivial⟩ (fun w2 hw => Future_n rv n w2 (NoBook.keep hno hw))) rfl<|VO.l (LO.mv (.r rfl)) rfl<|VO.l (LO.ex (.r rfl) rfl) rfl<|VO.l (LO.ex (.r rfl) rfl) rfl<|VO.l (LO.as (.r rfl)) rfl<|VO.l (LO.as (.r rfl)) rfl<|VO.nil ?_)
      refine VE.seqN ?_
      refine VC.seq ?_
      refine VC.reg (VO.l (LO.mv (.r rfl)) rfl<|VO.l (LO.mv (.r rfl)) rfl<|VO.l (LO.call (xs := [_,_]) (vs := [_,_]) C54 ⟨(.r rfl), (.r rfl), trivial⟩ (fun w2 hw => Steps_n rv n w2 (NoBook.keep hno hw))) rfl<|VO.l (LO.mv (.r rfl)) rfl<|VO.l (LO.ex (.r rfl) rfl) rfl<|VO.l (LO.ex (.r rfl) rfl) rfl<|VO.l (LO.as (.r rfl)) rfl<|VO.l (LO.as (.r rfl)) rfl<|VO.nil ?_)
      refine VE.seqN ?_
      refine VC.seq ?_
      refine VC.reg (VO.l (LO.mv (.r rfl)) rfl<|VO.l (LO.ne (.r rfl) (.r rfl)) rfl<|VO.l (LO.mv (.r rfl)) rfl<|VO.lg rfl rfl (GD.f _) (fun hg => LO.mv (.r rfl)) rfl<|VO.lg rfl rfl (GD.f _) (fun hg => LO.ne (.g hg rfl) (.r rfl)) rfl<|VO.l (LO.pkO (.r rfl) (.r rfl) rfl rfl) rfl<|VO.l (LO.mv (.r rfl)) rfl<|VO.lg rfl rfl (GD.f _) (fun hg => LO.mv (.r rfl)) rfl<|VO.lg rfl rfl (GD.f _) (fun hg => LO.ne (.g hg rfl) (.r rfl)) rfl<|VO.l (LO.pkO (.r rfl) (.r rfl) rfl rfl) rfl<|VO.l (LO.mv (.r rfl)) rfl<|VO.lg rfl rfl (GD.f _) (fun hg => LO.mv (.r rfl)) rfl<|VO.lg rfl rfl (GD.f _) (fun hg => LO.ne (.g hg rfl) (.r rfl)) rfl<|VO.l (LO.pkO (.r rfl) (.r rfl) rfl rfl) rfl<|VO.l (LO.mv (.r rfl)) rfl<|VO.lg rfl rfl (GD.f _) (fun hg => LO.mv (.r rfl)) rfl<|VO.lg rfl rfl (GD.f _) (fun hg => LO.ne (.g hg rfl) (.r rfl)) rfl<|VO.l (LO.pkO (.r rfl) (.r rfl) rfl rfl) rfl<|VO.l (LO.mv (.r rfl)) rfl<|VO.lg rfl rfl (GD.f _) (fun hg => LO.mv (.r rfl)) rfl<|VO.lg rfl rfl (GD.f _) (fun hg => LO.ne (.g hg rfl) (.r rfl)) rfl<|VO.l (LO.pkO (.r rfl) (.r rfl) rfl rfl) rfl<|VO.l (LO.mv (.r rfl)) rfl<|VO.lg rfl rfl (GD.f _) (fun hg => LO.mv (.r rfl)) rfl<|VO.lg rfl rfl (GD.f _) (fun hg => LO.len S46 (.g hg rfl) rfl) rfl<|VO.lg rfl rfl (GD.f _) (fun hg => LO.mv (.r rfl)) rfl<|VO.lg rfl rfl (GD.f _) (fun hg => LO.len S40 (.g hg rfl) rfl) rfl<|VO.lg rfl rfl (GD.f _) (fun hg => LO.add (.g hg rfl) (.g hg rfl) (wi (by omega) (by omega))) rfl<|VO.lg rfl rfl (GD.f _) (fun hg => LO.mv (.r rfl)) rfl<|VO.lg rfl rfl (GD.f _) (fun hg => LO.len S40 (.g hg rfl) rfl) rfl<|VO.lg rfl rfl (GD.f _) (fun hg => LO.add (.g hg rfl) (.g hg rfl) (wi (by omega) (by omega))) rfl<|VO.lg rfl rfl (GD.f _) (fun hg => LO.mv (.r rfl)) rfl<|VO.lg rfl rfl (GD.f _) (fun hg => LO.len S121 (.g hg rfl) rfl) rfl<|VO.lg rfl rfl (GD.f _) (fun hg => LO.add (.g hg rfl) (.g hg rfl) (wi (by omega) (by omega))) rfl<|VO.lg rfl rfl (GD.f _) (fun hg => LO.mv (.r rfl)) rfl<|VO.lg rfl rfl (GD.f _) (fun hg => LO.call (xs := [_]) (vs := [_]) C49 ⟨(.g hg rfl), trivial⟩ (fun w2 hw => Tracks_n rv w2 (NoBook.keep hno hw))) rfl<|VO.lg rfl rfl (GD.f _) (fun hg => LO.len S102 (.g hg rfl) rfl) rfl<|VO.lg rfl rfl (GD.f _) (fun hg => LO.add (.g hg rfl) (.g hg rfl) (wi (by omega) (by omega))) rfl<|VO.lg rfl rfl (GD.f _) (fun hg => LO.ne (.g hg rfl) (.r rfl)) rfl<|VO.l (LO.pkO (.r rfl) (.r rfl) rfl rfl) rfl<|VO.l (LO.mv (.r rfl)) rfl<|VO.lg rfl rfl (GD.f _) (fun hg => LO.mv (.r rfl)) rfl<|VO.lg rfl rfl (GD.f _) (fun hg => LO.call (xs := [_]) (vs := [_]) C50 ⟨(.g hg rfl), trivial⟩ (fun w2 hw => Tally_n rv w2 (NoBook.keep hno hw))) rfl<|VO.lg rfl rfl (GD.f _) (fun hg => LO.bd (ps := []) (vs := []) (C := [_,_,_,_,_,_,_,_,_]) B105  trivial rfl rfl) rfl<|VO.lg rfl rfl (GD.f _) (fun hg => LO.neA («as» := [_,_,_,_,_,_,_,_,_]) (bs := [_,_,_,_,_,_,_,_,_]) EA105 (.g hg rfl) (.g hg rfl) rfl rfl) rfl<|VO.l (LO.pkO (.r rfl) (.r rfl) rfl rfl) rfl<|VO.l (LO.mv (.r rfl)) rfl<|VO.lg rfl rfl (GD.f _) (fun hg => LO.mv (.r rfl)) rfl<|VO.lg rfl rfl (GD.f _) (fun hg => LO.call (xs := [_]) (vs := [_]) C55 ⟨(.g hg rfl), trivial⟩ (fun w2 hw => Copy_n rv w2 (NoBook.keep hno hw))) rfl<|VO.lg rfl rfl (GD.f _) (fun hg => LO.neP0 ⟨_, Try.underlying98⟩ (.g hg rfl) (.r rfl)) rfl<|VO.l (LO.pkO (.r rfl) (.r rfl) rfl rfl) rfl<|VO.nil ?_)
      refine VE.seqN ?_
      refine VC.cond rfl (fun h116 => ?_) (fun h116 => ?_)
      ·
        (exfalso; exact absurd h116 (by decide))
      ·
        refine VC.skip (VE.inN (VE.seqN ?_))
        refine VC.reg (VO.l (LO.add (.r rfl) (.r rfl) (wi (by omega) (by omega))) rfl<|VO.l (LO.mv (.r rfl)) rfl<|VO.nil ?_)
        refine VE.thenN fun a w ha hw => ⟨i + 1, (by omega), (by omega), ha.sub (.cons rfl (.cons rfl (.cons rfl (.cons rfl (.cons rfl (.cons rfl (.cons rfl .nil))))))), hw⟩
    ·
      refine VC.exit (VE.thenX (VE.thenX (VE.inX (VE.seqN ?_))))
      refine VC.seq ?_
      refine VC.reg (VO.l (LO.call (xs := []) (vs := []) C16 trivial (fun w2 _ => works_c w2)) rfl<|VO.l (LO.as (.r rfl)) rfl<|VO.nil ?_)
      refine VE.seqN ?_
      refine VC.ret (VE.res (vs := [_]) rfl ⟨rfl, trivial⟩ (fun w hw => ?_))
      first | exact ⟨rfl, hw.nil⟩ | exact ⟨rfl, St.based hst1 hw⟩

end Go.Proofs.Ytgemekpofpoopaa
