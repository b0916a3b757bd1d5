/-
  The move of all is a possible move: plain.
  Fields, events and moves of the statements.
  CellDrift, walked.
  Readings of maps by numbers.
  Readings of numbers with a sign.
-/
import Derived.Test.YtgemekpofpoopaaKDRI07

set_option linter.unusedSimpArgs false
namespace Go.Proofs.Ytgemekpofpoopaa
open Go.SL Go.Proofs Go.Cast Go.Cell
set_option linter.unusedVariables false
section
variable {W H r n m i j p q : Nat} {oa ob : List Int} {l : List EvM} {x y lv : Int} {vs ts fs ss as_ bs_ : List Span}
theorem ks_mem (hS : ∀ x, x < W * H → inB vs lv x = true → mayB vs lv x = true) {k : List Nat} (hk : k ∈ ksAt W H vs lv i) (hp : p ∈ k) : p < W * H ∧ inB vs lv p = true ∧ (ofL W H (mayB vs lv)).getD p (-1) = i := by
  unfold ksAt at hk
  cases ha : (areasM W H vs lv)[i]? with
  | none => rw [ha] at hk; cases hk
  | some a =>
    rw [ha] at hk
    unfold areasM at ha
    rw [List.getElem?_map] at ha
    cases hl : (partsL W H (mayB vs lv))[i]? with
    | none => rw [hl] at ha; cases ha
    | some l =>
      rw [hl] at ha
      have e : areaM W H vs lv l = a := Option.some.inj ha
      subst e
      obtain ⟨h2, h3⟩ := List.mem_filter.1 (show k ∈ (partsL W H (inB vs lv)).filter (fun k => decide (k.headD 0 ∈ l)) from hk)
      have hne : k ≠ [] := fun e => by rw [e] at hp; cases hp
      obtain ⟨g1, g2, g3,_⟩ := parts_cn (Nat.le_refl _) h2 (headD_mem hne)
      have hc := (g3 p).1 hp
      have ho := ow_ok (W := W) (H := H) (M := mayB vs lv)
      refine ⟨hc.lt g2, hc.right, ?_⟩
      rw [ow_cn ho g2 (hc.mono g2 hS), ho.get _ g2]
      exact idx_at (parts_apart (Nat.le_refl _)) hl (of_decide_eq_true h3)
theorem follow_ok {ks : List (List Nat)} (h : ∀ k, k ∈ ks → ∀ p, p ∈ k → p < W * H ∧ ∀ q, MvTo W H x y p q → ob.getD q (-1) = j) : followsB W H ks ob j x y = true := by
  refine List.all_eq_true.2 fun k hk => List.all_eq_true.2 fun p hp => ?_
  obtain ⟨h1, h2⟩ := h k hk p hp
  unfold goodB
  by_cases z : ((p % W : Nat) : Int) + x < 0 ∨ (W : Int) ≤ ((p % W : Nat) : Int) + x ∨ ((p / W : Nat) : Int) + y < 0 ∨ (H : Int) ≤ ((p / W : Nat) : Int) + y
  · rw [decide_eq_true z]; rfl
  · rw [h2 _ (mv_to h1 (by omega)), decide_eq_true (rfl : (j : Int) = j), Bool.or_true]
/-- What holds of the events of a field that moves. -/
structure DrE (W H r : Nat) (fs ss as_ bs_ : List Span) (x y lv : Int) (l : List EvM) : Prop where
  k : DrK W H fs ss as_ bs_ x y lv
  ev : EvP W H r (ofL W H (mayB as_ lv)) (ofL W H (mayB bs_ lv)) (partsL W H (mayB as_ lv)).length (partsL W H (mayB bs_ lv)).length l
  r : -(r : Int) ≤ x ∧ x ≤ r ∧ -(r : Int) ≤ y ∧ y ≤ r
  a : ∀ x, x < W * H → inB as_ lv x = true → mayB as_ lv x = true
  b : ∀ x, x < W * H → inB bs_ lv x = true → mayB bs_ lv x = true
theorem DrE.pair (h : DrE W H r fs ss as_ bs_ x y lv l) {p q : Nat} (hm : MvTo W H x y p q) (hin : lv ≤ (fs.getD p ⟨0,0⟩).lo) : ∃ (i j : Nat) (e : EvM), (ofL W H (mayB as_ lv)).getD p (-1) = i ∧ (ofL W H (mayB bs_ lv)).getD q (-1) = j ∧ e ∈ l ∧ i ∈ e.f ∧ j ∈ e.t := by
  obtain ⟨i, j, h1, h2, h3, h4⟩ := drift_pair h.k ow_ok ow_ok hm hin
  obtain ⟨e, g1, g2, g3⟩ := ev_pair h.ev h2 h4 (hm.near h.r h1 h3 (by omega) (by omega))
  exact ⟨i, j, e, h1, h3, g1, g2, g3⟩
theorem DrE.ok (h : DrE W H r fs ss as_ bs_ x y lv l) {e : EvM} (he : e ∈ l) (hf : e.f = [i]) (ht : e.t = [j]) : moveOk W H (ksAt W H as_ lv i) (ksAt W H bs_ lv j) (ofL W H (mayB as_ lv)) (ofL W H (mayB bs_ lv)) i j ⟨x, y⟩ = true := by
  have hg := h.ev.good
  unfold moveOk
  rw [Bool.and_eq_true]
  refine ⟨follow_ok fun k hk p hp => ?_, follow_ok fun k hk q hq => ?_⟩
  · obtain ⟨h1, h2, h3⟩ := ks_mem h.a hk hp
    refine ⟨h1, fun q hm => ?_⟩
    obtain ⟨i2, j2, e2, g1, g2, g3, g4, g5⟩ := h.pair hm ((h.k.fa p h1).2 h2)
    have : i2 = i := by rw [h3] at g1; omega
    subst this
    have e3 : e = e2 := ev_oneF hg he g3 (by rw [hf]; simp) g4
    subst e3
    rw [ht] at g5
    have : j2 = j := by simpa using g5
    rw [g2, this]
  · obtain ⟨h1, h2, h3⟩ := ks_mem h.b hk hq
    refine ⟨h1, fun p hm => ?_⟩
    have hm : MvTo W H (-x) (-y) q p := hm
    have hm2 : MvTo W H x y p q := by have z := hm.neg; rwa [Int.neg_neg, Int.neg_neg] at z
    obtain ⟨i2, j2, e2, g1, g2, g3, g4, g5⟩ := h.pair hm2 (by rw [← h.k.mv p q hm2]; exact (h.k.sb q h1).2 h2)
    have : j2 = j := by rw [h3] at g2; omega
    subst this
    have e3 : e = e2 := ev_oneT hg he g3 (by rw [ht]; simp) g5
    subst e3
    rw [hf] at g4
    have : i2 = i := by simpa using g4
    rw [g1, this]
theorem mv_code (hr : -(r : Int) ≤ x ∧ x ≤ r ∧ -(r : Int) ≤ y ∧ y ≤ r) : ∃ n, n < (2 * r + 1) * (2 * r + 1) ∧ mvAt r n = ⟨x, y⟩ := by
  obtain ⟨u, hu⟩ : ∃ u : Nat, x + r = u := ⟨(x + r).toNat, by omega⟩
  obtain ⟨v, hv⟩ : ∃ v : Nat, y + r = v := ⟨(y + r).toNat, by omega⟩
  have hul : u < 2 * r + 1 := by omega
  have hvl : v < 2 * r + 1 := by omega
  obtain ⟨e1, e2⟩ := dm_eq (W := 2 * r + 1) (p := (2 * r + 1) * v + u) (a := v) (b := u) rfl hul
  refine ⟨(2 * r + 1) * v + u, pix_lt hul hvl, ?_⟩
  unfold mvAt
  rw [e1, e2]
  congr 1 <;> omega
theorem DrE.mem {G : Grid} (h : DrE (gW G) (gH G) r fs ss as_ bs_ x y lv l) {e : EvM} (he : e ∈ l) (hf : e.f = [i]) (ht : e.t = [j]) : (⟨x, y⟩ : Mv) ∈ movesP G as_ bs_ lv i j r := by
  obtain ⟨n, hn, e2⟩ := mv_code h.r
  unfold movesP movesM movesTo
  refine List.mem_filter.2 ⟨List.mem_map.2 ⟨n, List.mem_range.2 hn, e2⟩, h.ok he hf ht⟩
theorem lo_hi {f : Mv → Int} {l : List Mv} {d : Mv} (h : d ∈ l) : loM f l ≤ f d ∧ f d ≤ hiM f l := by
  obtain ⟨i, hi, e⟩ := List.mem_iff_getElem.1 h
  have hg : l[i]? = some d := by rw [List.getElem?_eq_getElem hi, e]
  exact ⟨(loTo_le (f := f) (l := l) (Nat.le_refl _)).1 i d hi hg, (hiTo_le (f := f) (l := l) (Nat.le_refl _)).1 i d hi hg⟩
theorem hull_ok {l : List Mv} {d : Mv} (h : d ∈ l) : hullE l = 0 := by unfold hullE; rw [if_neg fun e => by rw [e] at h; cases h]
theorem one_nat {l : List Nat} (h : l.length = 1) : ∃ a, l = [a] := by
  match l, h with
  | [a],_ => exact ⟨a, rfl⟩
end
end Go.Proofs.Ytgemekpofpoopaa

namespace Go.Proofs.Ytgemekpofpoopaa
open Go.SL Go.Proofs Go.Cast Go.Cell
set_option linter.unusedVariables false



structure FldD (G : Grid) (vs : List Span) : Prop where
  fld : FldOk G vs
  hi : ∀ j, j < vs.length → (vs.getD j ⟨0,0⟩).hi ≤ 70
theorem map_fldD (x : MapA) : FldD (mapG x) (mapVs x) := ⟨map_fld x, fun j hj => by
  have hl : (mapVs x).length = mapW x * mapH x := mapTo_len
  have h40 : vAt x.lo 40 j < 40 := vAt_lt (by decide)
  have h30 : vAt x.mo 30 j < 30 := vAt_lt (by decide)
  rw [hl] at hj
  unfold mapVs
  rw [mapTo_get hj]
  unfold mapAt
  dsimp only
  omega⟩
theorem field_d (G : Grid) (x : MapA) (w : World) (hx : MapI w x) (hk : MapK x) (hG : G = mapG x) : Calls Try.prog 33 #[x.V] w fun e w' => ∃ y : MpY, FldD G y.v ∧ e = .returned (fieldV G y.p y.v.length y.c) ∧ St (bs w) [own 71 2 y.p y.c (y.v.map Span.cells)] w' := by
  subst hG
  exact (field_c x w hx hk).mono fun e w' ⟨y,_, h2, h3⟩ => ⟨⟨y.p, y.c, mapVs x⟩, map_fldD x, h2, h3⟩
/-- A field of points. -/
structure FldP (G : Grid) (vs : List Span) : Prop where
  fld : FldOk G vs
  hi : ∀ j, j < vs.length → (vs.getD j ⟨0,0⟩).hi ≤ 70
  pt : ∀ j, j < vs.length → (vs.getD j ⟨0,0⟩).lo = (vs.getD j ⟨0,0⟩).hi
theorem fld_pt {G : Grid} {vs ts : List Span} (h : FldD G vs) (k : WthOk vs ts true) : FldP G ts := ⟨fld_wth h.fld k, fun j hj => by rw [k.len] at hj; have := k.sp j hj; have := h.hi j hj; omega, fun j hj => k.pnt rfl j (by rw [k.len] at hj; exact hj)⟩
theorem dr_pt {G : Grid} {vs : List Span} {ot : List Nat} {x y : Int} (h : FldP G vs) : FldP G (drTo (gW G) (gH G) vs ot x y vs.length) := by
  have hl : (drTo (gW G) (gH G) vs ot x y vs.length).length = vs.length := drTo_len
  have key : ∀ j, j < vs.length → 0 ≤ ((drTo (gW G) (gH G) vs ot x y vs.length).getD j ⟨0,0⟩).lo ∧ ((drTo (gW G) (gH G) vs ot x y vs.length).getD j ⟨0,0⟩).lo = ((drTo (gW G) (gH G) vs ot x y vs.length).getD j ⟨0,0⟩).hi ∧ ((drTo (gW G) (gH G) vs ot x y vs.length).getD j ⟨0,0⟩).hi ≤ 70 := fun j hj => by
    have e : (drTo (gW G) (gH G) vs ot x y vs.length).getD j ⟨0,0⟩ = drAt (gW G) (gH G) vs ot x y j := by
      unfold drTo; rw [List.getD_eq_getElem?_getD, List.getElem?_map, List.getElem?_range hj]; rfl
    rw [e]
    unfold drAt
    split
    · by_cases q : drQ (gW G) j x y < vs.length
      · have := h.fld.sp _ q; have := h.hi _ q; have := h.pt _ q; omega
      · rw [List.getD_eq_getElem?_getD, List.getElem?_eq_none (by omega)]; decide
    · have h70 : vAt ot 70 j < 70 := vAt_lt (by decide)
      dsimp only; omega
  exact ⟨⟨h.fld.grid, by rw [hl]; exact h.fld.wide, by rw [hl]; exact h.fld.n, fun j hj => by have := key j (by omega); omega, by rw [hl]; exact h.fld.le, by rw [hl]; exact h.fld.pos⟩, fun j hj => (key j (by omega)).2.2, fun j hj => (key j (by omega)).2.1⟩
theorem ar_fld {G : Grid} {vs : List Span} {le mo : List Nat} (h : FldP G vs) : FldOk G (arTo vs le mo vs.length) := by
  have hl : (arTo vs le mo vs.length).length = vs.length := arTo_len
  refine ⟨h.fld.grid, by rw [hl]; exact h.fld.wide, by rw [hl]; exact h.fld.n, fun j hj => ?_, by rw [hl]; exact h.fld.le, by rw [hl]; exact h.fld.pos⟩
  rw [hl] at hj
  rw [arM_get hj]
  have h1 := h.fld.sp j hj; have h2 := h.hi j hj
  have h20 : vAt mo 20 j < 20 := vAt_lt (by decide)
  unfold arAt
  dsimp only
  omega
theorem drifted_k (G : Grid) (vs : List Span) (pv : Option Addr) (cv : Nat) (x y : Int) (ot : List Nat) (pt : Option Addr) (ct : Nat) (w : World) (hv : Spans w pv vs) (h : FldOk G vs) (hx : -3 ≤ x ∧ x ≤ 3) (hy : -3 ≤ y ∧ y ≤ 3) (hot : RO 1 uC w pt ot) (h8 : ∀ n, n ∈ ot → n ≤ 255) : Calls Try.prog 44 #[fieldV G pv vs.length cv, .int .i64 x, .int .i64 y, .slice pt ot.length ct] w fun e w' => ∃ z : MpY, z.v = drTo (gW G) (gH G) vs ot x y vs.length ∧ e = .returned (fieldV G z.p z.v.length z.c) ∧ St (bs w) [own 71 2 z.p z.c (z.v.map Span.cells)] w' :=
  (drifted_c G vs pv cv x y ot pt ct w hv h.grid h.n hx hy hot h8).mono fun e w' ⟨z,_, h2, h3⟩ => ⟨⟨z.p, z.c, drTo (gW G) (gH G) vs ot x y vs.length⟩, rfl, h2, h3⟩
theorem around_k (G : Grid) (vs : List Span) (pv : Option Addr) (cv : Nat) (le : List Nat) (pl : Option Addr) (cl : Nat) (mo : List Nat) (pm : Option Addr) (cm : Nat) (w : World) (hv : Spans w pv vs) (h : FldOk G vs) (hle : RO 1 uC w pl le) (hl8 : ∀ n, n ∈ le → n ≤ 255) (hmo : RO 1 uC w pm mo) (hm8 : ∀ n, n ∈ mo → n ≤ 255) : Calls Try.prog 45 #[fieldV G pv vs.length cv, .slice pl le.length cl, .slice pm mo.length cm] w fun e w' => ∃ z : MpY, z.v = arTo vs le mo vs.length ∧ e = .returned (fieldV G z.p z.v.length z.c) ∧ St (bs w) [own 71 2 z.p z.c (z.v.map Span.cells)] w' :=
  (around_f G vs pv cv le pl cl mo pm cm w hv (by have := h.le; omega) h.sp hle hl8 hmo hm8).mono fun e w' ⟨z,_, h2, h3⟩ => ⟨⟨z.p, z.c, arTo vs le mo vs.length⟩, rfl, h2, h3⟩
theorem fieldE_zero {G : Grid} {vs : List Span} (h : FldOk G vs) : fieldE 1073741824 ⟨G, vs⟩ = 0 := (fE4 (m := 1073741824) (f := ⟨G, vs⟩) (j := vs.length) h.grid h.wide (fun k hk => if_pos (by have := h.sp k hk; unfold spanOk; dsimp only; omega)) (Nat.le_refl _)).symm
theorem pair_zero {G : Grid} {vs ts : List Span} {lv : Int} {r : Nat} (h : FldOk G vs) (k : FldOk G ts) (h1 : 1 ≤ lv) (h2 : lv ≤ 1073741824) (hr : r ≤ 8) : pairE G vs G ts lv r = 0 := by
  unfold pairE
  rw [if_neg (fun z => z (fieldE_zero h)), if_neg (fun z => z (fieldE_zero k)), if_neg (fun z => z rfl), if_neg (by omega)]
theorem Match_k (G : Grid) (vs : List Span) (p1 : Option Addr) (c1 : Nat) (ts : List Span) (p2 : Option Addr) (c2 : Nat) (lv : Int) (r : Nat) (w : World) (hv1 : Spans w p1 vs) (hv2 : Spans w p2 ts) (h : FldOk G vs) (k : FldOk G ts) (h1 : 1 ≤ lv) (h2 : lv ≤ 1073741824) (hr : r ≤ 8) : Calls Try.prog 27 #[fieldV G p1 vs.length c1, fieldV G p2 ts.length c2, .int .i64 lv, .int .i64 (r : Int)] w fun e w' => ∃ y : EvY, EvP (gW G) (gH G) r (ofL (gW G) (gH G) (mayB vs lv)) (ofL (gW G) (gH G) (mayB ts lv)) (partsL (gW G) (gH G) (mayB vs lv)).length (partsL (gW G) (gH G) (mayB ts lv)).length (y.l.map EvR.m) ∧ e = .returned (.tuple #[.slice y.p y.l.length y.c, .int .i64 0]) ∧ St (bs w) y.R w' :=
  Match_ok G vs p1 c1 G ts p2 c2 lv r w hv1 hv2 (pair_zero h k h1 h2 hr)
structure MvL where
  p : Option Addr
  c : Nat
  l : List Mv
structure MvE (G : Grid) (vs ts : List Span) (lv : Int) (i j r : Nat) (l : List Mv) : Prop where
  eq : l = movesP G vs ts lv i j r
  len : l.length ≤ 289
theorem movesP_len {G : Grid} {vs ts : List Span} {lv : Int} {i j r : Nat} (hr : r ≤ 8) : (movesP G vs ts lv i j r).length ≤ 289 := by
  have h1 := mv_le hr
  have h2 := movesTo_len (W := gW G) (H := gH G) (ka := ksAt (gW G) (gH G) vs lv i) (kb := ksAt (gW G) (gH G) ts lv j) (ofa := ofL (gW G) (gH G) (mayB vs lv)) (ofb := ofL (gW G) (gH G) (mayB ts lv)) (i := i) (j := j) (r := r) (n := (2 * r + 1) * (2 * r + 1))
  unfold movesP movesM; omega
theorem Moves_k (G : Grid) (vs : List Span) (p1 : Option Addr) (c1 : Nat) (ts : List Span) (p2 : Option Addr) (c2 : Nat) (lv : Int) (r i j : Nat) (w : World) (hv1 : Spans w p1 vs) (hv2 : Spans w p2 ts) (h : FldOk G vs) (k : FldOk G ts) (h1 : 1 ≤ lv) (h2 : lv ≤ 1073741824) (hr : r ≤ 8) (hi : i < (partsL (gW G) (gH G) (mayB vs lv)).length) (hj : j < (partsL (gW G) (gH G) (mayB ts lv)).length) : Calls Try.prog 30 #[fieldV G p1 vs.length c1, fieldV G p2 ts.length c2, .int .i64 lv, .int .i64 (r : Int), .int .i64 (i : Int), .int .i64 (j : Int)] w fun e w' => ∃ y : MvL, MvE G vs ts lv i j r y.l ∧ e = .returned (.tuple #[.slice y.p y.l.length y.c, .int .i64 0]) ∧ St (bs w) [own 85 2 y.p y.c (y.l.map Mv.cells)] w' :=
  (Moves_ok G vs p1 c1 G ts p2 c2 lv i j r w hv1 hv2 (by
    unfold moveE
    rw [if_neg (fun z => z (pair_zero h k h1 h2 hr)), if_neg]
    rintro (z | z | z)
    · omega
    · unfold nP at z; omega
    · unfold nP at z; omega)).mono fun e w' ⟨y,_, h2, h3⟩ => ⟨⟨y.p, y.c, movesP G vs ts lv i j r⟩, ⟨rfl, movesP_len hr⟩, h2, h3⟩
theorem dr_all {G : Grid} {fs ss as_ bs_ : List Span} {ot le mo : List Nat} {x y lv : Int} {r : Nat} {l : List EvM} (hf : FldP G fs) (hs : ss = drTo (gW G) (gH G) fs ot x y fs.length) (ha : as_ = arTo fs le mo fs.length) (hb : bs_ = arTo ss mo le ss.length) (h1 : 1 ≤ lv)
    (hev : EvP (gW G) (gH G) r (ofL (gW G) (gH G) (mayB as_ lv)) (ofL (gW G) (gH G) (mayB bs_ lv)) (partsL (gW G) (gH G) (mayB as_ lv)).length (partsL (gW G) (gH G) (mayB bs_ lv)).length l) (hr : -(r : Int) ≤ x ∧ x ≤ r ∧ -(r : Int) ≤ y ∧ y ≤ r) : DrE (gW G) (gH G) r fs ss as_ bs_ x y lv l := by
  have hsP : FldP G ss := by rw [hs]; exact dr_pt hf
  have hsl : ss.length = fs.length := by rw [hs]; exact drTo_len
  have hfn := hf.fld.n
  refine ⟨⟨fun p q hm => by rw [hs]; exact dr_get hfn hm, fun p hp => ?_, fun p hp => ?_⟩, hev, hr, by rw [ha]; exact may_of (ar_fld hf), by rw [hb]; exact may_of (ar_fld hsP)⟩
  · rw [ha]; exact around_in (by omega) h1 (hf.pt p (by omega))
  · rw [hb]; exact around_in (by omega) h1 (hsP.pt p (by omega))
theorem ow_eq {W H : Nat} {M : Nat → Bool} {o1 o2 : List Int} (h1 : OwOk W H M o1) (h2 : OwOk W H M o2) {q : Nat} (hq : q < W * H) : o1.getD q (-1) = o2.getD q (-1) := by rw [h1.get q hq, h2.get q hq]
theorem tg_of {l : List EvR} {i j : Nat} {e : EvM} (he : e ∈ l.map EvR.m) (h1 : i ∈ e.f) (h2 : j ∈ e.t) : tgB l i j = true := by
  obtain ⟨r, hr, rfl⟩ := List.mem_map.1 he
  obtain ⟨k, hk⟩ := List.mem_iff_getElem?.1 hr
  exact tg_t hk ⟨h1, h2⟩
theorem ev_lens {n m : Nat} {l : List EvR} (h : GoodEv n m (l.map EvR.m)) (hn : n ≤ 4096) (hm : m ≤ 4096) : ∀ e, e ∈ l → e.f.length ≤ 1000000 ∧ e.t.length ≤ 1000000 := fun e he => by
  have h1 := h.fs e.m (List.mem_map_of_mem he)
  have h2 := h.ts e.m (List.mem_map_of_mem he)
  have k1 := length_le_of_subset (m := List.range n) (h1.1.imp fun z => Nat.ne_of_lt z) (fun x hx => List.mem_range.2 (h1.2 x hx))
  have k2 := length_le_of_subset (m := List.range m) (h2.1.imp fun z => Nat.ne_of_lt z) (fun x hx => List.mem_range.2 (h2.2 x hx))
  rw [List.length_range] at k1 k2
  exact ⟨Nat.le_trans k1 (by omega), Nat.le_trans k2 (by omega)⟩
theorem ev_count {n m : Nat} {l : List EvM} (h : GoodEv n m l) : l.length ≤ n + m := by
  have key : ∀ e, e ∈ l → ∃ t, t < n + m ∧ ((t < n ∧ t ∈ e.f) ∨ (n ≤ t ∧ t - n ∈ e.t)) := fun e he => by
    have h1 := (h.kd e he).2
    by_cases q : 0 < e.f.length
    · obtain ⟨a, ha⟩ := List.exists_mem_of_length_pos q
      have := (h.fs e he).2 a ha
      exact ⟨a, by omega, .inl ⟨this, ha⟩⟩
    · obtain ⟨a, ha⟩ := List.exists_mem_of_length_pos (l := e.t) (by omega)
      have := (h.ts e he).2 a ha
      exact ⟨n + a, by omega, .inr ⟨by omega, by rw [Nat.add_sub_cancel_left]; exact ha⟩⟩
  have : ∀ l : List EvM, (∀ e, e ∈ l → ∃ t, t < n + m ∧ ((t < n ∧ t ∈ e.f) ∨ (n ≤ t ∧ t - n ∈ e.t))) → l.Pairwise (fun a b => (∀ i, i ∈ a.f → i ∉ b.f) ∧ ∀ j, j ∈ a.t → j ∉ b.t) → ∃ ts : List Nat, ts.length = l.length ∧ ts.Nodup ∧ (∀ t, t ∈ ts → t < n + m) ∧ ∀ t, t ∈ ts → ∃ e, e ∈ l ∧ ((t < n ∧ t ∈ e.f) ∨ (n ≤ t ∧ t - n ∈ e.t)) := by
    intro l
    induction l with
    | nil => intro _ _; exact ⟨[], rfl, by simp, by simp, by simp⟩
    | cons a l ih =>
      intro hk hp
      obtain ⟨ts, t1, t2, t3, t4⟩ := ih (fun e he => hk e (by simp [he])) (List.pairwise_cons.1 hp).2
      obtain ⟨t, k1, k2⟩ := hk a (by simp)
      refine ⟨t :: ts, by simp [t1], List.nodup_cons.2 ⟨fun hm => ?_, t2⟩, fun s hs => ?_, fun s hs => ?_⟩
      · obtain ⟨e, he, g⟩ := t4 t hm
        have hap := (List.pairwise_cons.1 hp).1 e he
        rcases k2 with ⟨z1, z2⟩ | ⟨z1, z2⟩ <;> rcases g with ⟨y1, y2⟩ | ⟨y1, y2⟩
        · exact hap.1 _ z2 y2
        · omega
        · omega
        · exact hap.2 _ z2 y2
      · rcases List.mem_cons.1 hs with rfl | q
        · exact k1
        · exact t3 s q
      · rcases List.mem_cons.1 hs with rfl | q
        · exact ⟨a, by simp, k2⟩
        · obtain ⟨e, he, g⟩ := t4 s q; exact ⟨e, by simp [he], g⟩
  obtain ⟨ts, t1, t2, t3,_⟩ := this l key h.apart
  rw [← t1]
  have := length_le_of_subset (m := List.range (n + m)) t2 (fun x hx => List.mem_range.2 (t3 x hx))
  simpa using this
def anyMv (l : List Mv) (k : Nat) (x y : Int) : Bool := (l.take k).any fun d => decide ([d.x, d.y] = [x, y])
theorem any_succ {l : List Mv} {k : Nat} {x y : Int} {d : Mv} (h : l[k]? = some d) : anyMv l (k + 1) x y = (anyMv l k x y || decide ([d.x, d.y] = [x, y])) := by
  obtain ⟨hk, rfl⟩ := List.getElem?_eq_some_iff.1 h
  unfold anyMv; rw [List.take_succ_eq_append_getElem hk, List.any_append]; simp
theorem any_all {l : List Mv} {x y : Int} (h : (⟨x, y⟩ : Mv) ∈ l) : anyMv l l.length x y = true := by
  unfold anyMv; rw [List.take_length]
  exact List.any_eq_true.2 ⟨_, h, decide_eq_true rfl⟩

end Go.Proofs.Ytgemekpofpoopaa

namespace Go.Proofs.Ytgemekpofpoopaa
open Go.SL Go.Proofs Go.Cast Go.Cell
set_option linter.unusedVariables false

theorem C44 : IsFn Try.prog 44 := ⟨_, Try.func44, by decide, rfl⟩
theorem C45 : IsFn Try.prog 45 := ⟨_, Try.func45, by decide, rfl⟩
theorem C46 : IsFn Try.prog 46 := ⟨_, Try.func46, by decide, rfl⟩


theorem tm4 (a : Int) : -3 ≤ a.tmod 4 ∧ a.tmod 4 ≤ 3 := by
  have key : ∀ n : Nat, ((n : Int)).tmod 4 = ((n % 4 : Nat) : Int) := fun n => rfl
  rcases Int.le_total 0 a with h | h
  · obtain ⟨n, rfl⟩ : ∃ n : Nat, a = n := ⟨a.toNat, by omega⟩
    rw [key]; omega
  · obtain ⟨n, rfl⟩ : ∃ n : Nat, a = -(n : Int) := ⟨(-a).toNat, by omega⟩
    rw [Int.neg_tmod, key]; omega

set_option maxRecDepth 20000 in
set_option maxHeartbeats 32000000 in
theorem CellDrift_c (x : MapA) (wh : List Nat) (pw : Option Addr) (cw : Nat) (ot : List Nat) (pt : Option Addr) (ct : Nat) (le : List Nat) (pl : Option Addr) (cl : Nat) (mo : List Nat) (pm : Option Addr) (cm : Nat) (n : Nat) (dx dy : Int) (wd : Nat) (w : World) (hx : MapI w x) (hk : MapK x) (hwh : RO 1 uC w pw wh) (h8 : ∀ n, n ∈ wh → n ≤ 255) (hwl : wh.length ≤ 9223372036854775807) (hot : RO 1 uC w pt ot) (ho8 : ∀ n, n ∈ ot → n ≤ 255) (hle : RO 1 uC w pl le) (hl8 : ∀ n, n ∈ le → n ≤ 255) (hmo : RO 1 uC w pm mo) (hm8 : ∀ n, n ∈ mo → n ≤ 255) (hn : n ≤ 255) (hdx : -128 ≤ dx ∧ dx ≤ 127) (hdy : -128 ≤ dy ∧ dy ≤ 127) (hwd : wd ≤ 255) :
  Calls Try.prog 12 #[x.V, .slice pw wh.length cw, .slice pt ot.length ct, .slice pl le.length cl, .slice pm mo.length cm, .int .u8 (n : Int), .int .i8 dx, .int .i8 dy, .int .u8 (wd : Int)] w fun e w' => e = .returned (.bool true) ∧ St (bs w) [] w' := by
  obtain ⟨G, hG⟩ : ∃ G : Grid, G = mapG x := ⟨_, rfl⟩
  obtain ⟨lv, hlv⟩ : ∃ lv : Int, lv = ((1 + n % 50 : Nat) : Int) := ⟨_, rfl⟩
  have hlv1 : 1 ≤ lv := by omega
  have hlv2 : lv ≤ 1073741824 := by omega
  obtain ⟨mx, hmx⟩ : ∃ m : Int, dx.tmod 4 = m := ⟨_, rfl⟩
  obtain ⟨my, hmy⟩ : ∃ m : Int, dy.tmod 4 = m := ⟨_, rfl⟩
  have hx3 : -3 ≤ mx ∧ mx ≤ 3 := by rw [← hmx]; exact tm4 dx
  have hy3 : -3 ≤ my ∧ my ≤ 3 := by rw [← hmy]; exact tm4 dy
  obtain ⟨r, hr⟩ : ∃ r : Nat, max (max (max mx (-mx)) my) (-my) + ((wd % 2 : Nat) : Int) = (r : Int) := ⟨(max (max (max mx (-mx)) my) (-my) + ((wd % 2 : Nat) : Int)).toNat, by omega⟩
  have hr8 : r ≤ 8 := by omega
  have hrb : -(r : Int) ≤ mx ∧ mx ≤ r ∧ -(r : Int) ≤ my ∧ my ≤ r := by omega
  refine enter (vs := [_,_,_,_,_,_,_,_,_]) (env := [(0,_), (1,_), (2,_), (3,_), (4,_), (5,_), (6,_), (7,_), (8,_)]) Try.func12 rfl rfl rfl rfl ?_
  refine VC.seq ?_
  refine VC.reg (VO.h rfl<|HO.box (C := #[_,_,_,_]) rfl rfl fun b1 => VO.l (LO.as (.r rfl)) rfl<|VO.nil ?_)
  refine VE.seqN ?_
  refine VC.seq ?_
  refine VC.reg (VO.l (LO.mv (.r rfl)) rfl<|VO.l (LO.call (xs := [_]) (vs := [_]) C34 ⟨(.r rfl), trivial⟩ (fun w2 hw => level_k lv n w2 hn hlv)) rfl<|VO.l (LO.mv (.r rfl)) rfl<|VO.l (LO.cv ⟨_, Try.underlying92⟩ Try.underlying3 (.r rfl) (wi (by omega) (by omega))) rfl<|VO.l (LO.eqv (LO.rem (.r rfl) (.r rfl) (by omega)) (congrArg (Value.int .i64) hmx)) rfl<|VO.l (LO.mv (.r rfl)) rfl<|VO.l (LO.cv ⟨_, Try.underlying92⟩ Try.underlying3 (.r rfl) (wi (by omega) (by omega))) rfl<|VO.l (LO.eqv (LO.rem (.r rfl) (.r rfl) (by omega)) (congrArg (Value.int .i64) hmy)) rfl<|VO.l (LO.as (.r rfl)) rfl<|VO.l (LO.as (.r rfl)) rfl<|VO.l (LO.as (.r rfl)) rfl<|VO.nil ?_)
  refine VE.seqN ?_
  refine VC.seq ?_
  refine VC.reg (VO.l (LO.lda (vs := [_,_,_,_]) A63 (.r rfl) (fun _ hw => cells_at hw 0 rfl ⟨_, rfl⟩) rfl) rfl<|VO.h rfl<|HO.callx (xs := [_]) (vs := [_]) C33 ⟨(.r rfl), trivial⟩ (fun w2 hw => field_d G x w2 (hx.keep w2 hw) hk hG) fun y hy => VO.l (LO.mv (.r rfl)) rfl<|VO.h rfl<|HO.callx (xs := [_,_,_]) (vs := [_,_,_]) C35 ⟨(.r rfl), (.r rfl), (.r rfl), trivial⟩ (fun w2 hw => within_k G y.v y.p y.c wh pw cw true w2 (RO.of_own hw 0 rfl) (hwh.keep w2 hw) h8 hwl hy.fld) fun fs hfs0 => VO.h rfl<|HO.alloc (C := #[_,_,_,_,_,_]) Z26 rfl fun b4 => VO.h0<|HO.st 0 (vs := [_,_,_,_,_,_]) (C' := [_,_,_,_,_,_]) (L' := [_,_,_,_]) N26 rfl rfl rfl rfl rfl rfl rfl rfl<|VO.nil ?_)
  refine VE.seqN ?_
  refine VC.seq ?_
  have hfs := fld_pt hy hfs0
  refine VC.reg (VO.l (LO.lda (vs := [_,_,_,_,_,_]) A26 (.r rfl) (fun _ hw => cells_at hw 0 rfl ⟨_, rfl⟩) rfl) rfl<|VO.l (LO.mv (.r rfl)) rfl<|VO.l (LO.mv (.r rfl)) rfl<|VO.l (LO.mv (.r rfl)) rfl<|VO.h rfl<|HO.callx (xs := [_,_,_,_]) (vs := [_,_,_,_]) C44 ⟨(.r rfl), (.r rfl), (.r rfl), (.r rfl), trivial⟩ (fun w2 hw => drifted_k G fs.v fs.p fs.c mx my ot pt ct w2 (RO.of_own hw 1 rfl) hfs.fld hx3 hy3 (hot.keep w2 hw) ho8) fun sd hss => VO.h rfl<|HO.alloc (C := #[_,_,_,_,_,_]) Z26 rfl fun b7 => VO.h0<|HO.st 0 (vs := [_,_,_,_,_,_]) (C' := [_,_,_,_,_,_]) (L' := [_,_,_,_,_,_]) N26 rfl rfl rfl rfl rfl rfl rfl rfl<|VO.nil ?_)
  refine VE.seqN ?_
  refine VC.seq ?_
  have hsd : FldP G sd.v := by rw [hss]; exact dr_pt hfs
  refine VC.drawB [⟨8,24, fun b => .pointer (some ⟨b, 0, none⟩), 26, #[.int .i64 0, .int .i64 0, .int .i64 0, .int .i64 0, .int .i64 0, .slice none 0 0]⟩, ⟨9,25, fun b => .pointer (some ⟨b, 0, none⟩), 26, #[.int .i64 0, .int .i64 0, .int .i64 0, .int .i64 0, .int .i64 0, .slice none 0 0]⟩] [[0,1,2,3,4,5], [0,1,2,3,4,5], [0,1,2,3,4,5], [0,1,2,3,4,5], [0,1,2,3,4,5], [0,1,2,3,4,5], [0,1,2,3,4,5]] [some 4, some 4, some 4, none, some 4, some 4, some 4, none, none, none, none, none] mixed (by kernel_rfl) rfl (LX.l (fun _ hJ => LO.lda (vs := [_,_,_,_,_,_]) A26 (.r rfl) (fun _ hw => cells_at (hJ _ hw) 2 rfl ⟨_, rfl⟩) rfl) rfl<|LX.l (fun _ hJ => LO.mv (.r rfl)) rfl<|LX.l (fun _ hJ => LO.mv (.r rfl)) rfl<|LX.s<|LX.l (fun _ hJ => LO.lda (vs := [_,_,_,_,_,_]) A26 (.r rfl) (fun _ hw => cells_at (hJ _ hw) 0 rfl ⟨_, rfl⟩) rfl) rfl<|LX.l (fun _ hJ => LO.mv (.r rfl)) rfl<|LX.l (fun _ hJ => LO.mv (.r rfl)) rfl<|LX.s<|LX.s<|LX.s<|LX.s<|LX.s<|LX.nil) (⟨⟨rfl,_, rfl, FO.alloc Z26 rfl⟩, ⟨⟨rfl,_, rfl, FO.alloc Z26 rfl⟩, trivial⟩⟩) (HY.s<|HY.s<|HY.s<|HY.h rfl rfl fun X => HO.callx (xs := [_,_,_]) (vs := [_,_,_]) C45 ⟨(.r rfl), (.r rfl), (.r rfl), trivial⟩ (fun w2 hw => around_k G fs.v fs.p fs.c le pl cl mo pm cm w2 (RO.of_own hw 3 rfl) hfs.fld (hle.keep w2 hw) hl8 (hmo.keep w2 hw) hm8) fun fa hfa => ⟨[_,_,_,_,_,_,_], rfl, selJ (L1 := [_,_,_,_,_,_]) [1,2,3,4,5,6] rfl rfl rfl, HY.s<|HY.s<|HY.s<|HY.h rfl rfl fun X => HO.callx (xs := [_,_,_]) (vs := [_,_,_]) C45 ⟨(.r rfl), (.r rfl), (.r rfl), trivial⟩ (fun w2 hw => around_k G sd.v sd.p sd.c mo pm cm le pl cl w2 (RO.of_own hw 2 rfl) hsd.fld (hmo.keep w2 hw) hm8 (hle.keep w2 hw) hl8) fun fb hfb => ⟨[_,_,_,_,_,_,_,_], rfl, selJ (L1 := [_,_,_,_,_,_]) [2,3,4,5,6,7] rfl rfl rfl, HY.f rfl fun b17 => ⟨selJ (L1 := [_,_,_,_,_,_]) [3,4,5,6,7,8] rfl rfl rfl, HY.f rfl fun b18 => ⟨selJ (L1 := [_,_,_,_,_,_]) [4,5,6,7,8,9] rfl rfl rfl, HY.h0 rfl fun X => HO.st 1 (vs := [_,_,_,_,_,_]) (C' := [_,_,_,_,_,_]) (L' := [_,_,_,_,_,_,_,_,_,_] ++ X) N26 rfl rfl rfl rfl rfl rfl rfl rfl<|⟨[_,_,_,_,_,_,_,_,_,_], rfl, selJ (L1 := [_,_,_,_,_,_]) [4,5,6,7,8,9] rfl rfl rfl, HY.h0 rfl fun X => HO.st 0 (vs := [_,_,_,_,_,_]) (C' := [_,_,_,_,_,_]) (L' := [_,_,_,_,_,_,_,_,_,_] ++ X) N26 rfl rfl rfl rfl rfl rfl rfl rfl<|⟨[_,_,_,_,_,_,_,_,_,_], rfl, selJ (L1 := [_,_,_,_,_,_]) [4,5,6,7,8,9] rfl rfl rfl, HY.nil ?_⟩⟩⟩⟩⟩⟩)
  refine VE.seqN ?_
  refine VC.seq ?_
  refine VC.reg (VO.l (LO.mv (.r rfl)) rfl<|VO.l (LO.mv (.r rfl)) rfl<|VO.l (LO.neg (.r rfl) (wi (by omega) (by omega))) rfl<|VO.l (LO.mv (.r rfl)) rfl<|VO.l (LO.mv (.r rfl)) rfl<|VO.l (LO.neg (.r rfl) (wi (by omega) (by omega))) rfl<|VO.l (LO.max4 (.r rfl) (.r rfl) (.r rfl) (.r rfl)) rfl<|VO.l (LO.mv (.r rfl)) rfl<|VO.l (LO.cv ⟨_, Try.underlying5⟩ Try.underlying3 (.r rfl) (cv8 hwd)) rfl<|VO.l (LO.eqv (LO.rem (.r rfl) (.r rfl) (by omega)) (congrArg (Value.int .i64) (mod_i (m := 2)))) rfl<|VO.l (LO.eqv (LO.add (.r rfl) (.r rfl) (wi (by omega) (by omega))) (congrArg (Value.int .i64) hr)) rfl<|VO.l (LO.as (.r rfl)) rfl<|VO.nil ?_)
  refine VE.seqN ?_
  refine VC.seq ?_
  have hfaF : FldOk G fa.v := by rw [hfa]; exact ar_fld hfs
  have hfbF : FldOk G fb.v := by rw [hfb]; exact ar_fld hsd
  refine VC.reg (VO.l (LO.lda (vs := [_,_,_,_,_,_]) A26 (.r rfl) (fun _ hw => cells_at hw 1 rfl ⟨_, rfl⟩) rfl) rfl<|VO.l (LO.lda (vs := [_,_,_,_,_,_]) A26 (.r rfl) (fun _ hw => cells_at hw 0 rfl ⟨_, rfl⟩) rfl) rfl<|VO.l (LO.mv (.r rfl)) rfl<|VO.l (LO.mv (.r rfl)) rfl<|VO.h rfl<|HO.callx (xs := [_,_,_,_]) (vs := [_,_,_,_]) C27 ⟨(.r rfl), (.r rfl), (.r rfl), (.r rfl), trivial⟩ (fun w2 hw => Match_k G fa.v fa.p fa.c fb.v fb.p fb.c lv r w2 (RO.of_own hw 3 rfl) (RO.of_own hw 2 rfl) hfaF hfbF hlv1 hlv2 hr8) fun ev hev => VO.h rfl<|HO.lo (LO.mv (.r rfl))<|VO.h rfl<|HO.lo (LO.ex (.r rfl) rfl)<|VO.h rfl<|HO.lo (LO.ex (.r rfl) rfl)<|VO.h rfl<|HO.lo (LO.as (.r rfl))<|VO.h rfl<|HO.lo (LO.as (.r rfl))<|VO.nil ?_)
  refine VE.seqN ?_
  refine VC.seq ?_
  refine VC.reg (VO.l (LO.lda (vs := [_,_,_,_,_,_]) A26 (.r rfl) (fun _ hw => cells_at hw 4 rfl ⟨_, rfl⟩) rfl) rfl<|VO.l (LO.mv (.r rfl)) rfl<|VO.h rfl<|HO.callx (xs := [_,_]) (vs := [_,_]) C17 ⟨(.r rfl), (.r rfl), trivial⟩ (fun w2 hw => Areas_k G fa.v fa.p fa.c lv w2 (RO.of_own hw 6 rfl) hfaF hlv1 hlv2) fun ar har => VO.h rfl<|HO.lo (LO.mv (.r rfl))<|VO.h rfl<|HO.lo (LO.ex (.r rfl) rfl)<|VO.h rfl<|HO.lo (LO.ex (.r rfl) rfl)<|VO.h rfl<|HO.lo (LO.as (.r rfl))<|VO.h rfl<|HO.lo (LO.as (.r rfl))<|VO.nil ?_)
  refine VE.seqN ?_
  refine VC.seq ?_
  refine VC.reg (VO.l (LO.lda (vs := [_,_,_,_,_,_]) A26 (.r rfl) (fun _ hw => cells_at hw 11 rfl ⟨_, rfl⟩) rfl) rfl<|VO.l (LO.mv (.r rfl)) rfl<|VO.h rfl<|HO.callx (xs := [_,_]) (vs := [_,_]) C17 ⟨(.r rfl), (.r rfl), trivial⟩ (fun w2 hw => Areas_k G fb.v fb.p fb.c lv w2 (RO.of_own hw 13 rfl) hfbF hlv1 hlv2) fun br hbr => VO.h rfl<|HO.lo (LO.mv (.r rfl))<|VO.h rfl<|HO.lo (LO.ex (.r rfl) rfl)<|VO.h rfl<|HO.lo (LO.ex (.r rfl) rfl)<|VO.h rfl<|HO.lo (LO.as (.r rfl))<|VO.h rfl<|HO.lo (LO.as (.r rfl))<|VO.nil ?_)
  refine VE.seqN ?_
  refine VC.seq ?_
  refine VC.reg (VO.l (LO.lda (vs := [_,_,_,_,_,_]) A26 (.r rfl) (fun _ hw => cells_at hw 20 rfl ⟨_, rfl⟩) rfl) rfl<|VO.l (LO.mv (.r rfl)) rfl<|VO.h rfl<|HO.callx (xs := [_,_]) (vs := [_,_]) C36 ⟨(.r rfl), (.r rfl), trivial⟩ (fun w2 hw => owners_k G fa.v fa.p fa.c lv ar w2 hfaF har (ArRd.of_res (of := ofL (gW G) (gH G) (mayB fa.v lv)) (L := [_,_,_,_,_,_,_,_,_,_,_,_,_,_,_,_,_,_,_,_,_]) (selK [8,9,10,11,12,13,14,15,0,1,2,3,4,5,6,7,16,17,18,19,20,21,22,23,24,25,26,27,28] rfl rfl _ hw) har)) fun ow how => VO.h rfl<|HO.lo (LO.mv (.r rfl))<|VO.h rfl<|HO.lo (LO.ex (.r rfl) rfl)<|VO.h rfl<|HO.lo (LO.ex (.r rfl) rfl)<|VO.h rfl<|HO.lo (LO.as (.r rfl))<|VO.h rfl<|HO.lo (LO.as (.r rfl))<|VO.nil ?_)
  refine VE.seqN ?_
  refine VC.seq ?_
  refine VC.reg (VO.l (LO.lda (vs := [_,_,_,_,_,_]) A26 (.r rfl) (fun _ hw => cells_at hw 20 rfl ⟨_, rfl⟩) rfl) rfl<|VO.l (LO.mv (.r rfl)) rfl<|VO.h rfl<|HO.callx (xs := [_,_]) (vs := [_,_]) C36 ⟨(.r rfl), (.r rfl), trivial⟩ (fun w2 hw => owners_k G fb.v fb.p fb.c lv br w2 hfbF hbr (ArRd.of_res (of := ofL (gW G) (gH G) (mayB fb.v lv)) (L := [_,_,_,_,_,_,_,_,_,_,_,_,_,_,_,_,_,_,_,_,_,_]) (selK [1,2,3,4,5,6,7,8,0,9,10,11,12,13,14,15,16,17,18,19,20,21,22,23,24,25,26,27,28,29] rfl rfl _ hw) hbr)) fun ot_ hot_ => VO.h rfl<|HO.lo (LO.mv (.r rfl))<|VO.h rfl<|HO.lo (LO.ex (.r rfl) rfl)<|VO.h rfl<|HO.lo (LO.ex (.r rfl) rfl)<|VO.h rfl<|HO.lo (LO.as (.r rfl))<|VO.h rfl<|HO.lo (LO.as (.r rfl))<|VO.nil ?_)
  refine VE.seqN ?_
  refine VC.seq ?_
  refine VC.seq ?_
  refine VC.reg (VO.l (LO.mv (.r rfl)) rfl<|VO.l (LO.ne (.r rfl) (.r rfl)) rfl<|VO.l (LO.mv (.r rfl)) rfl<|VO.lg rfl rfl (GD.f _) (fun hg => LO.mv (.r rfl)) rfl<|VO.lg rfl rfl (GD.f _) (fun hg => LO.ne (.g hg rfl) (.r rfl)) rfl<|VO.l (LO.pkO (.r rfl) (.r rfl) rfl rfl) rfl<|VO.l (LO.mv (.r rfl)) rfl<|VO.lg rfl rfl (GD.f _) (fun hg => LO.mv (.r rfl)) rfl<|VO.lg rfl rfl (GD.f _) (fun hg => LO.ne (.g hg rfl) (.r rfl)) rfl<|VO.l (LO.pkO (.r rfl) (.r rfl) rfl rfl) rfl<|VO.l (LO.mv (.r rfl)) rfl<|VO.lg rfl rfl (GD.f _) (fun hg => LO.mv (.r rfl)) rfl<|VO.lg rfl rfl (GD.f _) (fun hg => LO.not (.g hg rfl)) rfl<|VO.l (LO.pkO (.r rfl) (.r rfl) rfl rfl) rfl<|VO.l (LO.mv (.r rfl)) rfl<|VO.lg rfl rfl (GD.f _) (fun hg => LO.mv (.r rfl)) rfl<|VO.lg rfl rfl (GD.f _) (fun hg => LO.not (.g hg rfl)) rfl<|VO.l (LO.pkO (.r rfl) (.r rfl) rfl rfl) rfl<|VO.nil ?_)
  refine VE.seqN ?_
  refine VC.cond rfl (fun h136 => ?_) (fun h136 => ?_)
  ·
    (exfalso; simp at h136)
  ·
    refine VC.skip (VE.seqN ?_)
    refine VC.seq ?_
    refine VC.seq ?_
    refine VC.rebase fun w1 hst1 => ?_
    have hfS : Cells w1 ⟨b4,0, none⟩ [.int .i64 G.x, .int .i64 G.y, .int .i64 G.size, .int .i64 G.wide, .int .i64 G.high, .slice fs.p fs.v.length fs.c] := cells_inv (hst1.inv 27 _ rfl)
    have hsS : Spans w1 fs.p fs.v := RO.of_own hst1 28 rfl
    have hfA : Cells w1 ⟨b17,0, none⟩ [.int .i64 G.x, .int .i64 G.y, .int .i64 G.size, .int .i64 G.wide, .int .i64 G.high, .slice fa.p fa.v.length fa.c] := cells_inv (hst1.inv 22 _ rfl)
    have hsA : Spans w1 fa.p fa.v := RO.of_own hst1 24 rfl
    have hfB : Cells w1 ⟨b18,0, none⟩ [.int .i64 G.x, .int .i64 G.y, .int .i64 G.size, .int .i64 G.wide, .int .i64 G.high, .slice fb.p fb.v.length fb.c] := cells_inv (hst1.inv 21 _ rfl)
    have hsB : Spans w1 fb.p fb.v := RO.of_own hst1 23 rfl
    have hol : RO 1 iC w1 ow.p ow.l := RO.of_own hst1 1 rfl
    have htl : RO 1 iC w1 ot_.p ot_.l := RO.of_own hst1 0 rfl
    have hei : EvI w1 ev.p ev.l := EvI.of_res (L := [_,_,_,_,_,_,_,_,_,_,_,_,_,_,_,_,_,_,_,_,_,_,_,_,_,_,_,_]) (selK [18,19,20,0,1,2,3,4,5,6,7,8,9,10,11,12,13,14,15,16,17,21,22,23,24,25,26,27,28,29,30] rfl rfl _ hst1)
    have hfsn := hfs.fld.n
    have hfsl := hfs.fld.le
    have hD := dr_all hfs hss hfa hfb hlv1 hev hrb
    have hgd := hev.good
    have hgr := hfs.fld.grid
    obtain ⟨hW, hH, hW1, hW2, hH1, hH2⟩ := gWi hgr
    have howl := how.len
    have hotl := hot_.len
    have hp1 : (partsL (gW G) (gH G) (mayB fa.v lv)).length ≤ gW G * gH G := parts_len
    have hp2 : (partsL (gW G) (gH G) (mayB fb.v lv)).length ≤ gW G * gH G := parts_len
    have hln := ev_lens hgd (by omega) (by omega)
    have hcn := ev_count hgd
    rw [List.length_map] at hcn
    refine VC.reg (VO.l (LO.fa (r := 5) F26_1 (.r rfl) rfl) rfl<|VO.l (LO.ld O24 (.r rfl) (cells_keep (sub_cells (off := 5) hfS ⟨_, rfl⟩))) rfl<|VO.l (LO.len S24 (.r rfl) rfl) rfl<|VO.l (LO.mv (.r rfl)) rfl<|VO.nil ?_)
    refine VE.seqN ?_
    refine VC.block ?_
    refine VC.loopK (α := Nat) 0 (fun gx => [(140, .int .i64 (gx : Nat))]) [(19,_), (20,_), (21,_), (24,_), (25,_), (26,_), (27,_), (33,_), (35,_), (138,_), (139,_)] (fun gx => []) (fun gx => gx ≤ fs.v.length) (fun gx => fs.v.length - gx) 0 (by exact Nat.zero_le _) (.cons rfl (.cons rfl (.cons rfl (.cons rfl (.cons rfl (.cons rfl (.cons rfl (.cons rfl (.cons rfl (.cons rfl (.cons rfl (.cons rfl .nil)))))))))))) (fun _ h => h) ?_
    rintro k hkk
    refine VC.seq ?_
    refine VC.reg (VO.l (LO.lt (.r rfl) (.r rfl)) rfl<|VO.nil ?_)
    refine VE.seqN ?_
    refine VC.seq ?_
    refine VC.cond rfl (fun h141 => ?_) (fun h141 => ?_)
    ·
      have hkd := divb hgr (p := k) (by omega)
      have hkr : k % gW G < gW G := Nat.mod_lt _ (by omega)
      refine VC.skip (VE.seqN ?_)
      refine VC.seq ?_
      refine VC.block ?_
      refine VC.seq ?_
      refine VC.reg (VO.l (LO.mv (.r rfl)) rfl<|VO.l (LO.ixs S24 N71 hsS.some (.r rfl) (.r rfl) rfl (by omega)) rfl<|VO.l (LO.lda (vs := [_,_]) A71 (.r rfl) (fun w hw => cells_part (off := 0) ((hsS.at (j := k) (by omega)) w hw) ⟨_, rfl⟩) rfl) rfl<|VO.h rfl<|HO.alloc (C := #[_,_]) Z71 rfl fun b42 => VO.l (LO.as (.r rfl)) rfl<|VO.h0<|HO.st 0 (vs := [_,_]) (C' := [_,_]) (L' := [_]) N71 rfl rfl rfl rfl rfl rfl rfl rfl<|VO.nil ?_)
      refine VE.seqN ?_
      refine VC.seq ?_
      refine VC.draw mixed (LL.l (LO.mv (.r rfl)) rfl<|LL.l (LO.fa (r := 0) F26_0 (.r rfl) rfl) rfl<|LL.l (LO.fa (r := 3) F23_3 (.r rfl) rfl) rfl<|LL.l (LO.ld O3 (.r rfl) (cells_keep (sub_cells (off := 3) hfA ⟨_, rfl⟩))) rfl<|LL.l (LO.eqv (LO.rem (.r rfl) (.r rfl) (by omega)) (congrArg (Value.int .i64) (mod_n hgr k))) rfl<|LL.l (LO.mv (.r rfl)) rfl<|LL.l (LO.add (.r rfl) (.r rfl) (wi (by omega) (by omega))) rfl<|LL.l (LO.mv (.r rfl)) rfl<|LL.l (LO.fa (r := 0) F26_0 (.r rfl) rfl) rfl<|LL.l (LO.fa (r := 3) F23_3 (.r rfl) rfl) rfl<|LL.l (LO.ld O3 (.r rfl) (cells_keep (sub_cells (off := 3) hfA ⟨_, rfl⟩))) rfl<|LL.l (LO.eqv (LO.quo (.r rfl) (.r rfl) (by omega) (wi (by rw [div_n hgr]; have := divb hgr (p := k) (by omega); omega) (by rw [div_n hgr]; have := divb hgr (p := k) (by omega); omega))) (congrArg (Value.int .i64) (div_n hgr k))) rfl<|LL.l (LO.mv (.r rfl)) rfl<|LL.l (LO.add (.r rfl) (.r rfl) (wi (by omega) (by omega))) rfl<|LL.l (LO.as (.r rfl)) rfl<|LL.l (LO.as (.r rfl)) rfl<|LL.nil) (by kernel_rfl) ?_
      refine VE.seqN ?_
      refine VC.seq ?_
      refine VC.seq ?_
      refine VC.reg (VO.l (LO.fa (r := 0) F71_0 (.r rfl) rfl) rfl<|VO.l (LO.ld O3 (.r rfl) (fun _ hw => cells_at hw 0 rfl ⟨_, rfl⟩)) rfl<|VO.l (LO.mv (.r rfl)) rfl<|VO.l (LO.lt (.r rfl) (.r rfl)) rfl<|VO.l (LO.mv (.r rfl)) rfl<|VO.lg rfl rfl (GD.f _) (fun hg => LO.mv (.r rfl)) rfl<|VO.lg rfl rfl (GD.f _) (fun hg => LO.lt (.g hg rfl) (.r rfl)) rfl<|VO.l (LO.pkO (.r rfl) (.r rfl) rfl rfl) rfl<|VO.l (LO.mv (.r rfl)) rfl<|VO.lg rfl rfl (GD.f _) (fun hg => LO.mv (.r rfl)) rfl<|VO.lg rfl rfl (GD.f _) (fun hg => LO.fa (r := 0) F26_0 (.r rfl) rfl) rfl<|VO.lg rfl rfl (GD.f _) (fun hg => LO.fa (r := 3) F23_3 (.g hg rfl) rfl) rfl<|VO.lg rfl rfl (GD.f _) (fun hg => LO.ld O3 (.g hg rfl) (cells_keep (sub_cells (off := 3) hfA ⟨_, rfl⟩))) rfl<|VO.lg rfl rfl (GD.f _) (fun hg => LO.ge (.g hg rfl) (.g hg rfl)) rfl<|VO.l (LO.pkO (.r rfl) (.r rfl) rfl rfl) rfl<|VO.l (LO.mv (.r rfl)) rfl<|VO.lg rfl rfl (GD.f _) (fun hg => LO.mv (.r rfl)) rfl<|VO.lg rfl rfl (GD.f _) (fun hg => LO.lt (.g hg rfl) (.r rfl)) rfl<|VO.l (LO.pkO (.r rfl) (.r rfl) rfl rfl) rfl<|VO.l (LO.mv (.r rfl)) rfl<|VO.lg rfl rfl (GD.f _) (fun hg => LO.mv (.r rfl)) rfl<|VO.lg rfl rfl (GD.f _) (fun hg => LO.fa (r := 0) F26_0 (.r rfl) rfl) rfl<|VO.lg rfl rfl (GD.f _) (fun hg => LO.fa (r := 4) F23_4 (.g hg rfl) rfl) rfl<|VO.lg rfl rfl (GD.f _) (fun hg => LO.ld O3 (.g hg rfl) (cells_keep (sub_cells (off := 4) hfA ⟨_, rfl⟩))) rfl<|VO.lg rfl rfl (GD.f _) (fun hg => LO.ge (.g hg rfl) (.g hg rfl)) rfl<|VO.l (LO.pkO (.r rfl) (.r rfl) rfl rfl) rfl<|VO.nil ?_)
      refine VE.seqN ?_
      refine VC.cond rfl (fun h184 => ?_) (fun h184 => ?_)
      ·
        refine VC.exit (VE.thenX (VE.inX (VE.seqN ?_)))
        refine VC.reg (VO.l (LO.add (.r rfl) (.r rfl) (wi (by omega) (by omega))) rfl<|VO.l (LO.mv (.r rfl)) rfl<|VO.nil ?_)
        refine VE.thenN fun a w ha hw => ⟨k + 1, (by omega), (by omega), ha.sub (.cons rfl (.cons rfl (.cons rfl (.cons rfl (.cons rfl (.cons rfl (.cons rfl (.cons rfl (.cons rfl (.cons rfl (.cons rfl (.cons rfl .nil)))))))))))), hw.sel [] rfl⟩
      ·
        refine VC.skip (VE.seqN ?_)
        refine VC.seq ?_
        obtain ⟨q, hq1, hq2, hq3⟩ := target hgr (x := ((k % gW G : Nat) : Int) + mx) (y := ((k / gW G : Nat) : Int) + my) (by omega)
        have hmvt : MvTo (gW G) (gH G) mx my k q := by rw [← hq3]; exact mv_to (by omega) (by omega)
        obtain ⟨i, j, em, hi1, hj1, hem, hif, hjt⟩ := hD.pair hmvt (by omega)
        have hok1 : ow.l[k]? = some (i : Int) := by rw [getD_m1 (n := k) (by omega), ow_eq how ow_ok hmvt.hp, hi1]
        have htq1 : ot_.l[q]? = some (j : Int) := by rw [getD_m1 (n := q) (by omega), ow_eq hot_ ow_ok hq2, hj1]
        have htg := tg_of hem hif hjt
        refine VC.reg (VO.l (LO.mv (.r rfl)) rfl<|VO.l (LO.fa (r := 0) F26_0 (.r rfl) rfl) rfl<|VO.l (LO.fa (r := 3) F23_3 (.r rfl) rfl) rfl<|VO.l (LO.ld O3 (.r rfl) (cells_keep (sub_cells (off := 3) hfA ⟨_, rfl⟩))) rfl<|VO.l (LO.mul (.r rfl) (.r rfl) (wi (by omega) (by omega))) rfl<|VO.l (LO.mv (.r rfl)) rfl<|VO.l (LO.add (.r rfl) (.r rfl) (wi (by omega) (by omega))) rfl<|VO.l (LO.as (.r rfl)) rfl<|VO.nil ?_)
        refine VE.seqN ?_
        refine VC.seq ?_
        refine VC.draw mixed (LL.l (LO.mv (.r rfl)) rfl<|LL.l (LO.mv (.r rfl)) rfl<|LL.l (LO.ixs S40 N3 hol.sm (.r rfl) (.r rfl) rfl (by omega)) rfl<|LL.l (LO.ld O3 (.r rfl) (fun w hw => cells_part (off := 0) ((fun w3 h3 => RO.cel (hol.keep w3 h3) hok1) w hw) ⟨_, rfl⟩)) rfl<|LL.l (LO.lt (.r rfl) (.r rfl)) rfl<|LL.l (LO.mv (.r rfl)) rfl<|LL.lg rfl rfl (GD.f _) (fun hg => LO.mv (.r rfl)) rfl<|LL.lg rfl rfl (GD.f _) (fun hg => LO.mv (.r rfl)) rfl<|LL.lg rfl rfl (GD.f _) (fun hg => LO.ixs S40 N3 htl.sm (.g hg rfl) (.g hg rfl) (j := q) hq1 (by omega)) rfl<|LL.lg rfl rfl (GD.f _) (fun hg => LO.ld O3 (.g hg rfl) (fun w hw => cells_part (off := 0) ((fun w3 h3 => RO.cel (htl.keep w3 h3) htq1) w hw) ⟨_, rfl⟩)) rfl<|LL.lg rfl rfl (GD.f _) (fun hg => LO.lt (.g hg rfl) (.r rfl)) rfl<|LL.l (LO.pkO (.r rfl) (.r rfl) rfl rfl) rfl<|LL.l (LO.mv (.r rfl)) rfl<|LL.lg rfl rfl (GD.f _) (fun hg => LO.mv (.r rfl)) rfl<|LL.lg rfl rfl (GD.f _) (fun hg => LO.mv (.r rfl)) rfl<|LL.lg rfl rfl (GD.f _) (fun hg => LO.mv (.r rfl)) rfl<|LL.lg rfl rfl (GD.f _) (fun hg => LO.ixs S40 N3 hol.sm (.g hg rfl) (.g hg rfl) rfl (by omega)) rfl<|LL.lg rfl rfl (GD.f _) (fun hg => LO.ld O3 (.g hg rfl) (fun w hw => cells_part (off := 0) ((fun w3 h3 => RO.cel (hol.keep w3 h3) hok1) w hw) ⟨_, rfl⟩)) rfl<|LL.lg rfl rfl (GD.f _) (fun hg => LO.mv (.r rfl)) rfl<|LL.lg rfl rfl (GD.f _) (fun hg => LO.mv (.r rfl)) rfl<|LL.lg rfl rfl (GD.f _) (fun hg => LO.ixs S40 N3 htl.sm (.g hg rfl) (.g hg rfl) (j := q) hq1 (by omega)) rfl<|LL.lg rfl rfl (GD.f _) (fun hg => LO.ld O3 (.g hg rfl) (fun w hw => cells_part (off := 0) ((fun w3 h3 => RO.cel (htl.keep w3 h3) htq1) w hw) ⟨_, rfl⟩)) rfl<|LL.lg rfl rfl (GD.f _) (fun hg => LO.call (xs := [_,_,_]) (vs := [_,_,_]) C46 ⟨(.g hg rfl), (.g hg rfl), (.g hg rfl), trivial⟩ (fun w2 hw => together_c ev.l ev.p ev.c i j w2 (hei.keep w2 hw) (by omega) hln)) rfl<|LL.lg rfl rfl (GD.f _) (fun hg => LO.not (.g hg rfl)) rfl<|LL.l (LO.pkO (.r rfl) (.r rfl) rfl rfl) rfl<|LL.nil) (by kernel_rfl) ?_
        refine VE.seqN ?_
        refine VC.cond rfl (fun h216 => ?_) (fun h216 => ?_)
        ·
          (exfalso; (rcases h216 with (z | z) | z; all_goals first | omega | exact z htg))
        ·
          refine VC.skip (VE.inN (VE.seqN ?_))
          refine VC.reg (VO.l (LO.add (.r rfl) (.r rfl) (wi (by omega) (by omega))) rfl<|VO.l (LO.mv (.r rfl)) rfl<|VO.nil ?_)
          refine VE.thenN fun a w ha hw => ⟨k + 1, (by omega), (by omega), ha.sub (.cons rfl (.cons rfl (.cons rfl (.cons rfl (.cons rfl (.cons rfl (.cons rfl (.cons rfl (.cons rfl (.cons rfl (.cons rfl (.cons rfl .nil)))))))))))), hw.sel [] rfl⟩
    ·
      refine VC.exit (VE.thenX (VE.thenX (VE.inX (VE.seqN ?_))))
      refine VC.seq ?_
      refine VC.seq ?_
      refine VC.reg (VO.l (LO.mv (.r rfl)) rfl<|VO.l (LO.len S46 (.r rfl) rfl) rfl<|VO.l (LO.mv (.r rfl)) rfl<|VO.nil ?_)
      refine VE.seqN ?_
      refine VC.block ?_
      refine VC.loopK (α := Nat) 0 (fun gx => [(220, .int .i64 (gx : Nat))]) [(19,_), (20,_), (21,_), (24,_), (25,_), (26,_), (218,_), (219,_)] (fun gx => []) (fun gx => gx ≤ ev.l.length) (fun gx => ev.l.length - gx) 0 (by exact Nat.zero_le _) (.cons rfl (.cons rfl (.cons rfl (.cons rfl (.cons rfl (.cons rfl (.cons rfl (.cons rfl (.cons rfl .nil))))))))) (fun _ h => h) ?_
      rintro ke hke
      refine VC.seq ?_
      refine VC.reg (VO.l (LO.lt (.r rfl) (.r rfl)) rfl<|VO.nil ?_)
      refine VE.seqN ?_
      refine VC.seq ?_
      refine VC.cond rfl (fun h221 => ?_) (fun h221 => ?_)
      ·
        obtain ⟨ee, hee⟩ := get_ex (l := ev.l) (n := ke) (by omega)
        refine VC.skip (VE.seqN ?_)
        refine VC.seq ?_
        refine VC.block ?_
        refine VC.seq ?_
        refine VC.reg (VO.l (LO.ixs S46 N81 hei.ev.sm (.r rfl) (.r rfl) rfl (by omega)) rfl<|VO.l (LO.lda (vs := [_,_,_]) A81 (.r rfl) (fun w hw => cells_part (off := 0) ((fun w3 h3 => RO.cel (hei.keep w3 h3).ev hee) w hw) ⟨_, rfl⟩) rfl) rfl<|VO.h rfl<|HO.alloc (C := #[_,_,_]) Z81 rfl fun b44 => VO.h0<|HO.st 0 (vs := [_,_,_]) (C' := [_,_,_]) (L' := [_]) N81 rfl rfl rfl rfl rfl rfl rfl rfl<|VO.nil ?_)
        refine VE.seqN ?_
        refine VC.seq ?_
        refine VC.seq ?_
        refine VC.reg (VO.l (LO.fa (r := 0) F81_0 (.r rfl) rfl) rfl<|VO.l (LO.ld O3 (.r rfl) (fun _ hw => cells_at hw 0 rfl ⟨_, rfl⟩)) rfl<|VO.l (LO.ne (.r rfl) (.r rfl)) rfl<|VO.nil ?_)
        refine VE.seqN ?_
        refine VC.cond rfl (fun h226 => ?_) (fun h226 => ?_)
        ·
          refine VC.exit (VE.thenX (VE.inX (VE.seqN ?_)))
          refine VC.reg (VO.l (LO.add (.r rfl) (.r rfl) (wi (by omega) (by omega))) rfl<|VO.l (LO.mv (.r rfl)) rfl<|VO.nil ?_)
          refine VE.thenN fun a w ha hw => ⟨ke + 1, (by omega), (by omega), ha.sub (.cons rfl (.cons rfl (.cons rfl (.cons rfl (.cons rfl (.cons rfl (.cons rfl (.cons rfl (.cons rfl .nil))))))))), hw.sel [] rfl⟩
        ·
          have hem : ee.m ∈ ev.l.map EvR.m := List.mem_map_of_mem (List.mem_of_getElem? hee)
          have hkd4 : ee.kd = 4 := Classical.not_not.1 h226
          have hk1 := (hgd.kd ee.m hem).1
          obtain ⟨hf1, ht1⟩ := kind_one (hk1.symm.trans hkd4)
          have hf1 : ee.f.length = 1 := hf1
          have ht1 : ee.t.length = 1 := ht1
          obtain ⟨i, hfi⟩ := one_nat hf1
          obtain ⟨j, htj⟩ := one_nat ht1
          have h0f : ee.f[0]? = some i := by rw [hfi]; rfl
          have h0t : ee.t[0]? = some j := by rw [htj]; rfl
          have hi2 := (hgd.fs ee.m hem).2 i (by show i ∈ ee.f; rw [hfi]; simp)
          have hj2 := (hgd.ts ee.m hem).2 j (by show j ∈ ee.t; rw [htj]; simp)
          refine VC.skip (VE.seqN ?_)
          refine VC.seq ?_
          refine VC.seq ?_
          refine VC.reg (VO.l (LO.fa (r := 1) F81_1 (.r rfl) rfl) rfl<|VO.l (LO.ld O40 (.r rfl) (fun _ hw => cells_at hw 0 rfl ⟨_, rfl⟩)) rfl<|VO.l (LO.len S40 (.r rfl) rfl) rfl<|VO.l (LO.ne (.r rfl) (.r rfl)) rfl<|VO.l (LO.mv (.r rfl)) rfl<|VO.lg rfl rfl (GD.f _) (fun hg => LO.fa (r := 2) F81_2 (.r rfl) rfl) rfl<|VO.lg rfl rfl (GD.f _) (fun hg => LO.ld O40 (.g hg rfl) (fun _ hw => cells_at hw 0 rfl ⟨_, rfl⟩)) rfl<|VO.lg rfl rfl (GD.f _) (fun hg => LO.len S40 (.g hg rfl) rfl) rfl<|VO.lg rfl rfl (GD.f _) (fun hg => LO.ne (.g hg rfl) (.r rfl)) rfl<|VO.l (LO.pkO (.r rfl) (.r rfl) rfl rfl) rfl<|VO.nil ?_)
          refine VE.seqN ?_
          refine VC.cond rfl (fun h236 => ?_) (fun h236 => ?_)
          ·
            (exfalso; omega)
          ·
            refine VC.skip (VE.seqN ?_)
            refine VC.seq ?_
            refine VC.drawF (G := MvL) (fun y => [(44, .slice y.p y.l.length y.c), (45, .int .i64 0)]) [(19,_), (20,_), (21,_), (24,_), (25,_), (26,_), (218,_), (219,_), (220,_)] (fun y => [own 85 2 y.p y.c (y.l.map Mv.cells)]) [_] (fun y => MvE G fa.v fb.v lv i j r y.l) 7 [some 0, some 0, some 0, some 0, some 0, some 0, some 0, some 0, some 0, some 0, some 0, some 0, none, none, none, none, none, none] mixed (by kernel_rfl) (LX.l (fun _ hJ => LO.lda (vs := [_,_,_,_,_,_]) A26 (.r rfl) (cells_keep (sub_cells (off := 0) hfA ⟨_, rfl⟩)) rfl) rfl<|LX.l (fun _ hJ => LO.lda (vs := [_,_,_,_,_,_]) A26 (.r rfl) (cells_keep (sub_cells (off := 0) hfB ⟨_, rfl⟩)) rfl) rfl<|LX.l (fun _ hJ => LO.mv (.r rfl)) rfl<|LX.l (fun _ hJ => LO.mv (.r rfl)) rfl<|LX.l (fun _ hJ => LO.fa (r := 1) F81_1 (.r rfl) rfl) rfl<|LX.l (fun _ hJ => LO.ld O40 (.r rfl) (fun _ hw => cells_at (hJ _ hw) 0 rfl ⟨_, rfl⟩)) rfl<|LX.l (fun _ hJ => LO.ixs S40 N3 (hei.f ee (List.mem_of_getElem? hee)).sm (.r rfl) (.r rfl) (j := 0) rfl (by omega)) rfl<|LX.l (fun _ hJ => LO.ld O3 (.r rfl) (fun w hw => cells_part (off := 0) ((fun w3 h3 => RO.cel ((hei.keep w3 h3).f ee (List.mem_of_getElem? hee)) h0f) w (hJ _ hw)) ⟨_, rfl⟩)) rfl<|LX.l (fun _ hJ => LO.fa (r := 2) F81_2 (.r rfl) rfl) rfl<|LX.l (fun _ hJ => LO.ld O40 (.r rfl) (fun _ hw => cells_at (hJ _ hw) 0 rfl ⟨_, rfl⟩)) rfl<|LX.l (fun _ hJ => LO.ixs S40 N3 (hei.t ee (List.mem_of_getElem? hee)).sm (.r rfl) (.r rfl) (j := 0) rfl (by omega)) rfl<|LX.l (fun _ hJ => LO.ld O3 (.r rfl) (fun w hw => cells_part (off := 0) ((fun w3 h3 => RO.cel ((hei.keep w3 h3).t ee (List.mem_of_getElem? hee)) h0t) w (hJ _ hw)) ⟨_, rfl⟩)) rfl<|LX.s<|LX.s<|LX.s<|LX.s<|LX.s<|LX.s<|LX.nil) (fun hf => (HE.mk [12] (by kernel_rfl) rfl ⟨(HEo.op rfl rfl<|HO.callx (xs := [_,_,_,_,_,_]) (vs := [_,_,_,_,_,_]) C30 ⟨(.r rfl), (.r rfl), (.r rfl), (.r rfl), (.r rfl), (.r rfl), trivial⟩ (fun w2 hw => Moves_k G fa.v fa.p fa.c fb.v fb.p fb.c lv r i j w2 (hsA.keep w2 hw) (hsB.keep w2 hw) hfaF hfbF hlv1 hlv2 hr8 hi2 hj2) fun mv hmv => ⟨selK (L1 := [_]) [1] rfl rfl, (HE.mk [13] (by kernel_rfl) rfl ⟨(HEo.op rfl rfl<|HO.lo (LO.mv (.r rfl))<|⟨selK (L1 := [_]) [1] rfl rfl, (HE.mk [14,15] (by kernel_rfl) rfl ⟨(HEo.op rfl rfl<|HO.lo (LO.ex (.r rfl) rfl)<|⟨selK (L1 := [_]) [1] rfl rfl, (HE.mk [15,16] (by kernel_rfl) rfl ⟨(HEo.op rfl rfl<|HO.lo (LO.ex (.r rfl) rfl)<|⟨selK (L1 := [_]) [1] rfl rfl, (HE.mk [16] (by kernel_rfl) rfl ⟨(HEo.op rfl rfl<|HO.lo (LO.as (.r rfl))<|⟨selK (L1 := [_]) [1] rfl rfl, (HE.mk [17] (by kernel_rfl) rfl ⟨(HEo.op rfl rfl<|HO.lo (LO.as (.r rfl))<|⟨selK (L1 := [_]) [1] rfl rfl, (HE.fin (by kernel_rfl) (VE.weak (.cons rfl (.cons rfl (.cons rfl (.cons rfl (.cons rfl (.cons rfl (.cons rfl (.cons rfl (.cons rfl (.cons rfl (.cons rfl .nil))))))))))) (selK (L1 := [_] ++ [_]) [0,1] rfl rfl) (hf mv hmv)))⟩), trivial⟩)⟩), trivial⟩)⟩), (HEo.op rfl rfl<|HO.lo (LO.as (.r rfl))<|⟨selK (L1 := [_]) [1] rfl rfl, (HE.mk [15] (by kernel_rfl) rfl ⟨(HEo.op rfl rfl<|HO.lo (LO.ex (.r rfl) rfl)<|⟨selK (L1 := [_]) [1] rfl rfl, (HE.mk [17] (by kernel_rfl) rfl ⟨(HEo.op rfl rfl<|HO.lo (LO.as (.r rfl))<|⟨selK (L1 := [_]) [1] rfl rfl, (HE.fin (by kernel_rfl) (VE.weak (.cons rfl (.cons rfl (.cons rfl (.cons rfl (.cons rfl (.cons rfl (.cons rfl (.cons rfl (.cons rfl (.cons rfl (.cons rfl .nil))))))))))) (selK (L1 := [_] ++ [_]) [0,1] rfl rfl) (hf mv hmv)))⟩), trivial⟩)⟩), trivial⟩)⟩), trivial⟩)⟩), (HEo.op rfl rfl<|HO.lo (LO.ex (.r rfl) rfl)<|⟨selK (L1 := [_]) [1] rfl rfl, (HE.mk [14] (by kernel_rfl) rfl ⟨(HEo.op rfl rfl<|HO.lo (LO.ex (.r rfl) rfl)<|⟨selK (L1 := [_]) [1] rfl rfl, (HE.mk [16] (by kernel_rfl) rfl ⟨(HEo.op rfl rfl<|HO.lo (LO.as (.r rfl))<|⟨selK (L1 := [_]) [1] rfl rfl, (HE.mk [17] (by kernel_rfl) rfl ⟨(HEo.op rfl rfl<|HO.lo (LO.as (.r rfl))<|⟨selK (L1 := [_]) [1] rfl rfl, (HE.fin (by kernel_rfl) (VE.weak (.cons rfl (.cons rfl (.cons rfl (.cons rfl (.cons rfl (.cons rfl (.cons rfl (.cons rfl (.cons rfl (.cons rfl (.cons rfl .nil))))))))))) (selK (L1 := [_] ++ [_]) [0,1] rfl rfl) (hf mv hmv)))⟩), trivial⟩)⟩), trivial⟩)⟩), trivial⟩)⟩), trivial⟩)⟩), trivial⟩)⟩), trivial⟩)) (fun y hy => ?_)

            obtain ⟨mv, hmv, rfl⟩ : ∃ mv : MvL, MvE G fa.v fb.v lv i j r mv.l ∧ mv = y := ⟨y, hy, rfl⟩
            have hmvl := hmv.len
            refine VE.seqN ?_
            refine VC.seq ?_
            refine VC.reg (VO.l (LO.as (.r rfl)) rfl<|VO.nil ?_)
            refine VE.seqN ?_
            refine VC.seq ?_
            refine VC.seq ?_
            refine VC.reg (VO.l (LO.mv (.r rfl)) rfl<|VO.l (LO.len S53 (.r rfl) rfl) rfl<|VO.l (LO.mv (.r rfl)) rfl<|VO.nil ?_)
            refine VE.seqN ?_
            refine VC.block ?_
            refine VC.loopK (α := Nat) 0 (fun gx => [(46, .bool (anyMv mv.l gx mx my)), (255, .int .i64 (gx : Nat))]) [(19,_), (20,_), (21,_), (24,_), (25,_), (26,_), (44,_), (45,_), (218,_), (219,_), (220,_), (253,_), (254,_)] (fun gx => []) (fun gx => gx ≤ mv.l.length) (fun gx => mv.l.length - gx) 0 (by exact Nat.zero_le _) (.cons rfl (.cons rfl (.cons rfl (.cons rfl (.cons rfl (.cons rfl (.cons rfl (.cons rfl (.cons rfl (.cons rfl (.cons rfl (.cons rfl (.cons rfl (.cons rfl (.cons rfl .nil))))))))))))))) (fun _ h => h) ?_
            rintro m hm
            refine VC.seq ?_
            refine VC.reg (VO.l (LO.lt (.r rfl) (.r rfl)) rfl<|VO.nil ?_)
            refine VE.seqN ?_
            refine VC.seq ?_
            refine VC.cond rfl (fun h256 => ?_) (fun h256 => ?_)
            ·
              obtain ⟨md, hmd⟩ := get_ex (l := mv.l) (n := m) (by omega)
              refine VC.skip (VE.seqN ?_)
              refine VC.seq ?_
              refine VC.block ?_
              refine VC.seq ?_
              refine VC.reg (VO.l (LO.ixo S53 N85 (fun _ hw => (own_rows hw 0 rfl).some (by rw [List.length_map])) (.r rfl) (.r rfl) rfl (by omega)) rfl<|VO.l (LO.lda (vs := [_,_]) A85 (.r rfl) (fun w hw => cells_part (off := 0) (own_cell hw 0 rfl hmd) ⟨_, rfl⟩) rfl) rfl<|VO.h rfl<|HO.alloc (C := #[_,_]) Z85 rfl fun b47 => VO.h0<|HO.st 0 (vs := [_,_]) (C' := [_,_]) (L' := [_,_,_]) N85 rfl rfl rfl rfl rfl rfl rfl rfl<|VO.nil ?_)
              refine VE.seqN ?_
              refine VC.reg (VO.l (LO.mv (.r rfl)) rfl<|VO.l (LO.mv (.r rfl)) rfl<|VO.lg rfl rfl (GD.f _) (fun hg => LO.lda (vs := [_,_]) A85 (.r rfl) (fun _ hw => cells_at hw 0 rfl ⟨_, rfl⟩) rfl) rfl<|VO.lg rfl rfl (GD.f _) (fun hg => LO.mv (.r rfl)) rfl<|VO.lg rfl rfl (GD.f _) (fun hg => LO.mv (.r rfl)) rfl<|VO.lg rfl rfl (GD.f _) (fun hg => LO.bd (ps := [(_,_), (_,_)]) (vs := [(_,_), (_,_)]) (C := [_,_]) B85  ⟨(.g hg rfl), (.g hg rfl), trivial⟩ rfl ⟨_, [_], [_,_], rfl, rfl, rfl, rfl, ⟨_, [_], [_,_], rfl, rfl, rfl, rfl, rfl⟩⟩) rfl<|VO.lg rfl rfl (GD.f _) (fun hg => LO.eqA («as» := [_,_]) (bs := [_,_]) EA85 (.g hg rfl) (.g hg rfl) rfl rfl) rfl<|VO.l (LO.pkO (.r rfl) (.r rfl) rfl rfl) rfl<|VO.l (LO.as (.r rfl)) rfl<|VO.nil ?_)
              refine VE.inN (VE.seqN ?_)
              refine VC.reg (VO.l (LO.add (.r rfl) (.r rfl) (wi (by omega) (by omega))) rfl<|VO.l (LO.mv (.r rfl)) rfl<|VO.nil ?_)
              refine VE.thenN fun a w ha hw => ⟨m + 1, (by omega), (by omega), ha.sub (.cons (congrArg (fun z => some (Value.bool z)) (any_succ hmd).symm) (.cons rfl (.cons rfl (.cons rfl (.cons rfl (.cons rfl (.cons rfl (.cons rfl (.cons rfl (.cons rfl (.cons rfl (.cons rfl (.cons rfl (.cons rfl (.cons rfl .nil))))))))))))))), hw.sel [1,2] rfl⟩
            ·
              have hme : m = mv.l.length := by omega
              subst hme
              have hmem : (⟨mx, my⟩ : Mv) ∈ mv.l := by rw [hmv.eq]; exact hD.mem hem hfi htj
              have hlx := lo_hi (f := Mv.x) hmem
              have hly := lo_hi (f := Mv.y) hmem
              have hml := hmv.len
              rw [any_all hmem]
              refine VC.exit (VE.thenX (VE.thenX (VE.inX (VE.seqN ?_))))
              refine VC.seq ?_
              refine VC.seq ?_
              refine VC.reg (VO.l (LO.mv (.r rfl)) rfl<|VO.l (LO.ne (.r rfl) (.r rfl)) rfl<|VO.l (LO.mv (.r rfl)) rfl<|VO.lg rfl rfl (GD.f _) (fun hg => LO.mv (.r rfl)) rfl<|VO.lg rfl rfl (GD.f _) (fun hg => LO.not (.g hg rfl)) rfl<|VO.l (LO.pkO (.r rfl) (.r rfl) rfl rfl) rfl<|VO.nil ?_)
              refine VE.seqN ?_
              refine VC.cond rfl (fun h273 => ?_) (fun h273 => ?_)
              ·
                (exfalso; simp at h273)
              ·
                refine VC.skip (VE.seqN ?_)
                refine VC.seq ?_
                refine VC.reg (VO.l (LO.mv (.r rfl)) rfl<|VO.l (LO.call (xs := [_]) (vs := [_]) C42 ⟨(.r rfl), trivial⟩ (fun w2 hw => Hull_c mv.l mv.p mv.c w2 (RO.of_own hw 0 rfl) (by omega))) rfl<|VO.l (LO.mv (.r rfl)) rfl<|VO.l (LO.ex (.r rfl) rfl) rfl<|VO.l (LO.ex (.r rfl) rfl) rfl<|VO.l (LO.ex (.r rfl) rfl) rfl<|VO.h rfl<|HO.alloc (C := #[_,_]) Z71 rfl fun b49 => VO.h rfl<|HO.alloc (C := #[_,_]) Z71 rfl fun b50 => VO.h0<|HO.st 1 (vs := [_,_]) (C' := [_,_]) (L' := [_,_,_,_]) N71 rfl rfl rfl rfl rfl rfl rfl rfl<|VO.h0<|HO.st 0 (vs := [_,_]) (C' := [_,_]) (L' := [_,_,_,_]) N71 rfl rfl rfl rfl rfl rfl rfl rfl<|VO.l (LO.as (.r rfl)) rfl<|VO.nil ?_)
                refine VE.seqN ?_
                refine VC.seq ?_
                refine VC.reg (VO.l (LO.mv (.r rfl)) rfl<|VO.l (LO.ne (.r rfl) (.r rfl)) rfl<|VO.l (LO.mv (.r rfl)) rfl<|VO.lg rfl rfl (GD.f _) (fun hg => LO.mv (.r rfl)) rfl<|VO.lg rfl rfl (GD.f _) (fun hg => LO.fa (r := 0) F71_0 (.r rfl) rfl) rfl<|VO.lg rfl rfl (GD.f _) (fun hg => LO.ld O3 (.g hg rfl) (fun _ hw => cells_at hw 1 rfl ⟨_, rfl⟩)) rfl<|VO.lg rfl rfl (GD.f _) (fun hg => LO.lt (.g hg rfl) (.g hg rfl)) rfl<|VO.l (LO.pkO (.r rfl) (.r rfl) rfl rfl) rfl<|VO.l (LO.mv (.r rfl)) rfl<|VO.lg rfl rfl (GD.f _) (fun hg => LO.mv (.r rfl)) rfl<|VO.lg rfl rfl (GD.f _) (fun hg => LO.fa (r := 1) F71_1 (.r rfl) rfl) rfl<|VO.lg rfl rfl (GD.f _) (fun hg => LO.ld O3 (.g hg rfl) (fun _ hw => cells_at hw 1 rfl ⟨_, rfl⟩)) rfl<|VO.lg rfl rfl (GD.f _) (fun hg => LO.gt (.g hg rfl) (.g hg rfl)) rfl<|VO.l (LO.pkO (.r rfl) (.r rfl) rfl rfl) rfl<|VO.l (LO.mv (.r rfl)) rfl<|VO.lg rfl rfl (GD.f _) (fun hg => LO.mv (.r rfl)) rfl<|VO.lg rfl rfl (GD.f _) (fun hg => LO.fa (r := 0) F71_0 (.r rfl) rfl) rfl<|VO.lg rfl rfl (GD.f _) (fun hg => LO.ld O3 (.g hg rfl) (fun _ hw => cells_at hw 0 rfl ⟨_, rfl⟩)) rfl<|VO.lg rfl rfl (GD.f _) (fun hg => LO.lt (.g hg rfl) (.g hg rfl)) rfl<|VO.l (LO.pkO (.r rfl) (.r rfl) rfl rfl) rfl<|VO.l (LO.mv (.r rfl)) rfl<|VO.lg rfl rfl (GD.f _) (fun hg => LO.mv (.r rfl)) rfl<|VO.lg rfl rfl (GD.f _) (fun hg => LO.fa (r := 1) F71_1 (.r rfl) rfl) rfl<|VO.lg rfl rfl (GD.f _) (fun hg => LO.ld O3 (.g hg rfl) (fun _ hw => cells_at hw 0 rfl ⟨_, rfl⟩)) rfl<|VO.lg rfl rfl (GD.f _) (fun hg => LO.gt (.g hg rfl) (.g hg rfl)) rfl<|VO.l (LO.pkO (.r rfl) (.r rfl) rfl rfl) rfl<|VO.nil ?_)
                refine VE.seqN ?_
                refine VC.cond rfl (fun h305 => ?_) (fun h305 => ?_)
                ·
                  (exfalso; (rw [hull_ok hmem] at h305; dsimp only at hlx hly; omega))
                ·
                  refine VC.skip (VE.inN (VE.seqN ?_))
                  refine VC.reg (VO.l (LO.add (.r rfl) (.r rfl) (wi (by omega) (by omega))) rfl<|VO.l (LO.mv (.r rfl)) rfl<|VO.nil ?_)
                  refine VE.thenN fun a w ha hw => ⟨ke + 1, (by omega), (by omega), ha.sub (.cons rfl (.cons rfl (.cons rfl (.cons rfl (.cons rfl (.cons rfl (.cons rfl (.cons rfl (.cons rfl .nil))))))))), hw.sel [] rfl⟩
      ·
        refine VC.exit (VE.thenX (VE.thenX (VE.inX (VE.seqN ?_))))
        refine VC.seq ?_
        refine VC.reg (VO.l (LO.call (xs := []) (vs := []) C16 trivial (fun w2 _ => works_c w2)) rfl<|VO.l (LO.as (.r rfl)) rfl<|VO.nil ?_)
        refine VE.seqN ?_
        refine VC.ret (VE.res (vs := [_]) rfl ⟨rfl, trivial⟩ (fun w hw => ?_))
        exact ⟨rfl, St.based hst1 hw⟩

end Go.Proofs.Ytgemekpofpoopaa

namespace Go.Proofs.Ytgemekpofpoopaa
open Go.SL Go.Proofs Go.Cast Go.Cell
set_option linter.unusedVariables false


theorem K5 : Try.prog.cellsOf 5 = 1 := by kernel_rfl
theorem kb_u8 {n : Int} (h : kb .u8 n) : 0 ≤ n ∧ n ≤ 255 := by simpa [kb, IntKind.min, IntKind.max, IntKind.signed, IntKind.bits] using h
section
variable {H : Type} {enc : TypeId × Value → H} {W : World}
theorem rd5 : RD enc Try.prog W 5 fun cs => ∃ n : Nat, cs = uC n ∧ n ≤ 255 := fun n cs x hx => by
  obtain ⟨m, rfl, hm⟩ := RD.int Try.underlying5 _ _ _ hx
  have := kb_u8 hm
  refine ⟨m.toNat, ?_, by omega⟩
  show _ = [Value.int .u8 ((m.toNat : Nat) : Int)]
  rw [Int.toNat_of_nonneg this.1]
theorem rd61 : RD enc Try.prog W 61 fun cs => ∃ (p : Option Addr) (cap : Nat) (l : List Nat), cs = [.slice p l.length cap] ∧ RO 1 uC W p l ∧ (∀ n, n ∈ l → n ≤ 255) ∧ l.length ≤ 9223372036854775807 := fun n cs x hx => by
  obtain ⟨p, cap, rows, rfl, h1, h2, h3⟩ := RD.slice Try.underlying61 K5 (by decide) rd5 _ _ _ hx
  obtain ⟨l, rfl, h5⟩ := rows_map (f := uC) (Q := fun n => n ≤ 255) (fun r hr => (h3 r hr).2)
  exact ⟨p, cap, l, by simp, h2, h5, by simpa using h1⟩
theorem rd63 : RD enc Try.prog W 63 fun cs => ∃ x : MapA, cs = x.cells ∧ MapI W x ∧ MapK x := fun n cs x hx => by
  obtain ⟨css, rfl, hlen,_, hp⟩ := trod_parts Try.underlying63 (zs := [1,1,1,1]) (by kernel_rfl) rfl (by kernel_rfl) hx
  match css, hlen with
  | [c0, c1, c2, c3],_ =>
    obtain ⟨_,_, h0⟩ := hp 0 _ c0 rfl rfl
    obtain ⟨_,_, h1⟩ := hp 1 _ c1 rfl rfl
    obtain ⟨_,_, h2⟩ := hp 2 _ c2 rfl rfl
    obtain ⟨_,_, h3⟩ := hp 3 _ c3 rfl rfl
    obtain ⟨a, rfl, ha⟩ := rd5 _ _ _ h0
    obtain ⟨b, rfl, hb⟩ := rd5 _ _ _ h1
    obtain ⟨p, c, l, rfl, h4, h5, h6⟩ := rd61 _ _ _ h2
    obtain ⟨q, d, m, rfl, h7, h8, h9⟩ := rd61 _ _ _ h3
    exact ⟨⟨a, b, p, c, l, q, d, m⟩, rfl, ⟨h4, h7⟩, ⟨ha, hb, h5, h8, h6, h9⟩⟩
end

end Go.Proofs.Ytgemekpofpoopaa

namespace Go.Proofs.Ytgemekpofpoopaa
open Go.SL Go.Proofs Go.Cast Go.Cell
set_option linter.unusedVariables false



theorem kb_i8 {n : Int} (h : kb .i8 n) : -128 ≤ n ∧ n ≤ 127 := by simpa [kb, IntKind.min, IntKind.max, IntKind.signed, IntKind.bits] using h
section
variable {H : Type} {enc : TypeId × Value → H} {W : World}
theorem rd92 : RD enc Try.prog W 92 fun cs => ∃ n, cs = [.int .i8 n] ∧ (-128 ≤ n ∧ n ≤ 127) := fun n cs x hx => by
  obtain ⟨m, rfl, hm⟩ := RD.int Try.underlying92 _ _ _ hx
  exact ⟨m, rfl, kb_i8 hm⟩
end

end Go.Proofs.Ytgemekpofpoopaa
