/-
  PulseArcIs is walked.
-/
import Derived.Test.YtcnlhifkablmkaaWJ
namespace Go.Proofs.Ytcnlhifkablmkaa
open Go.SL Go.Proofs Go.Pulse
set_option linter.unusedVariables false

theorem S59 : IsSlice Try.prog 59 60 := Try.underlying59
theorem N60 : (Try.prog.info? 60).map (·.size) = some 1 := by kernel_rfl
theorem O60 : IsOne Try.prog 60 := ⟨⟨_, Try.underlying60, rfl⟩, by kernel_rfl⟩
theorem C19 : IsFn Try.prog 19 := ⟨_, Try.func19, by decide, rfl⟩


theorem LO.neB {P : Program} {β : Bs} {env : Env} {L : List Res} {d : Option Nat} {ty : TypeId} {pos : String} {aft : Array Edge} {g : Option (Nat × Bool)} {x y : Operand} {xT yT : TypeId} {a b : Bool} (hT : P.underlying xT = some .bool) (hx : OV env x (.bool a)) (hy : OV env y (.bool b)) :
    LO P β env L ⟨d, .binOp .neq xT x y yT, ty, pos, aft, g⟩ (.bool (!decide (a = b))) :=
  .of_run fun ac w h hw => ⟨w, by
    have key : ∀ dd, (Op.equalIn (dd + 1) xT (.bool a) (.bool b)).run P w = .ok (a == b) w := fun dd => by simp [Op.equalIn, run_underlying hT]
    have e : (Op.equal xT (.bool a) (.bool b)).run P w = .ok (a == b) w := key 9999
    simp [execOp, h x (by simp [Op.operands]) _ hx, h y (by simp [Op.operands]) _ hy, eqGuard, binOp, e, Result.andThen_ok]
    cases a <;> cases b <;> rfl, hw⟩
theorem tmodW (x : Int) : -65535 ≤ x.tmod 65536 ∧ x.tmod 65536 ≤ 65535 := by
  have h1 : x.tmod 65536 < 65536 := Int.tmod_lt_of_pos x (by decide)
  have h2 : (-x).tmod 65536 < 65536 := Int.tmod_lt_of_pos (-x) (by decide)
  rw [Int.neg_tmod] at h2
  omega
theorem tmod_wr (x : Int) : (x.tmod 65536 + 65536).tmod 65536 = wr x := by
  have h := tmodW x
  rw [Int.tmod_eq_emod_of_nonneg (a := x.tmod 65536 + 65536) (by omega)]
  unfold wr
  rcases Int.le_total 0 x with q | q
  · rw [Int.tmod_eq_emod_of_nonneg q]; omega
  · have e : x.tmod 65536 = -((-x) % 65536) := by
      rw [← Int.tmod_eq_emod_of_nonneg (a := -x) (by omega), Int.neg_tmod, Int.neg_neg]
    rw [e]; omega
def u32C (x : Int) : List Value := [.int .u32 x]
def tmL (l : List Int) : List Int := l.map fun x => x.tmod 65536
theorem tmL_len (l : List Int) : (tmL l).length = l.length := List.length_map ..
theorem tmL_inT {l : List Int} (hb : ∀ x ∈ l, 0 ≤ x ∧ x ≤ 4294967295) : ∀ x ∈ tmL l, inT x := fun x hx => by
  unfold tmL at hx
  obtain ⟨y, hy, rfl⟩ := List.mem_map.1 hx
  have := hb y hy
  rw [Int.tmod_eq_emod_of_nonneg (by omega)]
  unfold inT; omega
theorem tmL_rev {l : List Int} {x : Int} : x ∈ tmL l.reverse ↔ x ∈ tmL l := by unfold tmL; simp
theorem tm_step {l : List Int} {i : Nat} (hi : i < l.length) : tmL (l.take (i + 1)) = tmL (l.take i) ++ [(l.getD i 0).tmod 65536] := by
  unfold tmL; rw [take_at (getD_some (d := 0) hi), List.map_append]; rfl
theorem tm_rstep {l : List Int} {i : Nat} (hi : i < l.length) : tmL (l.reverse.take (i + 1)) = tmL (l.reverse.take i) ++ [(l.getD (l.length - 1 - i) 0).tmod 65536] := by
  rw [tm_step (by simpa using hi)]
  congr 3
  rw [List.getD_eq_getElem?_getD, List.getD_eq_getElem?_getD, List.getElem?_reverse hi]
theorem tm_mem {l : List Int} {i : Nat} (hi : i < l.length) : (l.getD i 0).tmod 65536 ∈ tmL l := List.mem_map_of_mem (f := fun x : Int => x.tmod 65536) (getD_mem hi)
theorem mem_app {α : Type} {l : List α} {P : α → Prop} {y : α} (h : ∀ x ∈ l, P x) (hy : P y) : ∀ x ∈ l ++ [y], P x := fun x hx => by
  rcases List.mem_append.1 hx with q | q
  · exact h x q
  · rw [List.mem_singleton.1 q]; exact hy
theorem arcR_cong {m l : List Int} (h0 : l ≠ []) (hm : ∀ x, x ∈ m ↔ x ∈ l) : arcR m = arcR l := by
  obtain ⟨a1, a2, a3⟩ := arcR_is h0
  refine arcR_eq ⟨(hm _).2 a1, ?_, fun x hx => ?_⟩
  · rw [← arcR_mem hm]; exact a2
  · have := a3 x ((hm x).1 hx)
    rw [← arcR_mem hm]; exact this
theorem arcE_T {s : List Int} (h : ¬ (s.length : Int) = 0) (hT : ∀ x ∈ s, inT x) : arcE s = 0 := by
  unfold arcE; rw [if_neg (fun q => h (by rw [q]; rfl)), if_pos hT]
theorem ex_min (f : Int → Int) : ∀ {m : List Int}, m ≠ [] → ∃ x ∈ m, ∀ y ∈ m, f x ≤ f y
  | [], h => absurd rfl h
  | [x], _ => ⟨x, by simp, fun y hy => by rw [List.mem_singleton.1 hy]; exact Int.le_refl _⟩
  | x :: y :: m, _ => by
    obtain ⟨z, hz, h⟩ := ex_min f (m := y :: m) (by simp)
    rcases Int.le_total (f x) (f z) with q | q
    · refine ⟨x, by simp, fun u hu => ?_⟩
      rcases List.mem_cons.1 hu with rfl | hu
      · exact Int.le_refl _
      · exact Int.le_trans q (h u hu)
    · refine ⟨z, List.mem_cons_of_mem _ hz, fun u hu => ?_⟩
      rcases List.mem_cons.1 hu with rfl | hu
      · exact q
      · exact h u hu
theorem arcW_le {l : List Int} {d b : Int} (h0 : 0 ≤ b) (h : ∀ x ∈ l, wr (x - d) ≤ b) : arcW l d ≤ b := by
  rcases foldl_max_eq (l := l.map fun x => wr (x - d)) (a := 0) with q | q
  · unfold arcW; rw [q]; exact h0
  · obtain ⟨x, hx, e⟩ := List.mem_map.1 q
    unfold arcW; rw [← e]; exact h x hx
theorem arc_sub {s m : List Int} (hm : m ≠ []) (hT : ∀ x ∈ s, inT x) (hs : ∀ x ∈ m, x ∈ s) : (arcR m).2 ≤ (arcR s).2 := by
  have hs0 : s ≠ [] := fun q => by
    cases m with
    | nil => exact hm rfl
    | cons x m => have := hs x (by simp); rw [q] at this; cases this
  obtain ⟨a1, a2, a3⟩ := arcR_is hs0
  obtain ⟨b1, b2, b3⟩ := arcR_is hm
  obtain ⟨d, hd, hmin⟩ := ex_min (fun x => wr (x - (arcR s).1)) hm
  have h1 : arcW m d ≤ (arcR s).2 := by
    refine arcW_le (by rw [a2]; exact (arcW_bd _ _).1) fun x hx => ?_
    have h2 := hmin x hx
    have h3 := arcW_ge (d := (arcR s).1) (hs x hx)
    rw [← a2] at h3
    unfold wr at *
    omega
  have := b3 d hd
  omega
def anyS (l : List Int) (s : Int) (j : Nat) : Bool := (l.take j).any fun x => decide (x = s)
def allS (l : List Int) (j : Nat) : Bool := (l.take j).all fun x => decide (x = l.getD 0 0)
theorem anyS_step {l : List Int} {s : Int} {j : Nat} (hj : j < l.length) : (anyS l s j || decide (l.getD j 0 = s)) = anyS l s (j + 1) := by
  unfold anyS; rw [take_at (getD_some (d := 0) hj), List.any_append]; simp
theorem allS_step {l : List Int} {j : Nat} (hj : j < l.length) : (allS l j && decide (l.getD j 0 = l.getD 0 0)) = allS l (j + 1) := by
  unfold allS; rw [take_at (getD_some (d := 0) hj), List.all_append]; simp
theorem anyS_all {l : List Int} {s : Int} (h : s ∈ l) : anyS l s l.length = true := by
  unfold anyS; rw [List.take_length, List.any_eq_true]; exact ⟨s, h, by simp⟩
theorem allS_all {l : List Int} {s m : Int} (h0 : l ≠ []) (hT : ∀ x ∈ l, inT x) (hs : s ∈ l) (hm : m = arcW l s) : allS l l.length = decide (m = 0) := by
  have hl : 0 < l.length := by cases l with | nil => exact absurd rfl h0 | cons => simp
  have h00 : l.getD 0 0 ∈ l := getD_mem hl
  unfold allS
  rw [List.take_length, Bool.eq_iff_iff, List.all_eq_true, decide_eq_true_iff, hm]
  constructor
  · intro h
    have e : ∀ x ∈ l, x = l.getD 0 0 := fun x hx => by simpa using h x hx
    refine arcW_is (Int.le_refl 0) (fun x hx => ?_) (.inl rfl)
    rw [e x hx, e s hs, Int.sub_self]; decide
  · intro h x hx
    have key : ∀ y ∈ l, y = s := fun y hy => by
      have h1 := arcW_ge (d := s) hy
      have h2 := wr_bd (y - s)
      have h3 := hT y hy
      have h4 := hT s hs
      unfold inT at h3 h4
      rw [h] at h1
      unfold wr at *
      omega
    rw [key x hx, key _ h00]; simp

set_option maxRecDepth 20000 in
theorem lwrap_c (x : Int) (w : World) :
  Calls Try.prog 19 #[.int .i64 x] w fun e w' => e = .returned (.int .i64 (wr x)) ∧ St (bs w) [] w' := by
  have hm := tmodW x
  refine enter (vs := [_]) (env := [(0, _)]) Try.func19 rfl rfl rfl rfl ?_
  refine VC.seq ?_
  refine VC.reg (VO.l (LO.as (.r rfl)) rfl <| VO.nil ?_)
  refine VE.seqN ?_
  refine VC.seq ?_
  refine VC.reg (VO.l (LO.mv (.r rfl)) rfl <| VO.l (LO.rem (.r rfl) (.r rfl) (by decide)) rfl <| VO.l (LO.add (.r rfl) (.r rfl) (wi (by omega) (by omega))) rfl <| VO.l (LO.rem (.r rfl) (.r rfl) (by decide)) rfl <| VO.l (LO.as (.r rfl)) rfl <| VO.nil ?_)
  refine VE.seqN ?_
  refine VC.ret (VE.res (vs := [_]) rfl ⟨rfl, trivial⟩ (fun w hw => ?_))
  exact ⟨by simp only [resV]; rw [tmod_wr], hw.nil⟩

set_option maxRecDepth 20000 in
set_option maxHeartbeats 4000000 in
theorem PulseArcIs_c (l : List Int) (p : Option Addr) (c : Nat) (ld : Int) (w : World) (hl : RO 1 u32C w p l) (hb : ∀ x ∈ l, 0 ≤ x ∧ x ≤ 4294967295) (hd1 : 0 ≤ ld) (hd2 : ld ≤ 255) :
  Calls Try.prog 7 #[.slice p l.length c, .int .u8 ld] w fun e w' => e = .returned (.bool true) ∧ St (bs w) [] w' := by
  refine enter (vs := [_, _]) (env := [(0, _), (1, _)]) Try.func7 rfl rfl rfl rfl ?_
  refine VC.seq ?_
  refine VC.reg (VO.l (LO.as (.r rfl)) rfl <| VO.nil ?_)
  refine VE.seqN ?_
  refine VC.seq ?_
  refine VC.seq ?_
  refine VC.reg (VO.l (LO.mv (.r rfl)) rfl <| VO.l (LO.len S59 (.r rfl) rfl) rfl <| VO.l (LO.eq (.r rfl) (.r rfl)) rfl <| VO.l (LO.mv (.r rfl)) rfl <| VO.lg rfl rfl (GD.f _) (fun hg => LO.mv (.r rfl)) rfl <| VO.lg rfl rfl (GD.f _) (fun hg => LO.len S59 (.g hg rfl) rfl) rfl <| VO.lg rfl rfl (GD.f _) (fun hg => LO.gt (.g hg rfl) (.r rfl)) rfl <| VO.l (LO.pkO (.r rfl) (.r rfl) rfl rfl) rfl <| VO.nil ?_)
  refine VE.seqN ?_
  refine VC.cond rfl (fun h27 => ?_) (fun h27 => ?_)
  ·
    refine VC.seq ?_
    refine VC.reg (VO.l (LO.call (xs := []) (vs := []) C15 trivial (fun w _ => works_c w)) rfl <| VO.l (LO.as (.r rfl)) rfl <| VO.nil ?_)
    refine VE.seqN ?_
    refine VC.ret (VE.thenR (VE.res (vs := [_]) rfl ⟨rfl, trivial⟩ (fun w hw => ?_)))
    first | exact ⟨rfl, hw.nil⟩
  ·
    refine VC.skip (VE.seqN ?_)
    refine VC.seq ?_
    refine VC.reg (VO.l (LO.as (.r rfl)) rfl <| VO.l (LO.as (.r rfl)) rfl <| VO.l (LO.as (.r rfl)) rfl <| VO.nil ?_)
    refine VE.seqN ?_
    refine VC.seq ?_
    refine VC.seq ?_
    refine VC.reg (VO.l (LO.as (.r rfl)) rfl <| VO.nil ?_)
    refine VE.seqN ?_
    refine VC.block ?_
    refine VC.loopK (α := Nat × (List Int) × (Option Addr) × Nat × (List Int) × (Option Addr) × Nat × (List Int) × (Option Addr) × Nat) 0 (fun gx => [(5, .slice gx.2.2.1 gx.2.1.length gx.2.2.2.1), (6, .slice gx.2.2.2.2.2.1 gx.2.2.2.2.1.length gx.2.2.2.2.2.2.1), (7, .slice gx.2.2.2.2.2.2.2.2.1 gx.2.2.2.2.2.2.2.1.length gx.2.2.2.2.2.2.2.2.2), (8, .int .i64 (gx.1 : Nat))]) [(0, _), (1, _)] (fun gx => [own 3 1 gx.2.2.1 gx.2.2.2.1 (gx.2.1.map intC), own 3 1 gx.2.2.2.2.2.1 gx.2.2.2.2.2.2.1 (gx.2.2.2.2.1.map intC), own 3 1 gx.2.2.2.2.2.2.2.2.1 gx.2.2.2.2.2.2.2.2.2 (gx.2.2.2.2.2.2.2.1.map intC)]) (fun gx => gx.1 ≤ l.length ∧ gx.2.1 = tmL (l.take gx.1) ∧ gx.2.2.2.2.1 = tmL (l.reverse.take gx.1) ∧ gx.2.2.2.2.2.2.2.1.length ≤ gx.1 ∧ ∀ x ∈ gx.2.2.2.2.2.2.2.1, x ∈ tmL l) (fun gx => l.length - gx.1) (0, [], none, 0, [], none, 0, [], none, 0) (by exact ⟨Nat.zero_le _, rfl, rfl, Nat.le_refl _, fun x hx => by cases hx⟩) (.cons rfl (.cons rfl (.cons rfl (.cons rfl (.cons rfl (.cons rfl .nil)))))) (fun _ h => (((h.ownNil 3 1).ownNil 3 1).ownNil 3 1)) ?_
    rintro ⟨i, xs, px, cx, ys, py, cy, zs, pz, cz⟩ ⟨hi, hX, hY, hZ, hZ2⟩
    show VC _ _ _ _ _ ([(5, .slice px xs.length cx), (6, .slice py ys.length cy), (7, .slice pz zs.length cz), (8, .int .i64 (i : Nat))] ++ _) ([own 3 1 px cx (xs.map intC), own 3 1 py cy (ys.map intC), own 3 1 pz cz (zs.map intC)] ++ _) _ _
    dsimp only at hi hX hY hZ hZ2
    have hxl : xs.length = i := by rw [hX, tmL_len, List.length_take]; omega
    have hyl : ys.length = i := by rw [hY, tmL_len, List.length_take, List.length_reverse]; omega
    refine VC.seq ?_
    refine VC.seq ?_
    refine VC.reg (VO.l (LO.mv (.r rfl)) rfl <| VO.l (LO.mv (.r rfl)) rfl <| VO.l (LO.len S59 (.r rfl) rfl) rfl <| VO.l (LO.lt (.r rfl) (.r rfl)) rfl <| VO.nil ?_)
    refine VE.seqN ?_
    refine VC.cond rfl (fun h2 => ?_) (fun h2 => ?_)
    ·
      refine VC.skip (VE.seqN ?_)
      refine VC.seq ?_
      refine VC.block ?_
      refine VC.seq ?_
      have q1 := hb _ (getD_mem (d := 0) (show i < l.length by omega))
      have hcvi := i64_cv (x := l.getD i 0) (by omega) (by omega)
      have q2 := hb _ (getD_mem (d := 0) (show l.length - 1 - i < l.length by omega))
      have hcvr := i64_cv (x := l.getD (l.length - 1 - i) 0) (by omega) (by omega)
      have hcvl := i64_cv (x := ld) (by omega) (by omega)
      refine VC.reg (VO.l (LO.mv (.r rfl)) rfl <| VO.l (LO.mv (.r rfl)) rfl <| VO.l (LO.mv (.r rfl)) rfl <| VO.l (LO.ixs S59 N60 hl.sm (.r rfl) (.r rfl) rfl (by omega)) rfl <| VO.l (LO.ld O60 (.r rfl) (fun w hw => cells_part (off := 0) ((hl.at 0 (j := i) (by omega)) w hw) ⟨_, rfl⟩)) rfl <| VO.l (LO.cv ⟨_, Try.underlying60⟩ Try.underlying3 (.r rfl) hcvi) rfl <| VO.l (LO.rem (.r rfl) (.r rfl) (by decide)) rfl <| VO.h rfl <| HO.bs (ps := [(_, _)]) (vs := [(_, _)]) (Z := [_]) (C := [_]) S55 Z3 N3 ⟨(.r rfl), trivial⟩ rfl rfl rfl rfl ⟨_, [_], [_], rfl, rfl, rfl, rfl, rfl⟩ fun b4 => VO.h rfl <| HO.appT (((l.getD i 0).tmod 65536)) 1 0 (fun R => [_, R, _, _]) S55 S55 I3 (.r rfl) (.r rfl) rfl rfl rfl rfl rfl rfl rfl (fun _ => rfl) rfl (by omega) fun p8 c8 => VO.h rfl <| HO.lo (LO.as (.r rfl)) <| VO.nil ?_)
      refine VE.seqN ?_
      refine VC.seq ?_
      refine VC.reg (VO.l (LO.mv (.r rfl)) rfl <| VO.l (LO.mv (.r rfl)) rfl <| VO.l (LO.mv (.r rfl)) rfl <| VO.l (LO.len S59 (.r rfl) rfl) rfl <| VO.l (LO.sub (.r rfl) (.r rfl) (wi (by omega) (by omega))) rfl <| VO.l (LO.mv (.r rfl)) rfl <| VO.l (LO.sub (.r rfl) (.r rfl) (wi (by omega) (by omega))) rfl <| VO.l (LO.ixs S59 N60 hl.sm (.r rfl) (.r rfl) (by omega) (by omega)) rfl <| VO.l (LO.ld O60 (.r rfl) (fun w hw => cells_part (off := 0) ((hl.at 0 (j := (l.length - 1 - i)) (by omega)) w hw) ⟨_, rfl⟩)) rfl <| VO.l (LO.cv ⟨_, Try.underlying60⟩ Try.underlying3 (.r rfl) hcvr) rfl <| VO.l (LO.rem (.r rfl) (.r rfl) (by decide)) rfl <| VO.h rfl <| HO.bs (ps := [(_, _)]) (vs := [(_, _)]) (Z := [_]) (C := [_]) S55 Z3 N3 ⟨(.r rfl), trivial⟩ rfl rfl rfl rfl ⟨_, [_], [_], rfl, rfl, rfl, rfl, rfl⟩ fun b5 => VO.h rfl <| HO.appT (((l.getD (l.length - 1 - i) 0).tmod 65536)) 3 0 (fun R => [_, _, _, R, _]) S55 S55 I3 (.r rfl) (.r rfl) rfl rfl rfl rfl rfl rfl rfl (fun _ => rfl) rfl (by omega) fun p12 c12 => VO.h rfl <| HO.lo (LO.as (.r rfl)) <| VO.nil ?_)
      refine VE.seqN ?_
      refine VC.seq ?_
      refine VC.reg (VO.l (LO.mv (.r rfl)) rfl <| VO.l (LO.mv (.r rfl)) rfl <| VO.l (LO.cv ⟨_, Try.underlying5⟩ Try.underlying3 (.r rfl) hcvl) rfl <| VO.l (LO.mv (.r rfl)) rfl <| VO.l (LO.len S59 (.r rfl) rfl) rfl <| VO.l (LO.rem (.r rfl) (.r rfl) (by omega)) rfl <| VO.l (LO.ne (.r rfl) (.r rfl)) rfl <| VO.nil ?_)
      refine VE.seqN ?_
      refine VC.cond rfl (fun h63 => ?_) (fun h63 => ?_)
      ·
        refine VC.reg (VO.l (LO.mv (.r rfl)) rfl <| VO.l (LO.mv (.r rfl)) rfl <| VO.l (LO.mv (.r rfl)) rfl <| VO.l (LO.ixs S59 N60 hl.sm (.r rfl) (.r rfl) rfl (by omega)) rfl <| VO.l (LO.ld O60 (.r rfl) (fun w hw => cells_part (off := 0) ((hl.at 0 (j := i) (by omega)) w hw) ⟨_, rfl⟩)) rfl <| VO.l (LO.cv ⟨_, Try.underlying60⟩ Try.underlying3 (.r rfl) hcvi) rfl <| VO.l (LO.rem (.r rfl) (.r rfl) (by decide)) rfl <| VO.h rfl <| HO.bs (ps := [(_, _)]) (vs := [(_, _)]) (Z := [_]) (C := [_]) S55 Z3 N3 ⟨(.r rfl), trivial⟩ rfl rfl rfl rfl ⟨_, [_], [_], rfl, rfl, rfl, rfl, rfl⟩ fun b6 => VO.h rfl <| HO.appT (((l.getD i 0).tmod 65536)) 5 0 (fun R => [_, _, _, _, _, R]) S55 S55 I3 (.r rfl) (.r rfl) rfl rfl rfl rfl rfl rfl rfl (fun _ => rfl) rfl (by omega) fun p8 c8 => VO.h rfl <| HO.lo (LO.as (.r rfl)) <| VO.nil ?_)
        refine VE.inN (VE.seqN ?_)
        refine VC.reg (VO.l (LO.mv (.r rfl)) rfl <| VO.l (LO.add (.r rfl) (.r rfl) (wi (by omega) (by omega))) rfl <| VO.l (LO.as (.r rfl)) rfl <| VO.nil ?_)
        refine VE.thenN fun a w ha hw => ⟨(i + 1, xs ++ [((l.getD i 0).tmod 65536)], _, _, ys ++ [((l.getD (l.length - 1 - i) 0).tmod 65536)], _, _, zs ++ [((l.getD i 0).tmod 65536)], _, _), ⟨by dsimp only; omega, by dsimp only; rw [tm_step (by omega), hX], by dsimp only; rw [tm_rstep (by omega), hY], by dsimp only; first | (rw [List.length_append]; simp; omega) | omega, by dsimp only; first | exact hZ2 | exact mem_app hZ2 (tm_mem (by omega))⟩, (by dsimp only; omega), ha.sub (.cons rfl (.cons rfl (.cons rfl (.cons rfl (.cons rfl (.cons rfl .nil)))))), hw.sel [3, 4, 5] rfl⟩
      ·
        refine VC.skip (VE.inN (VE.seqN ?_))
        refine VC.reg (VO.l (LO.mv (.r rfl)) rfl <| VO.l (LO.add (.r rfl) (.r rfl) (wi (by omega) (by omega))) rfl <| VO.l (LO.as (.r rfl)) rfl <| VO.nil ?_)
        refine VE.thenN fun a w ha hw => ⟨(i + 1, xs ++ [((l.getD i 0).tmod 65536)], _, _, ys ++ [((l.getD (l.length - 1 - i) 0).tmod 65536)], _, _, zs, _, _), ⟨by dsimp only; omega, by dsimp only; rw [tm_step (by omega), hX], by dsimp only; rw [tm_rstep (by omega), hY], by dsimp only; first | (rw [List.length_append]; simp; omega) | omega, by dsimp only; first | exact hZ2 | exact mem_app hZ2 (tm_mem (by omega))⟩, (by dsimp only; omega), ha.sub (.cons rfl (.cons rfl (.cons rfl (.cons rfl (.cons rfl (.cons rfl .nil)))))), hw.sel [2, 3, 4] rfl⟩
    ·
      refine VC.exit (VE.thenX (VE.thenX (VE.inX (VE.seqN ?_))))
      refine VC.seq ?_
      have hi2 : i = l.length := by omega
      subst hi2
      rw [List.take_length] at hX
      rw [show l.reverse.take l.length = l.reverse from List.take_of_length_le (by simp)] at hY
      subst hX
      subst hY
      have hT := tmL_inT hb
      have hlen := tmL_len l
      have hrl : (tmL l.reverse).length = l.length := by rw [tmL_len, List.length_reverse]
      have hne : tmL l ≠ [] := fun q => by rw [q] at hlen; simp at hlen; omega
      have hXT := arcX_R (s := tmL l) (by omega) hT
      have eT := arcE_T (s := tmL l) (by omega) hT
      have hTR : ∀ x ∈ tmL l.reverse, inT x := fun x hx => hT x (tmL_rev.1 hx)
      have eR := arcE_T (s := tmL l.reverse) (by omega) hTR
      have hXR := arcX_R (s := tmL l.reverse) (by omega) hTR
      rw [arcR_cong hne (fun x => tmL_rev), ← hXT] at hXR
      have f1 : (arcX (tmL l.reverse)).1 = (arcX (tmL l)).1 := by rw [hXR]
      have f2 : (arcX (tmL l.reverse)).2 = (arcX (tmL l)).2 := by rw [hXR]
      obtain ⟨A1, A2, A3⟩ := arcR_is hne
      rw [← hXT] at A1 A2 A3
      have A4 := arcW_bd (tmL l) (arcX (tmL l)).1
      have A5 := hT _ A1
      unfold inT at A5
      have hpos : 0 < (tmL l).length := by omega
      have anyE := anyS_all A1
      have allE := allS_all hne hT A1 A2
      refine VC.reg (VO.l (LO.mv (.r rfl)) rfl <| VO.l (LO.call (xs := [_]) (vs := [_]) C23 ⟨(.r rfl), trivial⟩ (fun w hw => Arc_c (tmL l) _ _ w (by omega) (RO.of_own hw 0 rfl))) rfl <| VO.l (LO.mv (.r rfl)) rfl <| VO.l (LO.ex (.r rfl) rfl) rfl <| VO.l (LO.ex (.r rfl) rfl) rfl <| VO.l (LO.ex (.r rfl) rfl) rfl <| VO.l (LO.as (.r rfl)) rfl <| VO.l (LO.as (.r rfl)) rfl <| VO.l (LO.as (.r rfl)) rfl <| VO.nil ?_)
      refine VE.seqN ?_
      refine VC.seq ?_
      refine VC.reg (VO.l (LO.mv (.r rfl)) rfl <| VO.l (LO.call (xs := [_]) (vs := [_]) C23 ⟨(.r rfl), trivial⟩ (fun w hw => Arc_c (tmL l.reverse) _ _ w (by omega) (RO.of_own hw 1 rfl))) rfl <| VO.l (LO.mv (.r rfl)) rfl <| VO.l (LO.ex (.r rfl) rfl) rfl <| VO.l (LO.ex (.r rfl) rfl) rfl <| VO.l (LO.ex (.r rfl) rfl) rfl <| VO.l (LO.as (.r rfl)) rfl <| VO.l (LO.as (.r rfl)) rfl <| VO.l (LO.as (.r rfl)) rfl <| VO.nil ?_)
      refine VE.seqN ?_
      refine VC.seq ?_
      refine VC.seq ?_
      refine VC.reg (VO.l (LO.mv (.r rfl)) rfl <| VO.l (LO.ne (.r rfl) (.r rfl)) rfl <| VO.l (LO.mv (.r rfl)) rfl <| VO.lg rfl rfl (GD.f _) (fun hg => LO.mv (.r rfl)) rfl <| VO.lg rfl rfl (GD.f _) (fun hg => LO.ne (.g hg rfl) (.r rfl)) rfl <| VO.l (LO.pkO (.r rfl) (.r rfl) rfl rfl) rfl <| VO.l (LO.mv (.r rfl)) rfl <| VO.lg rfl rfl (GD.f _) (fun hg => LO.mv (.r rfl)) rfl <| VO.lg rfl rfl (GD.f _) (fun hg => LO.mv (.r rfl)) rfl <| VO.lg rfl rfl (GD.f _) (fun hg => LO.ne (.g hg rfl) (.g hg rfl)) rfl <| VO.l (LO.pkO (.r rfl) (.r rfl) rfl rfl) rfl <| VO.l (LO.mv (.r rfl)) rfl <| VO.lg rfl rfl (GD.f _) (fun hg => LO.mv (.r rfl)) rfl <| VO.lg rfl rfl (GD.f _) (fun hg => LO.mv (.r rfl)) rfl <| VO.lg rfl rfl (GD.f _) (fun hg => LO.ne (.g hg rfl) (.g hg rfl)) rfl <| VO.l (LO.pkO (.r rfl) (.r rfl) rfl rfl) rfl <| VO.l (LO.mv (.r rfl)) rfl <| VO.lg rfl rfl (GD.f _) (fun hg => LO.mv (.r rfl)) rfl <| VO.lg rfl rfl (GD.f _) (fun hg => LO.lt (.g hg rfl) (.r rfl)) rfl <| VO.l (LO.pkO (.r rfl) (.r rfl) rfl rfl) rfl <| VO.l (LO.mv (.r rfl)) rfl <| VO.lg rfl rfl (GD.f _) (fun hg => LO.mv (.r rfl)) rfl <| VO.lg rfl rfl (GD.f _) (fun hg => LO.ge (.g hg rfl) (.r rfl)) rfl <| VO.l (LO.pkO (.r rfl) (.r rfl) rfl rfl) rfl <| VO.nil ?_)
      refine VE.seqN ?_
      refine VC.cond rfl (fun h108 => ?_) (fun h108 => ?_)
      ·
        (exfalso; omega)
      ·
        refine VC.skip (VE.seqN ?_)
        refine VC.seq ?_
        refine VC.reg (VO.l (LO.as (.r rfl)) rfl <| VO.l (LO.as (.r rfl)) rfl <| VO.nil ?_)
        refine VE.seqN ?_
        refine VC.seq ?_
        refine VC.seq ?_
        refine VC.reg (VO.l (LO.as (.r rfl)) rfl <| VO.nil ?_)
        refine VE.seqN ?_
        refine VC.block ?_
        refine VC.loopK (α := Nat) 0 (fun gx => [(15, .bool (anyS (tmL l) (arcX (tmL l)).1 gx)), (16, .bool (allS (tmL l) gx)), (17, .int .i64 (gx : Nat))]) [(5, _), (7, _), (9, _), (10, _)] (fun gx => []) (fun gx => gx ≤ (tmL l).length) (fun gx => (tmL l).length - gx) 0 (by exact Nat.zero_le _) (.cons rfl (.cons rfl (.cons rfl (.cons rfl (.cons rfl (.cons rfl (.cons rfl .nil))))))) (fun _ h => h) ?_
        rintro j hj
        refine VC.seq ?_
        refine VC.seq ?_
        refine VC.reg (VO.l (LO.mv (.r rfl)) rfl <| VO.l (LO.mv (.r rfl)) rfl <| VO.l (LO.len S55 (.r rfl) rfl) rfl <| VO.l (LO.lt (.r rfl) (.r rfl)) rfl <| VO.nil ?_)
        refine VE.seqN ?_
        refine VC.cond rfl (fun h5 => ?_) (fun h5 => ?_)
        ·
          refine VC.skip (VE.seqN ?_)
          refine VC.seq ?_
          refine VC.block ?_
          refine VC.seq ?_
          have q3 := hT _ (getD_mem (d := 0) (show j < (tmL l).length by omega))
          unfold inT at q3
          have q4 := arcW_ge (d := (arcX (tmL l)).1) (getD_mem (l := tmL l) (d := 0) (show j < (tmL l).length by omega))
          have q5 := A3 _ (getD_mem (l := tmL l) (d := 0) (show j < (tmL l).length by omega))
          refine VC.reg (VO.l (LO.mv (.r rfl)) rfl <| VO.l (LO.mv (.r rfl)) rfl <| VO.lg rfl rfl (GD.f _) (fun hg => LO.mv (.r rfl)) rfl <| VO.lg rfl rfl (GD.f _) (fun hg => LO.mv (.r rfl)) rfl <| VO.lg rfl rfl (GD.f _) (fun hg => LO.ixo S55 N3 (fun _ hw => (own_rows hw 0 rfl).some (by simp)) (.g hg rfl) (.g hg rfl) rfl (by omega)) rfl <| VO.lg rfl rfl (GD.f _) (fun hg => LO.ld O3 (.g hg rfl) (fun w hw => cells_part (off := 0) (own_cell hw 0 rfl (getD_some (d := 0) (by first | omega | exact hpos))) ⟨_, rfl⟩)) rfl <| VO.lg rfl rfl (GD.f _) (fun hg => LO.mv (.r rfl)) rfl <| VO.lg rfl rfl (GD.f _) (fun hg => LO.eq (.g hg rfl) (.g hg rfl)) rfl <| VO.l (LO.pkO (.r rfl) (.r rfl) rfl rfl) rfl <| VO.l (LO.as (.r rfl)) rfl <| VO.nil ?_)
          refine VE.seqN ?_
          refine VC.seq ?_
          refine VC.draw mixed (LL.l (LO.mv (.r rfl)) rfl <| LL.l (LO.mv (.r rfl)) rfl <| LL.lg rfl rfl (GD.t _) (fun hg => LO.mv (.r rfl)) rfl <| LL.lg rfl rfl (GD.t _) (fun hg => LO.mv (.r rfl)) rfl <| LL.lg rfl rfl (GD.t _) (fun hg => LO.ixo S55 N3 (fun _ hw => (own_rows hw 0 rfl).some (by simp)) (.g hg rfl) (.g hg rfl) rfl (by omega)) rfl <| LL.lg rfl rfl (GD.t _) (fun hg => LO.ld O3 (.g hg rfl) (fun w hw => cells_part (off := 0) (own_cell hw 0 rfl (getD_some (d := 0) (by first | omega | exact hpos))) ⟨_, rfl⟩)) rfl <| LL.lg rfl rfl (GD.t _) (fun hg => LO.mv (.r rfl)) rfl <| LL.lg rfl rfl (GD.t _) (fun hg => LO.ixo S55 N3 (fun _ hw => (own_rows hw 0 rfl).some (by simp)) (.g hg rfl) (.r rfl) rfl hpos) rfl <| LL.lg rfl rfl (GD.t _) (fun hg => LO.ld O3 (.g hg rfl) (fun w hw => cells_part (off := 0) (own_cell hw 0 rfl (getD_some (d := 0) (by first | omega | exact hpos))) ⟨_, rfl⟩)) rfl <| LL.lg rfl rfl (GD.t _) (fun hg => LO.eq (.g hg rfl) (.g hg rfl)) rfl <| LL.l (LO.pkA (.r rfl) rfl rfl (.r rfl)) rfl <| LL.l (LO.as (.r rfl)) rfl <| LL.nil) (by kernel_rfl) ?_
          refine VE.seqN ?_
          refine VC.seq ?_
          refine VC.seq ?_
          refine VC.reg (VO.l (LO.mv (.r rfl)) rfl <| VO.l (LO.mv (.r rfl)) rfl <| VO.l (LO.ixo S55 N3 (fun _ hw => (own_rows hw 0 rfl).some (by simp)) (.r rfl) (.r rfl) rfl (by omega)) rfl <| VO.l (LO.ld O3 (.r rfl) (fun w hw => cells_part (off := 0) (own_cell hw 0 rfl (getD_some (d := 0) (by first | omega | exact hpos))) ⟨_, rfl⟩)) rfl <| VO.l (LO.mv (.r rfl)) rfl <| VO.l (LO.sub (.r rfl) (.r rfl) (wi (by omega) (by omega))) rfl <| VO.l (LO.call (xs := [_]) (vs := [_]) C19 ⟨(.r rfl), trivial⟩ (fun w _ => lwrap_c _ w)) rfl <| VO.l (LO.mv (.r rfl)) rfl <| VO.l (LO.gt (.r rfl) (.r rfl)) rfl <| VO.nil ?_)
          refine VE.seqN ?_
          refine VC.cond rfl (fun h143 => ?_) (fun h143 => ?_)
          ·
            (exfalso; omega)
          ·
            refine VC.skip (VE.seqN ?_)
            refine VC.seq ?_
            refine VC.reg (VO.l (LO.as (.r rfl)) rfl <| VO.nil ?_)
            refine VE.seqN ?_
            refine VC.seq ?_
            refine VC.seq ?_
            refine VC.reg (VO.l (LO.as (.r rfl)) rfl <| VO.nil ?_)
            refine VE.seqN ?_
            refine VC.block ?_
            refine VC.loopK (α := Nat) 0 (fun gx => [(18, .int .i64 (wmx (tmL l) ((tmL l).getD j 0) gx)), (19, .int .i64 (gx : Nat))]) [(5, _), (7, _), (9, _), (10, _), (15, _), (16, _), (17, _)] (fun gx => []) (fun gx => gx ≤ (tmL l).length) (fun gx => (tmL l).length - gx) 0 (by exact Nat.zero_le _) (.cons rfl (.cons rfl (.cons rfl (.cons rfl (.cons rfl (.cons rfl (.cons rfl (.cons rfl (.cons rfl .nil))))))))) (fun _ h => h) ?_
            rintro k hk
            refine VC.seq ?_
            refine VC.seq ?_
            refine VC.reg (VO.l (LO.mv (.r rfl)) rfl <| VO.l (LO.mv (.r rfl)) rfl <| VO.l (LO.len S55 (.r rfl) rfl) rfl <| VO.l (LO.lt (.r rfl) (.r rfl)) rfl <| VO.nil ?_)
            refine VE.seqN ?_
            refine VC.cond rfl (fun h7 => ?_) (fun h7 => ?_)
            ·
              refine VC.skip (VE.seqN ?_)
              refine VC.seq ?_
              refine VC.block ?_
              have q6 := hT _ (getD_mem (d := 0) (show k < (tmL l).length by omega))
              unfold inT at q6
              refine VC.draw mixed (LL.l (LO.mv (.r rfl)) rfl <| LL.l (LO.mv (.r rfl)) rfl <| LL.l (LO.mv (.r rfl)) rfl <| LL.l (LO.ixo S55 N3 (fun _ hw => (own_rows hw 0 rfl).some (by simp)) (.r rfl) (.r rfl) rfl (by omega)) rfl <| LL.l (LO.ld O3 (.r rfl) (fun w hw => cells_part (off := 0) (own_cell hw 0 rfl (getD_some (d := 0) (by first | omega | exact hpos))) ⟨_, rfl⟩)) rfl <| LL.l (LO.mv (.r rfl)) rfl <| LL.l (LO.mv (.r rfl)) rfl <| LL.l (LO.ixo S55 N3 (fun _ hw => (own_rows hw 0 rfl).some (by simp)) (.r rfl) (.r rfl) rfl (by omega)) rfl <| LL.l (LO.ld O3 (.r rfl) (fun w hw => cells_part (off := 0) (own_cell hw 0 rfl (getD_some (d := 0) (by first | omega | exact hpos))) ⟨_, rfl⟩)) rfl <| LL.l (LO.sub (.r rfl) (.r rfl) (wi (by omega) (by omega))) rfl <| LL.l (LO.call (xs := [_]) (vs := [_]) C19 ⟨(.r rfl), trivial⟩ (fun w _ => lwrap_c _ w)) rfl <| LL.l (LO.max (.r rfl) (.r rfl)) rfl <| LL.l (LO.as (.r rfl)) rfl <| LL.nil) (by kernel_rfl) ?_
              refine VE.inN (VE.seqN ?_)
              refine VC.reg (VO.l (LO.mv (.r rfl)) rfl <| VO.l (LO.add (.r rfl) (.r rfl) (wi (by omega) (by omega))) rfl <| VO.l (LO.as (.r rfl)) rfl <| VO.nil ?_)
              refine VE.thenN fun a w ha hw => ⟨k + 1, (by omega), (by omega), ha.sub (.cons (by exact wmx_s (by omega)) (.cons rfl (.cons rfl (.cons rfl (.cons rfl (.cons rfl (.cons rfl (.cons rfl (.cons rfl .nil))))))))), hw⟩
            ·
              refine VC.exit (VE.thenX (VE.thenX (VE.inX (VE.seqN ?_))))
              refine VC.seq ?_
              have hk2 : k = (tmL l).length := by omega
              subst hk2
              rw [wmx_all]
              refine VC.reg (VO.l (LO.mv (.r rfl)) rfl <| VO.l (LO.mv (.r rfl)) rfl <| VO.l (LO.lt (.r rfl) (.r rfl)) rfl <| VO.nil ?_)
              refine VE.seqN ?_
              refine VC.cond rfl (fun h164 => ?_) (fun h164 => ?_)
              ·
                (exfalso; omega)
              ·
                refine VC.skip (VE.inN (VE.seqN ?_))
                refine VC.reg (VO.l (LO.mv (.r rfl)) rfl <| VO.l (LO.add (.r rfl) (.r rfl) (wi (by omega) (by omega))) rfl <| VO.l (LO.as (.r rfl)) rfl <| VO.nil ?_)
                refine VE.thenN fun a w ha hw => ⟨j + 1, (by omega), (by omega), ha.sub (.cons (by exact congrArg (fun b => some (Value.bool b)) (anyS_step (by omega))) (.cons (by exact congrArg (fun b => some (Value.bool b)) (allS_step (by omega))) (.cons rfl (.cons rfl (.cons rfl (.cons rfl (.cons rfl .nil))))))), hw⟩
        ·
          refine VC.exit (VE.thenX (VE.thenX (VE.inX (VE.seqN ?_))))
          refine VC.seq ?_
          refine VC.seq ?_
          have hj2 : j = (tmL l).length := by omega
          subst hj2
          refine VC.reg (VO.l (LO.mv (.r rfl)) rfl <| VO.l (LO.not (.r rfl)) rfl <| VO.l (LO.mv (.r rfl)) rfl <| VO.lg rfl rfl (GD.f _) (fun hg => LO.mv (.r rfl)) rfl <| VO.lg rfl rfl (GD.f _) (fun hg => LO.mv (.r rfl)) rfl <| VO.lg rfl rfl (GD.f _) (fun hg => LO.eq (.g hg rfl) (.r rfl)) rfl <| VO.lg rfl rfl (GD.f _) (fun hg => LO.neB Try.underlying4 (.g hg rfl) (.g hg rfl)) rfl <| VO.l (LO.pkO (.r rfl) (.r rfl) rfl rfl) rfl <| VO.nil ?_)
          refine VE.seqN ?_
          refine VC.cond rfl (fun h172 => ?_) (fun h172 => ?_)
          ·
            (exfalso; (rw [anyE, allE] at h172; simp at h172))
          ·
            refine VC.skip (VE.seqN ?_)
            refine VC.seq ?_
            refine VC.seq ?_
            refine VC.reg (VO.l (LO.mv (.r rfl)) rfl <| VO.l (LO.len S55 (.r rfl) rfl) rfl <| VO.l (LO.gt (.r rfl) (.r rfl)) rfl <| VO.nil ?_)
            refine VE.seqN ?_
            refine VC.cond rfl (fun h175 => ?_) (fun h175 => ?_)
            ·
              have z1 := arc_sub (m := zs) (s := tmL l) (fun q => by rw [q] at h175; simp at h175) hT hZ2
              have z2 := arcX_R (s := zs) (by omega) (fun x hx => hT x (hZ2 x hx))
              have z3 := arcE_T (s := zs) (by omega) (fun x hx => hT x (hZ2 x hx))
              rw [← z2, ← hXT] at z1
              refine VC.seq ?_
              refine VC.reg (VO.l (LO.mv (.r rfl)) rfl <| VO.l (LO.call (xs := [_]) (vs := [_]) C23 ⟨(.r rfl), trivial⟩ (fun w hw => Arc_c zs _ _ w (by omega) (RO.of_own hw 2 rfl))) rfl <| VO.l (LO.mv (.r rfl)) rfl <| VO.l (LO.ex (.r rfl) rfl) rfl <| VO.l (LO.ex (.r rfl) rfl) rfl <| VO.l (LO.ex (.r rfl) rfl) rfl <| VO.l (LO.as (.r rfl)) rfl <| VO.l (LO.as (.r rfl)) rfl <| VO.nil ?_)
              refine VE.seqN ?_
              refine VC.seq ?_
              refine VC.reg (VO.l (LO.mv (.r rfl)) rfl <| VO.l (LO.ne (.r rfl) (.r rfl)) rfl <| VO.l (LO.mv (.r rfl)) rfl <| VO.lg rfl rfl (GD.f _) (fun hg => LO.mv (.r rfl)) rfl <| VO.lg rfl rfl (GD.f _) (fun hg => LO.mv (.r rfl)) rfl <| VO.lg rfl rfl (GD.f _) (fun hg => LO.gt (.g hg rfl) (.g hg rfl)) rfl <| VO.l (LO.pkO (.r rfl) (.r rfl) rfl rfl) rfl <| VO.nil ?_)
              refine VE.seqN ?_
              refine VC.cond rfl (fun h188 => ?_) (fun h188 => ?_)
              ·
                (exfalso; omega)
              ·
                refine VC.skip (VE.seqN ?_)
                refine VC.seq ?_
                refine VC.reg (VO.l (LO.call (xs := []) (vs := []) C15 trivial (fun w _ => works_c w)) rfl <| VO.l (LO.as (.r rfl)) rfl <| VO.nil ?_)
                refine VE.seqN ?_
                refine VC.ret (VE.res (vs := [_]) rfl ⟨rfl, trivial⟩ (fun w hw => ?_))
                first | exact ⟨rfl, hw.nil⟩
            ·
              refine VC.skip (VE.seqN ?_)
              refine VC.seq ?_
              refine VC.reg (VO.l (LO.call (xs := []) (vs := []) C15 trivial (fun w _ => works_c w)) rfl <| VO.l (LO.as (.r rfl)) rfl <| VO.nil ?_)
              refine VE.seqN ?_
              refine VC.ret (VE.res (vs := [_]) rfl ⟨rfl, trivial⟩ (fun w hw => ?_))
              first | exact ⟨rfl, hw.nil⟩

end Go.Proofs.Ytcnlhifkablmkaa
