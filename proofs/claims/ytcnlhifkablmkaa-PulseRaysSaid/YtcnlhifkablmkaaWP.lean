/-
  The echoes of a ray are walked.
-/
import Derived.Test.YtcnlhifkablmkaaWO
import Derived.Test.YtcnlhifkablmkaaSZ
namespace Go.Proofs.Ytcnlhifkablmkaa
open Go.SL Go.Proofs Go.Pulse
set_option linter.unusedVariables false

theorem S48 : IsSlice Try.prog 48 28 := Try.underlying48
theorem N28 : (Try.prog.info? 28).map (·.size) = some 1 := by kernel_rfl
theorem S50 : IsSlice Try.prog 50 32 := Try.underlying50
theorem I32 : EInfo Try.prog 32 14 112 (.agg #[.int .i64 0, .int .i64 0, .int .i64 0, .int .i64 0, .int .i64 0, .int .i64 0, .int .i64 0, .int .i64 0, .int .i64 0, .int .i64 0, .int .i64 0, .int .i64 0, .int .i64 0, .int .i64 0]) := ⟨by kernel_rfl, by kernel_rfl, by unfold ZeroOf; kernel_rfl, rfl, by decide⟩
theorem S49 : IsSlice Try.prog 49 39 := Try.underlying49
theorem N39 : (Try.prog.info? 39).map (·.size) = some 1 := by kernel_rfl
theorem O39 : IsOne Try.prog 39 := ⟨⟨_, Try.underlying39, rfl⟩, by kernel_rfl⟩


abbrev SRow := RowA Sample
abbrev SRows (w : World) (p : Option Addr) (rs : List SRow) : Prop := RR 4 smpC w p rs
def zR : SRow := RowA.z
def lss (rs : List SRow) : List (List Sample) := rs.map (·.l)
def rayE (t : Train) (r : Recv) (ls : List (List Sample)) : Int := if trainE t ≠ 0 then trainE t else if recvE r ≠ 0 then recvE r else if 200 < ls.length then 11 else firstE (fun i => hearE t r (ls.getD i [])) ls.length
def rayX (t : Train) (r : Recv) (ls : List (List Sample)) : List Echo := if rayE t r ls = 0 then ls.map (hearR t r) else []
section
variable {t : Train} {r : Recv} {rs : List SRow}
theorem lss_len : (lss rs).length = rs.length := List.length_map ..
theorem lss_get (i : Nat) : (lss rs).getD i [] = (rs.getD i zR).l := by
  unfold lss
  rw [List.getD_eq_getElem?_getD, List.getD_eq_getElem?_getD, List.getElem?_map]
  cases rs[i]? <;> rfl
theorem rayE1 (h : ¬ trainE t = 0) : rayE t r (lss rs) = trainE t := if_pos h
theorem rayE2 (h : ¬ ¬ trainE t = 0) (k : ¬ recvE r = 0) : rayE t r (lss rs) = recvE r := by unfold rayE; rw [if_neg h, if_pos k]
theorem rayE3 (h : ¬ ¬ trainE t = 0) (k : ¬ ¬ recvE r = 0) (q : 200 < (rs.length : Int)) : rayE t r (lss rs) = 11 := by unfold rayE; rw [if_neg h, if_neg k, if_pos (by rw [lss_len]; omega)]
theorem rayE4 {i : Nat} (h : ¬ ¬ trainE t = 0) (k : ¬ ¬ recvE r = 0) (q : ¬ 200 < (rs.length : Int)) (hz : ∀ k, k < i → hearE t r (rs.getD k zR).l = 0) (hi : i < rs.length) (he : ¬ hearE t r (rs.getD i zR).l = 0) : rayE t r (lss rs) = hearE t r (rs.getD i zR).l := by
  unfold rayE; rw [if_neg h, if_neg k, if_neg (by rw [lss_len]; omega), ← lss_get i]
  exact firstE_at (f := fun i => hearE t r ((lss rs).getD i [])) (fun k hk => by rw [lss_get]; exact hz k hk) (by rw [lss_get]; exact he) (by rw [lss_len]; exact hi)
theorem rayE5 (h : ¬ ¬ trainE t = 0) (k : ¬ ¬ recvE r = 0) (q : ¬ 200 < (rs.length : Int)) (hz : ∀ k, k < rs.length → hearE t r (rs.getD k zR).l = 0) : rayE t r (lss rs) = 0 := by
  unfold rayE; rw [if_neg h, if_neg k, if_neg (by rw [lss_len]; omega)]
  exact firstE_zero fun k hk => by rw [lss_get]; exact hz k (by rwa [lss_len] at hk)
theorem rayX0 {n : Int} (h : rayE t r (lss rs) = n) (hn : ¬ n = 0) {w' : World} {β : Bs} {L : List Res} (hw : St β L w') : ∃ x : Option Addr × Nat, True ∧ Ending.returned (.tuple #[.slice none 0 0, .int .i64 n]) = .returned (.tuple #[.slice x.1 (rayX t r (lss rs)).length x.2, .int .i64 (rayE t r (lss rs))]) ∧ St β [own 32 14 x.1 x.2 ((rayX t r (lss rs)).map echoC)] w' := by
  have e : rayX t r (lss rs) = [] := if_neg (by rw [h]; exact hn)
  rw [e, h]
  exact ⟨(none, 0), trivial, rfl, hw.nil.ownNil 32 14⟩
theorem rayX1 (h : rayE t r (lss rs) = 0) {p : Option Addr} {c : Nat} {xs : List Echo} (hx : xs = (rs.take rs.length).map fun x => hearR t r x.l) {w' : World} {β : Bs} (hw : St β [own 32 14 p c (xs.map echoC)] w') : ∃ x : Option Addr × Nat, True ∧ Ending.returned (.tuple #[.slice p xs.length c, .int .i64 0]) = .returned (.tuple #[.slice x.1 (rayX t r (lss rs)).length x.2, .int .i64 (rayE t r (lss rs))]) ∧ St β [own 32 14 x.1 x.2 ((rayX t r (lss rs)).map echoC)] w' := by
  have e : rayX t r (lss rs) = xs := by
    unfold rayX
    rw [if_pos h, hx, List.take_length]
    unfold lss
    rw [List.map_map]; rfl
  rw [e, h]
  exact ⟨(p, c), trivial, rfl, hw⟩
theorem ray_step {i : Nat} (hi : i < rs.length) : (rs.take (i + 1)).map (fun x => hearR t r x.l) = (rs.take i).map (fun x => hearR t r x.l) ++ [hearR t r (rs.getD i zR).l] := by
  rw [take_at (getD_some (d := zR) hi), List.map_append]; rfl
theorem zero_step {i : Nat} (hz : ∀ k, k < i → hearE t r (rs.getD k zR).l = 0) (he : ¬ ¬ hearE t r (rs.getD i zR).l = 0) : ∀ k, k < i + 1 → hearE t r (rs.getD k zR).l = 0 := fun k hk => by
  by_cases q : k = i
  · subst q; exact Classical.not_not.1 he
  · exact hz k (by omega)
theorem row_at {w : World} {p : Option Addr} (h : SRows w p rs) {i : Nat} (hi : i < rs.length) : (rs.getD i zR).l.length ≤ (rs.getD i zR).c ∧ Smps w (rs.getD i zR).p (rs.getD i zR).l := h.2 _ (getD_mem (d := zR) hi)
end

theorem bothT {t : Train} {r : Recv} (h : ¬ ¬ (if trainE t ≠ 0 then trainE t else recvE r) = 0) : ¬ ¬ trainE t = 0 := fun q => h (by rw [if_pos q]; exact q)
theorem bothR {t : Train} {r : Recv} (h : ¬ ¬ (if trainE t ≠ 0 then trainE t else recvE r) = 0) : ¬ ¬ recvE r = 0 := fun q => h (by rw [if_neg (fun k => bothT h k)]; exact q)
theorem rayXb {t : Train} {r : Recv} {rs : List SRow} (h : ¬ (if trainE t ≠ 0 then trainE t else recvE r) = 0) {w' : World} {β : Bs} {L : List Res} (hw : St β L w') : ∃ x : Option Addr × Nat, True ∧ Ending.returned (.tuple #[.slice none 0 0, .int .i64 (if trainE t ≠ 0 then trainE t else recvE r)]) = .returned (.tuple #[.slice x.1 (rayX t r (lss rs)).length x.2, .int .i64 (rayE t r (lss rs))]) ∧ St β [own 32 14 x.1 x.2 ((rayX t r (lss rs)).map echoC)] w' := by
  refine rayX0 (n := if trainE t ≠ 0 then trainE t else recvE r) ?_ h hw
  by_cases q : trainE t = 0
  · rw [if_neg (fun k => k q)] at h ⊢
    exact rayE2 (fun k => k q) h
  · rw [if_pos q] at h ⊢
    exact rayE1 q

theorem rayX_len {t : Train} {r : Recv} {rs : List SRow} : (rayX t r (lss rs)).length ≤ rs.length := by
  unfold rayX
  split
  · rw [List.length_map, lss_len]; exact Nat.le_refl _
  · exact Nat.zero_le _
theorem lss_app {xs ys : List SRow} : lss (xs ++ ys) = lss xs ++ lss ys := List.map_append ..
theorem row_step {rs : List SRow} {i : Nat} (hz : ∀ k, k < i → (rs.getD k zR).l.length ≤ 70) (he : (rs.getD i zR).l.length ≤ 70) : ∀ k, k < i + 1 → (rs.getD k zR).l.length ≤ 70 := fun k hk => by
  by_cases q : k = i
  · subst q; exact he
  · exact hz k (by omega)
theorem all_row {rs : List SRow} (hz : ∀ k, k < rs.length → (rs.getD k zR).l.length ≤ 70) : ∀ x ∈ rs, x.l.length ≤ 70 := fun x hx => by
  obtain ⟨k, hk, rfl⟩ := mem_getD (d := zR) hx
  exact hz k hk
theorem all_row2 {rs xs : List SRow} (h : ∀ x ∈ rs, x.l.length ≤ 70) (e : lss xs = lss rs) : ∀ x ∈ xs, x.l.length ≤ 70 := fun x hx => by
  have h1 : x.l ∈ lss xs := List.mem_map_of_mem (f := fun x : SRow => x.l) hx
  rw [e] at h1
  obtain ⟨y, hy, e2⟩ := List.mem_map.1 h1
  rw [← e2]; exact h y hy

set_option maxRecDepth 20000 in
theorem Ray_c (t : Train) (r : Recv) (rs : List SRow) (p : Option Addr) (c : Nat) (w : World) (hn : rs.length < 1000000000) (hb : ∀ x ∈ rs, x.l.length < 1000000000) (hl : SRows w p rs) :
  Calls Try.prog 21 #[trainV t, recvV r, .slice p rs.length c] w fun e w' => ∃ x : Option Addr × Nat, True ∧ e = .returned (.tuple #[.slice x.1 (rayX t r (lss rs)).length x.2, .int .i64 (rayE t r (lss rs))]) ∧ St (bs w) [own 32 14 x.1 x.2 ((rayX t r (lss rs)).map echoC)] w' := by
  refine enter (vs := [_, _, _]) (env := [(0, _), (1, _), (2, _)]) Try.func21 rfl rfl rfl rfl ?_
  refine VC.seq ?_
  refine VC.reg (VO.h rfl <| HO.box (C := #[_, _, _, _, _]) rfl rfl fun b1 => VO.h rfl <| HO.box (C := #[_, _, _, _]) rfl rfl fun b2 => VO.l (LO.as (.r rfl)) rfl <| VO.l (LO.as (.r rfl)) rfl <| VO.nil ?_)
  refine VE.seqN ?_
  refine VC.seq ?_
  refine VC.seq ?_
  refine VC.reg (VO.l (LO.lda (vs := [_, _, _, _, _]) A23 (.r rfl) (fun _ hw => cells_at hw 1 rfl ⟨_, rfl⟩) rfl) rfl <| VO.l (LO.call (xs := [_]) (vs := [_]) C25 ⟨(.r rfl), trivial⟩ (fun w _ => trainP_c t w)) rfl <| VO.l (LO.as (.r rfl)) rfl <| VO.nil ?_)
  refine VE.seqN ?_
  refine VC.seq ?_
  refine VC.reg (VO.l (LO.mv (.r rfl)) rfl <| VO.l (LO.ne (.r rfl) (.r rfl)) rfl <| VO.nil ?_)
  refine VE.seqN ?_
  refine VC.cond rfl (fun h18 => ?_) (fun h18 => ?_)
  ·
    refine VC.seq ?_
    refine VC.reg (VO.l (LO.mv (.r rfl)) rfl <| VO.l (LO.as (.r rfl)) rfl <| VO.l (LO.as (.r rfl)) rfl <| VO.nil ?_)
    refine VE.seqN ?_
    refine VC.ret (VE.thenR (VE.res (vs := [_, _]) rfl ⟨rfl, rfl, trivial⟩ (fun w hw => ?_)))
    simp only [resV]
    first | exact rayX0 (rayE1 h18) h18 hw | exact rayX0 (rayE2 h18 h23) h23 hw | exact rayX0 (rayE3 h18 h23 h27) (by decide) hw | exact rayX0 (rayE4 h18 h23 h27 hz (by omega) hE) hE hw | exact rayX1 (rayE5 h18 h23 h27 (fun k hk => hz k (by omega))) (by rw [hX]; congr 2; omega) (hw.sel [0] rfl)
  ·
    refine VC.skip (VE.seqN ?_)
    refine VC.seq ?_
    refine VC.seq ?_
    refine VC.reg (VO.l (LO.lda (vs := [_, _, _, _]) A27 (.r rfl) (fun _ hw => cells_at hw 0 rfl ⟨_, rfl⟩) rfl) rfl <| VO.l (LO.call (xs := [_]) (vs := [_]) C27 ⟨(.r rfl), trivial⟩ (fun w _ => recvP_c r w)) rfl <| VO.l (LO.as (.r rfl)) rfl <| VO.nil ?_)
    refine VE.seqN ?_
    refine VC.seq ?_
    refine VC.reg (VO.l (LO.mv (.r rfl)) rfl <| VO.l (LO.ne (.r rfl) (.r rfl)) rfl <| VO.nil ?_)
    refine VE.seqN ?_
    refine VC.cond rfl (fun h23 => ?_) (fun h23 => ?_)
    ·
      refine VC.seq ?_
      refine VC.reg (VO.l (LO.mv (.r rfl)) rfl <| VO.l (LO.as (.r rfl)) rfl <| VO.l (LO.as (.r rfl)) rfl <| VO.nil ?_)
      refine VE.seqN ?_
      refine VC.ret (VE.thenR (VE.res (vs := [_, _]) rfl ⟨rfl, rfl, trivial⟩ (fun w hw => ?_)))
      simp only [resV]
      first | exact rayX0 (rayE1 h18) h18 hw | exact rayX0 (rayE2 h18 h23) h23 hw | exact rayX0 (rayE3 h18 h23 h27) (by decide) hw | exact rayX0 (rayE4 h18 h23 h27 hz (by omega) hE) hE hw | exact rayX1 (rayE5 h18 h23 h27 (fun k hk => hz k (by omega))) (by rw [hX]; congr 2; omega) (hw.sel [0] rfl)
    ·
      refine VC.skip (VE.seqN ?_)
      refine VC.seq ?_
      refine VC.seq ?_
      refine VC.reg (VO.l (LO.mv (.r rfl)) rfl <| VO.l (LO.len S48 (.r rfl) rfl) rfl <| VO.l (LO.gt (.r rfl) (.r rfl)) rfl <| VO.nil ?_)
      refine VE.seqN ?_
      refine VC.cond rfl (fun h27 => ?_) (fun h27 => ?_)
      ·
        refine VC.seq ?_
        refine VC.reg (VO.l (LO.as (.r rfl)) rfl <| VO.l (LO.as (.r rfl)) rfl <| VO.nil ?_)
        refine VE.seqN ?_
        refine VC.ret (VE.thenR (VE.res (vs := [_, _]) rfl ⟨rfl, rfl, trivial⟩ (fun w hw => ?_)))
        simp only [resV]
        first | exact rayX0 (rayE1 h18) h18 hw | exact rayX0 (rayE2 h18 h23) h23 hw | exact rayX0 (rayE3 h18 h23 h27) (by decide) hw | exact rayX0 (rayE4 h18 h23 h27 hz (by omega) hE) hE hw | exact rayX1 (rayE5 h18 h23 h27 (fun k hk => hz k (by omega))) (by rw [hX]; congr 2; omega) (hw.sel [0] rfl)
      ·
        refine VC.skip (VE.seqN ?_)
        refine VC.seq ?_
        refine VC.reg (VO.l (LO.as (.r rfl)) rfl <| VO.nil ?_)
        refine VE.seqN ?_
        refine VC.seq ?_
        refine VC.seq ?_
        refine VC.reg (VO.l (LO.mv (.r rfl)) rfl <| VO.l (LO.len S48 (.r rfl) rfl) rfl <| VO.l (LO.mv (.r rfl)) rfl <| VO.nil ?_)
        refine VE.seqN ?_
        refine VC.block ?_
        refine VC.loopK (α := Nat × (List Echo) × (Option Addr) × Nat) 0 (fun gx => [(10, .slice gx.2.2.1 gx.2.1.length gx.2.2.2), (30, .int .i64 (gx.1 : Nat))]) [(3, _), (4, _), (28, _), (29, _)] (fun gx => [own 32 14 gx.2.2.1 gx.2.2.2 (gx.2.1.map echoC)]) (fun gx => gx.1 ≤ rs.length ∧ gx.2.1 = (rs.take gx.1).map (fun x => hearR t r x.l) ∧ ∀ k, k < gx.1 → hearE t r (rs.getD k zR).l = 0) (fun gx => rs.length - gx.1) (0, [], none, 0) (by exact ⟨Nat.zero_le _, rfl, fun k hk => by omega⟩) (.cons rfl (.cons rfl (.cons rfl (.cons rfl (.cons rfl (.cons rfl .nil)))))) (fun _ h => (h.ownNil 32 14)) ?_
        rintro ⟨i, xs, px, cx⟩ ⟨hi, hX, hz⟩
        show VC _ _ _ _ _ ([(10, .slice px xs.length cx), (30, .int .i64 (i : Nat))] ++ _) ([own 32 14 px cx (xs.map echoC)] ++ _) _ _
        dsimp only at hi hX hz
        have hxl : xs.length = i := by rw [hX]; simp; omega
        refine VC.seq ?_
        refine VC.reg (VO.l (LO.lt (.r rfl) (.r rfl)) rfl <| VO.nil ?_)
        refine VE.seqN ?_
        refine VC.seq ?_
        refine VC.cond rfl (fun h4 => ?_) (fun h4 => ?_)
        ·
          refine VC.skip (VE.seqN ?_)
          refine VC.seq ?_
          refine VC.block ?_
          refine VC.seq ?_
          have hrow := row_at hl (i := i) (by omega)
          refine VC.reg (VO.l (LO.ixs S48 N28 hl.1.sm (.r rfl) (.r rfl) rfl (by omega)) rfl <| VO.l (LO.ld O28 (.r rfl) (fun w hw => cells_part (off := 0) ((hl.1.at zR (j := i) (by omega)) w hw) ⟨_, rfl⟩)) rfl <| VO.l (LO.as (.r rfl)) rfl <| VO.nil ?_)
          refine VE.seqN ?_
          refine VC.seq ?_
          refine VC.reg (VO.l (LO.lda (vs := [_, _, _, _, _]) A23 (.r rfl) (fun _ hw => cells_at hw 2 rfl ⟨_, rfl⟩) rfl) rfl <| VO.l (LO.lda (vs := [_, _, _, _]) A27 (.r rfl) (fun _ hw => cells_at hw 1 rfl ⟨_, rfl⟩) rfl) rfl <| VO.l (LO.mv (.r rfl)) rfl <| VO.l (LO.call (xs := [_, _, _]) (vs := [_, _, _]) C16 ⟨(.r rfl), (.r rfl), (.r rfl), trivial⟩ (fun w hw => Hear_c t r (rs.getD i zR).l _ _ w (hb _ (getD_mem (d := zR) (by omega))) hrow.1 (hrow.2.keep w hw))) rfl <| VO.l (LO.mv (.r rfl)) rfl <| VO.l (LO.ex (.r rfl) rfl) rfl <| VO.l (LO.ex (.r rfl) rfl) rfl <| VO.h rfl <| HO.alloc (C := #[_, _, _, _, _, _, _, _, _, _, _, _, _, _]) Z32 rfl fun b4 => VO.h0 <| HO.st 0 (vs := [_, _, _, _, _, _, _, _, _, _, _, _, _, _]) (C' := [_, _, _, _, _, _, _, _, _, _, _, _, _, _]) (L' := [_, _, _, _]) N32 rfl rfl rfl rfl rfl rfl rfl rfl <| VO.l (LO.as (.r rfl)) rfl <| VO.nil ?_)
          refine VE.seqN ?_
          refine VC.seq ?_
          refine VC.seq ?_
          refine VC.reg (VO.l (LO.mv (.r rfl)) rfl <| VO.l (LO.ne (.r rfl) (.r rfl)) rfl <| VO.nil ?_)
          refine VE.seqN ?_
          refine VC.cond rfl (fun hE => ?_) (fun hE => ?_)
          ·
            refine VC.seq ?_
            refine VC.reg (VO.l (LO.mv (.r rfl)) rfl <| VO.l (LO.as (.r rfl)) rfl <| VO.l (LO.as (.r rfl)) rfl <| VO.nil ?_)
            refine VE.seqN ?_
            refine VC.ret (VE.thenR (VE.inR (VE.thenR (VE.thenR (VE.inR (VE.thenR (VE.res (vs := [_, _]) rfl ⟨rfl, rfl, trivial⟩ (fun w hw => ?_))))))))
            simp only [resV]
            first | exact rayX0 (rayE1 h18) h18 hw | exact rayX0 (rayE2 h18 h23) h23 hw | exact rayX0 (rayE3 h18 h23 h27) (by decide) hw | exact rayX0 (rayE4 h18 h23 h27 hz (by omega) hE) hE hw | exact rayX1 (rayE5 h18 h23 h27 (fun k hk => hz k (by omega))) (by rw [hX]; congr 2; omega) (hw.sel [0] rfl)
          ·
            refine VC.skip (VE.seqN ?_)
            refine VC.reg (VO.l (LO.mv (.r rfl)) rfl <| VO.l (LO.lda (vs := [_, _, _, _, _, _, _, _, _, _, _, _, _, _]) A32 (.r rfl) (fun _ hw => cells_at hw 0 rfl ⟨_, rfl⟩) rfl) rfl <| VO.h rfl <| HO.bs (ps := [(_, _)]) (vs := [(_, _)]) (Z := [_, _, _, _, _, _, _, _, _, _, _, _, _, _]) (C := [_, _, _, _, _, _, _, _, _, _, _, _, _, _]) S50 Z32 N32 ⟨(.r rfl), trivial⟩ rfl rfl rfl rfl ⟨_, [_, _, _, _, _, _, _, _, _, _, _, _, _, _], [_, _, _, _, _, _, _, _, _, _, _, _, _, _], rfl, rfl, rfl, rfl, rfl⟩ fun b6 => VO.h rfl <| HO.appT ((hearR t r (rs.getD i zR).l)) 2 0 (fun R => [_, _, R, _, _]) S50 S50 I32 (.r rfl) (.r rfl) rfl rfl rfl rfl rfl rfl rfl (fun _ => rfl) rfl (by omega) fun p3 c3 => VO.h rfl <| HO.lo (LO.as (.r rfl)) <| VO.nil ?_)
            refine VE.inN (VE.seqN ?_)
            refine VC.reg (VO.l (LO.add (.r rfl) (.r rfl) (wi (by omega) (by omega))) rfl <| VO.l (LO.mv (.r rfl)) rfl <| VO.nil ?_)
            refine VE.thenN fun a w ha hw => ⟨(i + 1, xs ++ [(hearR t r (rs.getD i zR).l)], p3, c3), ⟨by dsimp only; omega, by dsimp only; rw [ray_step (by omega), hX], zero_step hz hE⟩, (by dsimp only; omega), ha.sub (.cons rfl (.cons rfl (.cons rfl (.cons rfl (.cons rfl (.cons rfl .nil)))))), hw.sel [2, 3, 4] rfl⟩
        ·
          refine VC.exit (VE.thenX (VE.thenX (VE.inX (VE.seqN ?_))))
          refine VC.seq ?_
          refine VC.reg (VO.l (LO.mv (.r rfl)) rfl <| VO.l (LO.as (.r rfl)) rfl <| VO.l (LO.as (.r rfl)) rfl <| VO.nil ?_)
          refine VE.seqN ?_
          refine VC.ret (VE.res (vs := [_, _]) rfl ⟨rfl, rfl, trivial⟩ (fun w hw => ?_))
          simp only [resV]
          first | exact rayX0 (rayE1 h18) h18 hw | exact rayX0 (rayE2 h18 h23) h23 hw | exact rayX0 (rayE3 h18 h23 h27) (by decide) hw | exact rayX0 (rayE4 h18 h23 h27 hz (by omega) hE) hE hw | exact rayX1 (rayE5 h18 h23 h27 (fun k hk => hz k (by omega))) (by rw [hX]; congr 2; omega) (hw.sel [0] rfl)

set_option maxRecDepth 20000 in
theorem rRay_c (t : Train) (r : Recv) (rs : List SRow) (p : Option Addr) (c : Nat) (w : World) (hn : rs.length < 1000000000) (hb : ∀ x ∈ rs, x.l.length < 1000000000) (hl : SRows w p rs) :
  Calls Try.prog 22 #[trainV t, recvV r, .slice p rs.length c] w fun e w' => ∃ x : Option Addr × Nat, True ∧ e = .returned (.tuple #[.slice x.1 (rayX t r (lss rs)).length x.2, .int .i64 (rayE t r (lss rs))]) ∧ St (bs w) [own 32 14 x.1 x.2 ((rayX t r (lss rs)).map echoC)] w' := by
  refine enter (vs := [_, _, _]) (env := [(0, _), (1, _), (2, _)]) Try.func22 rfl rfl rfl rfl ?_
  refine VC.seq ?_
  refine VC.reg (VO.h rfl <| HO.box (C := #[_, _, _, _, _]) rfl rfl fun b1 => VO.h rfl <| HO.box (C := #[_, _, _, _]) rfl rfl fun b2 => VO.l (LO.as (.r rfl)) rfl <| VO.l (LO.as (.r rfl)) rfl <| VO.nil ?_)
  refine VE.seqN ?_
  refine VC.seq ?_
  refine VC.reg (VO.l (LO.lda (vs := [_, _, _, _, _]) A37 (.r rfl) (fun _ hw => cells_at hw 1 rfl ⟨_, rfl⟩) rfl) rfl <| VO.l (LO.lda (vs := [_, _, _, _]) A38 (.r rfl) (fun _ hw => cells_at hw 0 rfl ⟨_, rfl⟩) rfl) rfl <| VO.l (LO.call (xs := [_, _]) (vs := [_, _]) C48 ⟨(.r rfl), (.r rfl), trivial⟩ (fun w _ => both_c t r w)) rfl <| VO.l (LO.as (.r rfl)) rfl <| VO.nil ?_)
  refine VE.seqN ?_
  refine VC.seq ?_
  refine VC.seq ?_
  refine VC.reg (VO.l (LO.mv (.r rfl)) rfl <| VO.l (LO.ne (.r rfl) (.r rfl)) rfl <| VO.nil ?_)
  refine VE.seqN ?_
  refine VC.cond rfl (fun hB => ?_) (fun hB => ?_)
  ·
    refine VC.seq ?_
    refine VC.reg (VO.l (LO.mv (.r rfl)) rfl <| VO.l (LO.as (.r rfl)) rfl <| VO.l (LO.as (.r rfl)) rfl <| VO.nil ?_)
    refine VE.seqN ?_
    refine VC.ret (VE.thenR (VE.res (vs := [_, _]) rfl ⟨rfl, rfl, trivial⟩ (fun w hw => ?_)))
    simp only [resV]
    first | exact rayXb hB hw | exact rayX0 (rayE3 (bothT hB) (bothR hB) h27) (by decide) hw | exact rayX0 (rayE4 (bothT hB) (bothR hB) h27 hz (by omega) hE) hE hw | exact rayX1 (rayE5 (bothT hB) (bothR hB) h27 (fun k hk => hz k (by omega))) (by rw [hX]; congr 2; omega) (hw.sel [0] rfl)
  ·
    refine VC.skip (VE.seqN ?_)
    refine VC.seq ?_
    refine VC.seq ?_
    refine VC.reg (VO.l (LO.mv (.r rfl)) rfl <| VO.l (LO.len S49 (.r rfl) rfl) rfl <| VO.l (LO.gt (.r rfl) (.r rfl)) rfl <| VO.nil ?_)
    refine VE.seqN ?_
    refine VC.cond rfl (fun h27 => ?_) (fun h27 => ?_)
    ·
      refine VC.seq ?_
      refine VC.reg (VO.l (LO.as (.r rfl)) rfl <| VO.l (LO.as (.r rfl)) rfl <| VO.nil ?_)
      refine VE.seqN ?_
      refine VC.ret (VE.thenR (VE.res (vs := [_, _]) rfl ⟨rfl, rfl, trivial⟩ (fun w hw => ?_)))
      simp only [resV]
      first | exact rayXb hB hw | exact rayX0 (rayE3 (bothT hB) (bothR hB) h27) (by decide) hw | exact rayX0 (rayE4 (bothT hB) (bothR hB) h27 hz (by omega) hE) hE hw | exact rayX1 (rayE5 (bothT hB) (bothR hB) h27 (fun k hk => hz k (by omega))) (by rw [hX]; congr 2; omega) (hw.sel [0] rfl)
    ·
      refine VC.skip (VE.seqN ?_)
      refine VC.seq ?_
      refine VC.reg (VO.l (LO.as (.r rfl)) rfl <| VO.nil ?_)
      refine VE.seqN ?_
      refine VC.seq ?_
      refine VC.seq ?_
      refine VC.reg (VO.l (LO.as (.r rfl)) rfl <| VO.nil ?_)
      refine VE.seqN ?_
      refine VC.block ?_
      refine VC.loopK (α := Nat × (List Echo) × (Option Addr) × Nat) 0 (fun gx => [(9, .slice gx.2.2.1 gx.2.1.length gx.2.2.2), (10, .int .i64 (gx.1 : Nat))]) [(2, _), (3, _), (4, _)] (fun gx => [own 32 14 gx.2.2.1 gx.2.2.2 (gx.2.1.map echoC)]) (fun gx => gx.1 ≤ rs.length ∧ gx.2.1 = (rs.take gx.1).map (fun x => hearR t r x.l) ∧ ∀ k, k < gx.1 → hearE t r (rs.getD k zR).l = 0) (fun gx => rs.length - gx.1) (0, [], none, 0) (by exact ⟨Nat.zero_le _, rfl, fun k hk => by omega⟩) (.cons rfl (.cons rfl (.cons rfl (.cons rfl (.cons rfl .nil))))) (fun _ h => (h.ownNil 32 14)) ?_
      rintro ⟨i, xs, px, cx⟩ ⟨hi, hX, hz⟩
      show VC _ _ _ _ _ ([(9, .slice px xs.length cx), (10, .int .i64 (i : Nat))] ++ _) ([own 32 14 px cx (xs.map echoC)] ++ _) _ _
      dsimp only at hi hX hz
      have hxl : xs.length = i := by rw [hX]; simp; omega
      refine VC.seq ?_
      refine VC.seq ?_
      refine VC.reg (VO.l (LO.mv (.r rfl)) rfl <| VO.l (LO.mv (.r rfl)) rfl <| VO.l (LO.len S49 (.r rfl) rfl) rfl <| VO.l (LO.lt (.r rfl) (.r rfl)) rfl <| VO.nil ?_)
      refine VE.seqN ?_
      refine VC.cond rfl (fun h3 => ?_) (fun h3 => ?_)
      ·
        refine VC.skip (VE.seqN ?_)
        refine VC.seq ?_
        refine VC.block ?_
        refine VC.seq ?_
        have hrow := row_at hl (i := i) (by omega)
        refine VC.drawH [[0, 1, 2], [0, 1, 2], [0, 1, 2]] [some 1, some 1, some 1, some 1, some 1, some 1, some 1, some 1, some 1, some 2, none, none, some 2] mixed (by kernel_rfl) rfl (LX.l (fun _ hJ => LO.lda (vs := [_, _, _, _, _]) A37 (.r rfl) (fun _ hw => cells_at (hJ _ hw) 2 rfl ⟨_, rfl⟩) rfl) rfl <| LX.l (fun _ hJ => LO.lda (vs := [_, _, _, _]) A38 (.r rfl) (fun _ hw => cells_at (hJ _ hw) 1 rfl ⟨_, rfl⟩) rfl) rfl <| LX.l (fun _ hJ => LO.mv (.r rfl)) rfl <| LX.l (fun _ hJ => LO.mv (.r rfl)) rfl <| LX.l (fun _ hJ => LO.ixs S49 N39 hl.1.sm (.r rfl) (.r rfl) rfl (by omega)) rfl <| LX.l (fun _ hJ => LO.ld O39 (.r rfl) (fun w hw => cells_part (off := 0) ((hl.1.at zR (j := i) (by omega)) w (hJ _ hw)) ⟨_, rfl⟩)) rfl <| LX.l (fun _ hJ => LO.call (xs := [_, _, _]) (vs := [_, _, _]) C17 ⟨(.r rfl), (.r rfl), (.r rfl), trivial⟩ (fun w hw => rHear_c t r (rs.getD i zR).l _ _ w (hb _ (getD_mem (d := zR) (by omega))) (hrow.2.keep w hw))) rfl <| LX.l (fun _ hJ => LO.mv (.r rfl)) rfl <| LX.l (fun _ hJ => LO.ex (.r rfl) rfl) rfl <| LX.l (fun _ hJ => LO.ex (.r rfl) rfl) rfl <| LX.s <| LX.s <| LX.l (fun _ hJ => LO.as (.r rfl)) rfl <| LX.nil) (HX.s <| HX.s <| HX.s <| HX.s <| HX.s <| HX.s <| HX.s <| HX.s <| HX.s <| HX.s <| HX.h rfl <| HO.alloc (C := #[_, _, _, _, _, _, _, _, _, _, _, _, _, _]) Z32 rfl fun b6 => ⟨fun _ hw => hw.sel [1, 2, 3] rfl, HX.h0 <| HO.st 0 (vs := [_, _, _, _, _, _, _, _, _, _, _, _, _, _]) (C' := [_, _, _, _, _, _, _, _, _, _, _, _, _, _]) (L' := [_, _, _, _]) N32 rfl rfl rfl rfl rfl rfl rfl rfl <| ⟨fun _ hw => hw.sel [1, 2, 3] rfl, HX.s <| HX.nil ?_⟩⟩)
        refine VE.seqN ?_
        refine VC.seq ?_
        refine VC.seq ?_
        refine VC.reg (VO.l (LO.mv (.r rfl)) rfl <| VO.l (LO.ne (.r rfl) (.r rfl)) rfl <| VO.nil ?_)
        refine VE.seqN ?_
        refine VC.cond rfl (fun hE => ?_) (fun hE => ?_)
        ·
          refine VC.seq ?_
          refine VC.reg (VO.l (LO.mv (.r rfl)) rfl <| VO.l (LO.as (.r rfl)) rfl <| VO.l (LO.as (.r rfl)) rfl <| VO.nil ?_)
          refine VE.seqN ?_
          refine VC.ret (VE.thenR (VE.inR (VE.thenR (VE.thenR (VE.inR (VE.thenR (VE.res (vs := [_, _]) rfl ⟨rfl, rfl, trivial⟩ (fun w hw => ?_))))))))
          simp only [resV]
          first | exact rayXb hB hw | exact rayX0 (rayE3 (bothT hB) (bothR hB) h27) (by decide) hw | exact rayX0 (rayE4 (bothT hB) (bothR hB) h27 hz (by omega) hE) hE hw | exact rayX1 (rayE5 (bothT hB) (bothR hB) h27 (fun k hk => hz k (by omega))) (by rw [hX]; congr 2; omega) (hw.sel [0] rfl)
        ·
          refine VC.skip (VE.seqN ?_)
          refine VC.reg (VO.l (LO.mv (.r rfl)) rfl <| VO.l (LO.lda (vs := [_, _, _, _, _, _, _, _, _, _, _, _, _, _]) A32 (.r rfl) (fun _ hw => cells_at hw 0 rfl ⟨_, rfl⟩) rfl) rfl <| VO.h rfl <| HO.bs (ps := [(_, _)]) (vs := [(_, _)]) (Z := [_, _, _, _, _, _, _, _, _, _, _, _, _, _]) (C := [_, _, _, _, _, _, _, _, _, _, _, _, _, _]) S50 Z32 N32 ⟨(.r rfl), trivial⟩ rfl rfl rfl rfl ⟨_, [_, _, _, _, _, _, _, _, _, _, _, _, _, _], [_, _, _, _, _, _, _, _, _, _, _, _, _, _], rfl, rfl, rfl, rfl, rfl⟩ fun b8 => VO.h rfl <| HO.appT ((hearR t r (rs.getD i zR).l)) 2 0 (fun R => [_, _, R, _, _]) S50 S50 I32 (.r rfl) (.r rfl) rfl rfl rfl rfl rfl rfl rfl (fun _ => rfl) rfl (by omega) fun p3 c3 => VO.h rfl <| HO.lo (LO.as (.r rfl)) <| VO.nil ?_)
          refine VE.inN (VE.seqN ?_)
          refine VC.reg (VO.l (LO.mv (.r rfl)) rfl <| VO.l (LO.add (.r rfl) (.r rfl) (wi (by omega) (by omega))) rfl <| VO.l (LO.as (.r rfl)) rfl <| VO.nil ?_)
          refine VE.thenN fun a w ha hw => ⟨(i + 1, xs ++ [(hearR t r (rs.getD i zR).l)], p3, c3), ⟨by dsimp only; omega, by dsimp only; rw [ray_step (by omega), hX], zero_step hz hE⟩, (by dsimp only; omega), ha.sub (.cons rfl (.cons rfl (.cons rfl (.cons rfl (.cons rfl .nil))))), hw.sel [2, 3, 4] rfl⟩
      ·
        refine VC.exit (VE.thenX (VE.thenX (VE.inX (VE.seqN ?_))))
        refine VC.seq ?_
        refine VC.reg (VO.l (LO.mv (.r rfl)) rfl <| VO.l (LO.as (.r rfl)) rfl <| VO.l (LO.as (.r rfl)) rfl <| VO.nil ?_)
        refine VE.seqN ?_
        refine VC.ret (VE.res (vs := [_, _]) rfl ⟨rfl, rfl, trivial⟩ (fun w hw => ?_))
        simp only [resV]
        first | exact rayXb hB hw | exact rayX0 (rayE3 (bothT hB) (bothR hB) h27) (by decide) hw | exact rayX0 (rayE4 (bothT hB) (bothR hB) h27 hz (by omega) hE) hE hw | exact rayX1 (rayE5 (bothT hB) (bothR hB) h27 (fun k hk => hz k (by omega))) (by rw [hX]; congr 2; omega) (hw.sel [0] rfl)

end Go.Proofs.Ytcnlhifkablmkaa
