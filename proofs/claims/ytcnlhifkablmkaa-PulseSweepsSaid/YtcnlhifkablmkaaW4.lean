/-
  The library that arcs rest on.
-/
import Derived.Test.YtcnlhifkablmkaaHB
namespace Go.Proofs.Ytcnlhifkablmkaa
open Go.SL Go.Proofs Go.Pulse
set_option linter.unusedVariables false

theorem S55 : IsSlice Try.prog 55 3 := Try.underlying55
theorem N3 : (Try.prog.info? 3).map (·.size) = some 1 := by kernel_rfl
theorem C59 : IsFn Try.prog 59 := ⟨_, Try.func59, by decide, rfl⟩
theorem C81 : IsFn Try.prog 81 := ⟨_, Try.func81, by decide, rfl⟩
theorem O55 : IsOne Try.prog 55 := ⟨⟨_, Try.underlying55, rfl⟩, by kernel_rfl⟩
theorem Z3 : ZeroOf Try.prog 3 (.int .i64 0) := by unfold ZeroOf; kernel_rfl
theorem I3 : EInfo Try.prog 3 1 8 (.int .i64 0) := ⟨by kernel_rfl, by kernel_rfl, by unfold ZeroOf; kernel_rfl, rfl, by decide⟩
theorem N55 : (Try.prog.info? 55).map (·.size) = some 1 := by kernel_rfl
theorem C95 : IsFn Try.prog 95 := ⟨_, Try.func95, by decide, rfl⟩
theorem C89 : IsFn Try.prog 89 := ⟨_, Try.func89, by decide, rfl⟩
theorem C90 : IsFn Try.prog 90 := ⟨_, Try.func90, by decide, rfl⟩


def inT (x : Int) : Prop := 0 ≤ x ∧ x ≤ 65535
instance : DecidablePred inT := fun x => by unfold inT; exact inferInstance
theorem iff_no {α : Type} {P : α → Prop} {l : List α} {d : α} {j : Nat} {n : Int} (hn : 0 ≤ n) (hj : j < l.length) (h : ¬ P (l.getD j d)) : 0 ≤ n ↔ ¬ ∀ x ∈ l, P x := ⟨fun _ q => h (q _ (getD_mem hj)), fun _ => hn⟩
theorem iff_yes {α : Type} {P : α → Prop} {l : List α} {d : α} {j : Nat} {n : Int} (hn : n < 0) (hz : ∀ k, k < j → P (l.getD k d)) (hj : l.length ≤ j) : 0 ≤ n ↔ ¬ ∀ x ∈ l, P x := ⟨fun q => by omega, fun q => absurd (fun x hx => by
  obtain ⟨k, hk, rfl⟩ := mem_getD (d := d) hx
  exact hz k (by omega)) q⟩
def valCap (l : List Int) (p : Option Addr) (c b : Nat) (w : World) : Prop := Cells w ⟨b, 0, none⟩ [.slice p l.length c] ∧ Ints w p l
theorem ints_here {w : World} {p : Option Addr} {l : List Int} (h : Ints w p l) {j : Nat} (hj : j < l.length) : Cells w ⟨pb p, po p + j * 1, none⟩ [.int .i64 (l.getD j 0)] := h.cells j _ (by simp [List.getElem?_eq_getElem hj, List.getD])
theorem getD_some {α : Type} {l : List α} {d : α} {i : Nat} (h : i < l.length) : l[i]? = some (l.getD i d) := by rw [List.getD_eq_getElem?_getD, List.getElem?_eq_getElem h]; rfl
theorem seq_end {J Jx : Nat → Res → Prop} {xs : List (List Value)} {r : Res} {β : Bs} {w : World} (h : J xs.length r ∨ ∃ n, n ≤ xs.length ∧ Jx n r) (hw : St β [r] w) : ∃ n r', (J xs.length r' ∨ (n ≤ xs.length ∧ Jx n r')) ∧ St β [r'] w := by
  rcases h with h | ⟨n, h1, h2⟩
  · exact ⟨0, r, .inl h, hw⟩
  · exact ⟨n, r, .inr ⟨h1, h2⟩, hw⟩
theorem row_of {l : List Int} {n : Nat} {vs : List Value} (h : (l.map intC)[n]? = some vs) : ∃ v, vs = [.int .i64 v] ∧ l[n]? = some v := by
  rw [List.getElem?_map] at h
  cases q : l[n]? with
  | none => rw [q] at h; cases h
  | some v => rw [q] at h; cases h; exact ⟨v, rfl, rfl⟩
theorem take_at {α : Type} {l : List α} {n : Nat} {v : α} (hv : l[n]? = some v) : l.take (n + 1) = l.take n ++ [v] := by
  rw [List.take_add_one, hv]; rfl
theorem _root_.Go.SL.St.tl {β : Bs} {r : Res} {L : List Res} {w : World} (h : St β (r :: L) w) : St β L w := h.map (fun j => j + 1) (fun a b hab _ _ => by omega) (fun j s hs => .inr (by simpa using hs))

set_option maxRecDepth 20000 in
theorem arcP_c (x : Int) (w : World) :
  Calls Try.prog 59 #[.int .i64 x] w fun e w' => e = .returned (.bool (!(decide (0 ≤ x) && decide (x ≤ 65535)))) ∧ St (bs w) [] w' := by
  refine enter (vs := [_]) (env := [(0, _)]) Try.func59 rfl rfl rfl rfl ?_
  refine VC.seq ?_
  refine VC.reg (VO.l (LO.as (.r rfl)) rfl <| VO.nil ?_)
  refine VE.seqN ?_
  refine VC.seq ?_
  refine VC.reg (VO.l (LO.mv (.r rfl)) rfl <| VO.l (LO.call (xs := [_, _, _]) (vs := [_, _, _]) C45 ⟨(.r rfl), (.r rfl), (.r rfl), trivial⟩ (fun w _ => within_c _ _ _ w)) rfl <| VO.l (LO.not (.r rfl)) rfl <| VO.l (LO.as (.r rfl)) rfl <| VO.nil ?_)
  refine VE.seqN ?_
  refine VC.ret (VE.res (vs := [_]) rfl ⟨rfl, trivial⟩ (fun w hw => ?_))
  exact ⟨rfl, hw.nil⟩

set_option maxRecDepth 20000 in
theorem indexF_c (l : List Int) (p : Option Addr) (c : Nat) (w : World) (hn : l.length < 1000000000000) (hl : Ints w p l) :
  Calls Try.prog 81 #[.slice p l.length c, .func (.func 59) #[] #[]] w fun e w' => ∃ n : Int, (0 ≤ n ↔ ¬ ∀ x ∈ l, inT x) ∧ e = .returned (.int .i64 n) ∧ St (bs w) [] w' := by
  refine enter (vs := [_, _]) (env := [(0, _), (1, _)]) Try.func81 rfl rfl rfl rfl ?_
  refine VC.seq ?_
  refine VC.reg (VO.l (LO.as (.r rfl)) rfl <| VO.nil ?_)
  refine VE.seqN ?_
  refine VC.seq ?_
  refine VC.seq ?_
  refine VC.reg (VO.l (LO.mv (.r rfl)) rfl <| VO.l (LO.len S55 (.r rfl) rfl) rfl <| VO.l (LO.mv (.r rfl)) rfl <| VO.nil ?_)
  refine VE.seqN ?_
  refine VC.block ?_
  refine VC.loopK (α := Nat) 0 (fun gx => [(8, .int .i64 (gx : Nat))]) [(0, _), (1, _), (7, _)] (fun gx => []) (fun gx => gx ≤ l.length ∧ ∀ k, k < gx → inT (l.getD k 0)) (fun gx => l.length - gx) 0 (by exact ⟨by omega, fun k hk => by omega⟩) (.cons rfl (.cons rfl (.cons rfl (.cons rfl .nil)))) (fun _ h => h) ?_
  rintro j ⟨hj, hz⟩
  refine VC.seq ?_
  refine VC.reg (VO.l (LO.lt (.r rfl) (.r rfl)) rfl <| VO.nil ?_)
  refine VE.seqN ?_
  refine VC.seq ?_
  refine VC.cond rfl (fun h1 => ?_) (fun h1 => ?_)
  ·
    refine VC.skip (VE.seqN ?_)
    refine VC.seq ?_
    refine VC.block ?_
    refine VC.seq ?_
    refine VC.reg (VO.l (LO.mv (.r rfl)) rfl <| VO.l (LO.as (.r rfl)) rfl <| VO.nil ?_)
    refine VE.seqN ?_
    refine VC.seq ?_
    refine VC.reg (VO.l (LO.mv (.r rfl)) rfl <| VO.l (LO.mv (.r rfl)) rfl <| VO.l (LO.mv (.r rfl)) rfl <| VO.l (LO.ixs S55 N3 hl.some (.r rfl) (.r rfl) rfl (by omega)) rfl <| VO.l (LO.ld O3 (.r rfl) (fun w hw => cells_part (off := 0) ((hl.at (j := j) (by omega)) w hw) ⟨_, rfl⟩)) rfl <| VO.l (LO.callv (first := []) (cap := []) (xs := [_]) (vs := [_]) (.r rfl) C59 ⟨(.r rfl), trivial⟩ (fun w _ => arcP_c _ w)) rfl <| VO.nil ?_)
    refine VE.seqN ?_
    refine VC.cond rfl (fun h2 => ?_) (fun h2 => ?_)
    ·
      refine VC.seq ?_
      refine VC.reg (VO.l (LO.mv (.r rfl)) rfl <| VO.l (LO.as (.r rfl)) rfl <| VO.nil ?_)
      refine VE.seqN ?_
      refine VC.ret (VE.inR (VE.thenR (VE.thenR (VE.inR (VE.thenR (VE.res (vs := [_]) rfl ⟨rfl, trivial⟩ (fun w hw => ?_)))))))
      first | exact ⟨_, iff_no (d := 0) (j := j) (by omega) (by omega) (by unfold inT; omega), rfl, hw.nil⟩ | exact ⟨_, iff_yes (d := 0) (j := j) (by omega) hz (by omega), rfl, hw.nil⟩
    ·
      refine VC.skip (VE.inN (VE.seqN ?_))
      refine VC.reg (VO.l (LO.add (.r rfl) (.r rfl) (wi (by omega) (by omega))) rfl <| VO.l (LO.mv (.r rfl)) rfl <| VO.nil ?_)
      refine VE.thenN fun a w ha hw => ⟨j + 1, ⟨by omega, all_step hz (by unfold inT; omega)⟩, (by omega), ha.sub (.cons rfl (.cons rfl (.cons rfl (.cons rfl .nil)))), hw⟩
  ·
    refine VC.exit (VE.thenX (VE.thenX (VE.inX (VE.seqN ?_))))
    refine VC.seq ?_
    refine VC.reg (VO.l (LO.as (.r rfl)) rfl <| VO.nil ?_)
    refine VE.seqN ?_
    refine VC.ret (VE.res (vs := [_]) rfl ⟨rfl, trivial⟩ (fun w hw => ?_))
    first | exact ⟨_, iff_no (d := 0) (j := j) (by omega) (by omega) (by unfold inT; omega), rfl, hw.nil⟩ | exact ⟨_, iff_yes (d := 0) (j := j) (by omega) hz (by omega), rfl, hw.nil⟩

set_option maxRecDepth 20000 in
theorem containsF_c (l : List Int) (p : Option Addr) (c : Nat) (w : World) (hn : l.length < 1000000000000) (hl : Ints w p l) :
  Calls Try.prog 58 #[.slice p l.length c, .func (.func 59) #[] #[]] w fun e w' => e = .returned (.bool (!decide (∀ x ∈ l, inT x))) ∧ St (bs w) [] w' := by
  refine enter (vs := [_, _]) (env := [(0, _), (1, _)]) Try.func58 rfl rfl rfl rfl ?_
  refine VC.seq ?_
  refine VC.reg (VO.l (LO.as (.r rfl)) rfl <| VO.nil ?_)
  refine VE.seqN ?_
  refine VC.seq ?_
  refine VC.reg (VO.l (LO.mv (.r rfl)) rfl <| VO.l (LO.mv (.r rfl)) rfl <| VO.h rfl <| HO.callx (xs := [_, _]) (vs := [_, _]) C81 ⟨(.r rfl), (.r rfl), trivial⟩ (fun w hw => indexF_c l p c w hn (hl.keep w hw)) fun n hx => VO.h rfl <| HO.lo (LO.ge (.r rfl) (.r rfl)) <| VO.h rfl <| HO.lo (LO.as (.r rfl)) <| VO.nil ?_)
  refine VE.seqN ?_
  refine VC.ret (VE.res (vs := [_]) rfl ⟨rfl, trivial⟩ (fun w hw => ?_))
  refine ⟨?_, hw.nil⟩
  simp only [resV]
  congr 2
  rw [Bool.eq_iff_iff]
  simp [hx]

set_option maxRecDepth 20000 in
theorem values_c (l : List Int) (p : Option Addr) (c : Nat) (w : World) :
  Calls Try.prog 84 #[.slice p l.length c] w fun e w' => ∃ b : Nat, True ∧ e = .returned (.func (.func 91) #[] #[.pointer (some ⟨b, 0, none⟩)]) ∧ St (bs w) [blk b (.cells #[.slice p l.length c] 55)] w' := by
  refine enter (vs := [_]) (env := [(0, _)]) Try.func84 rfl rfl rfl rfl ?_
  refine VC.seq ?_
  refine VC.reg (VO.h rfl <| HO.box (C := #[_]) rfl rfl fun b1 => VO.l (LO.as (.r rfl)) rfl <| VO.nil ?_)
  refine VE.seqN ?_
  refine VC.seq ?_
  refine VC.reg (VO.h rfl <| HO.lo (LO.mf (cap := [_]) ⟨(.r rfl), trivial⟩) <| VO.h rfl <| HO.lo (LO.as (.r rfl)) <| VO.nil ?_)
  refine VE.seqN ?_
  refine VC.ret (VE.res (vs := [_]) rfl ⟨rfl, trivial⟩ (fun w hw => ?_))
  exact ⟨b1, trivial, rfl, hw⟩

set_option maxRecDepth 20000 in
theorem values_seq (l : List Int) (p : Option Addr) (c b : Nat) (hn : l.length < 1000000000000) :
  SeqC Try.prog 91 [.pointer (some ⟨b, 0, none⟩)] (valCap l p c b) (l.map intC) := by
  intro l0 J Jx w r hCap hyl hJ hi0 hf0
  have hs0 : SlSome p l.length := (hCap _ _ _ hJ hi0).2.some
  refine enterO (vs := [_, _]) (env := [(0, _), (1, _)]) (St.one hi0 hf0) Try.func91 rfl rfl rfl rfl ?_
  refine VC.seq ?_
  refine VC.reg (VO.l (LO.ld O55 (.r rfl) (fun _ hw => sub_cells (off := 0) (hCap _ _ _ hJ (St.inv hw 0 _ rfl)).1 ⟨_, rfl⟩)) rfl <| VO.l (LO.len S55 (.r rfl) rfl) rfl <| VO.l (LO.mv (.r rfl)) rfl <| VO.nil ?_)
  refine VE.seqN ?_
  refine VC.block ?_
  refine VC.loopK (α := Nat × Res) 1 (fun x => [(7, .int .i64 (x.1 : Nat))]) [(0, _), (5, _), (6, _)] (fun x => [x.2]) (fun x => x.1 ≤ l.length ∧ J x.1 x.2) (fun x => l.length - x.1) (0, r) (by exact ⟨by omega, hJ⟩) (.cons rfl (.cons rfl (.cons rfl (.cons rfl .nil)))) (fun _ h => h) ?_
  rintro ⟨i, r⟩ ⟨hi, hJ⟩
  show VC _ _ _ _ _ ([(7, .int .i64 (i : Nat))] ++ _) ([r] ++ _) _ _
  refine VC.seq ?_
  refine VC.reg (VO.l (LO.lt (.r rfl) (.r rfl)) rfl <| VO.nil ?_)
  refine VE.seqN ?_
  refine VC.seq ?_
  refine VC.cond rfl (fun h1 => ?_) (fun h1 => ?_)
  ·
    refine VC.skip (VE.seqN ?_)
    refine VC.seq ?_
    refine VC.block ?_
    refine VC.seq ?_
    refine VC.reg (VO.l (LO.ixs S55 N3 hs0 (.r rfl) (.r rfl) rfl (by omega)) rfl <| VO.l (LO.ld O3 (.r rfl) (fun w hw => ints_here (hCap _ _ _ hJ (St.inv hw 0 _ rfl)).2 (j := i) (by omega))) rfl <| VO.l (LO.as (.r rfl)) rfl <| VO.nil ?_)
    refine VE.seqN ?_
    refine VC.seq ?_
    refine VC.reg (VO.l (LO.mv (.r rfl)) rfl <| VO.l (LO.mv (.r rfl)) rfl <| VO.h rfl <| HO.yield 0 (r := r) (vs := [_]) (post := fun b r' => if b = true then J (i + 1) r' else Jx (i + 1) r') (.r rfl) ⟨.r rfl, trivial⟩ rfl (fun w2 hi hr hs => hyl i _ (by rw [List.getElem?_map, getD_some (show i < l.length by omega)]; rfl) r w2 hJ hi hr hs) fun b1 r1 hp => VO.h rfl <| HO.lo (LO.not (.r rfl)) <| VO.nil ?_)
    refine VE.seqN ?_
    refine VC.cond rfl (fun h4 => ?_) (fun h4 => ?_)
    ·
      rw [if_neg h4] at hp
      have hE : J (l.map intC).length r1 ∨ ∃ n, n ≤ (l.map intC).length ∧ Jx n r1 := .inr ⟨i + 1, by rw [List.length_map]; omega, hp⟩
      refine VC.ret (VE.inR (VE.thenR (VE.thenR (VE.inR (VE.res (vs := []) rfl trivial (fun w hw => ?_))))))
      exact ⟨rfl, seq_end hE hw⟩
    ·
      rw [if_pos (by simpa using h4)] at hp
      refine VC.skip (VE.inN (VE.seqN ?_))
      refine VC.reg (VO.l (LO.add (.r rfl) (.r rfl) (wi (by omega) (by omega))) rfl <| VO.l (LO.mv (.r rfl)) rfl <| VO.nil ?_)
      refine VE.thenN fun a w ha hw => ⟨(i + 1, r1), ⟨by omega, hp⟩, by omega, ha.sub (.cons rfl (.cons rfl (.cons rfl (.cons rfl .nil)))), hw⟩
  ·
    have hE : J (l.map intC).length r ∨ ∃ n, n ≤ (l.map intC).length ∧ Jx n r := .inl (by rw [List.length_map, show l.length = i by omega]; exact hJ)
    refine VC.exit (VE.thenX (VE.thenX (VE.inX (VE.resN (vs := []) rfl trivial (fun w hw => ?_)))))
    exact ⟨rfl, seq_end hE hw⟩

set_option maxRecDepth 20000 in
theorem appendSeq_c (gf : FuncId) (lb : List Value) (Cap : World → Prop) (xs : List Int) (w : World) (hf : IsFn Try.prog gf) (hseq : SeqC Try.prog gf lb Cap (xs.map intC)) (hC : ∀ w' : World, (∀ k, k < w.heap.size → w'.heap[k]? = w.heap[k]?) → Cap w') (hn : xs.length < 1000000000) :
  Calls Try.prog 95 #[.slice none 0 0, .func (.func gf) #[] lb.toArray] w fun e w' => ∃ x : Option Addr × Nat, True ∧ e = .returned (.slice x.1 (xs).length x.2) ∧ St (bs w) [own 3 1 x.1 x.2 ((xs).map intC)] w' := by
  refine enter (vs := [_, _]) (env := [(0, _), (1, _)]) Try.func95 rfl rfl rfl rfl ?_
  refine VC.seq ?_
  refine VC.reg (VO.h rfl <| HO.box (C := #[_]) rfl rfl fun b1 => VO.l (LO.as (.r rfl)) rfl <| VO.nil ?_)
  refine VE.seqN ?_
  refine VC.seq ?_
  refine VC.seq ?_
  refine VC.reg (VO.l (LO.mv (.r rfl)) rfl <| VO.nil ?_)
  refine VE.seqN ?_
  refine VC.block ?_
  refine VC.rangeFuncF (α := Nat × Option Addr × Nat) (fun x => [own 3 1 x.2.1 x.2.2 ((xs.take x.1).map intC), blk b1 (.cells #[.slice x.2.1 x.1 x.2.2] 55)]) (fun n x => x.1 = n ∧ n ≤ xs.length) (fun c n x => False) (0, none, 0) (fun vs => [(5, vs.getD 0 (.bool false)), (2, .pointer (some ⟨b1, 0, none⟩))]) rfl hf hseq (fun _ h => h.ownNil 3 1) (⟨rfl, by omega⟩) (fun vs hv => by obtain ⟨n, _, rfl⟩ := List.mem_map.1 hv; rfl) (by decide) (fun n x w2 _ _ hfr => hC w2 (fun k hk => hfr k hk (fun q => q))) ?_ ?_ ?_ ?_
  ·
    intro n x vs l T w1 hI hxs hst
    obtain ⟨v, rfl, hv⟩ := row_of hxs
    obtain ⟨xn, xp, xc⟩ := x
    obtain ⟨hxn, hle⟩ := hI
    dsimp only at hxn
    subst hxn
    have hlt : xn < xs.length := (List.getElem?_eq_some_iff.1 hv).1
    refine VC.reg (VO.l (LO.as (.r rfl)) rfl <| VO.nil ?_)
    exact fun a w ha hw => ⟨rfl, ha.sub (.cons rfl (.cons rfl .nil)), hw⟩
  ·
    intro n x vs l T w1 hI hxs hst
    obtain ⟨v, rfl, hv⟩ := row_of hxs
    obtain ⟨xn, xp, xc⟩ := x
    obtain ⟨hxn, hle⟩ := hI
    dsimp only at hxn
    subst hxn
    have hlt : xn < xs.length := (List.getElem?_eq_some_iff.1 hv).1
    refine VC.block ?_
    refine VC.reg (VO.l (LO.ld O55 (.r rfl) (fun _ hw => cells_at hw 1 rfl ⟨_, rfl⟩)) rfl <| VO.l (LO.mv (.r rfl)) rfl <| VO.h rfl <| HO.bs (ps := [(_, _)]) (vs := [(_, _)]) (Z := [_]) (C := [_]) S55 Z3 N3 ⟨(.r rfl), trivial⟩ rfl rfl rfl rfl ⟨_, [_], [_], rfl, rfl, rfl, rfl, rfl⟩ fun b11 => VO.h rfl <| HO.appT (v) 1 0 (fun R => [_, R, _] ++ T) S55 S55 I3 (.r rfl) (.r rfl) rfl rfl rfl rfl rfl rfl rfl (fun _ => rfl) (by simp; omega) (by simp; omega) fun p3 c3 => VO.h0 <| HO.st 2 (vs := [_]) (C' := [_]) N55 rfl rfl rfl rfl rfl rfl rfl rfl <| VO.nil ?_)
    refine VE.inN ?_
    exact fun a w ha hw => ⟨(xn + 1, p3, c3), ⟨rfl, by omega⟩, by have h2 := hw.tl; rw [← take_at hv, show (xs.take (xn + 1)).length = xn + 1 by simp; omega] at h2; exact h2⟩
  ·
    intro D x hI
    obtain ⟨xn, xp, xc⟩ := x
    obtain ⟨hxn, hle⟩ := hI
    have hxn : xn = xs.length := by simpa using hxn
    subst hxn
    refine VE.inN (VE.seqN ?_)
    refine VC.seq ?_
    refine VC.reg (VO.l (LO.ld O55 (.r rfl) (fun _ hw => cells_at hw 1 rfl ⟨_, rfl⟩)) rfl <| VO.l (LO.as (.r rfl)) rfl <| VO.nil ?_)
    refine VE.seqN ?_
    refine VC.ret (VE.resD 2 (vs := [_]) rfl rfl rfl ⟨rfl, trivial⟩ (fun w hw => ?_))
    exact ⟨(xp, xc), trivial, rfl, by have h2 := hw.sel [0] rfl; rw [← List.take_length (l := xs)]; exact h2⟩
  ·
    intro D c n x hn hI
    exact hI.elim

set_option maxRecDepth 20000 in
theorem collect_c (gf : FuncId) (lb : List Value) (Cap : World → Prop) (xs : List Int) (w : World) (hf : IsFn Try.prog gf) (hseq : SeqC Try.prog gf lb Cap (xs.map intC)) (hC : ∀ w' : World, (∀ k, k < w.heap.size → w'.heap[k]? = w.heap[k]?) → Cap w') (hn : xs.length < 1000000000) :
  Calls Try.prog 89 #[.func (.func gf) #[] lb.toArray] w fun e w' => ∃ x : Option Addr × Nat, True ∧ e = .returned (.slice x.1 (xs).length x.2) ∧ St (bs w) [own 3 1 x.1 x.2 ((xs).map intC)] w' := by
  refine enter (vs := [_]) (env := [(0, _)]) Try.func89 rfl rfl rfl rfl ?_
  refine VC.seq ?_
  refine VC.reg (VO.l (LO.as (.r rfl)) rfl <| VO.nil ?_)
  refine VE.seqN ?_
  refine VC.seq ?_
  refine VC.reg (VO.l (LO.mv (.r rfl)) rfl <| VO.h rfl <| HO.callx (xs := [_, _]) (vs := [_, _]) C95 ⟨(.r rfl), (.r rfl), trivial⟩ (fun w hw => appendSeq_c gf lb Cap xs w hf hseq (fun w2 h2 => hC w2 (fun k hk => (h2 k (Nat.lt_of_lt_of_le hk hw.size)).trans (hw.fr k hk (fun q => q)))) hn) fun x _ => VO.h rfl <| HO.lo (LO.as (.r rfl)) <| VO.nil ?_)
  refine VE.seqN ?_
  refine VC.ret (VE.res (vs := [_]) rfl ⟨rfl, trivial⟩ (fun w hw => ?_))
  exact ⟨x, trivial, rfl, hw⟩

set_option maxRecDepth 20000 in
theorem sorted_c (gf : FuncId) (lb : List Value) (Cap : World → Prop) (xs : List Int) (w : World) (hf : IsFn Try.prog gf) (hseq : SeqC Try.prog gf lb Cap (xs.map intC)) (hC : ∀ w' : World, (∀ k, k < w.heap.size → w'.heap[k]? = w.heap[k]?) → Cap w') (hn : xs.length < 1000000000) :
  Calls Try.prog 83 #[.func (.func gf) #[] lb.toArray] w fun e w' => ∃ x : Option Addr × Nat, True ∧ e = .returned (.slice x.1 (sortL xs).length x.2) ∧ St (bs w) [own 3 1 x.1 x.2 ((sortL xs).map intC)] w' := by
  refine enter (vs := [_]) (env := [(0, _)]) Try.func83 rfl rfl rfl rfl ?_
  refine VC.seq ?_
  refine VC.reg (VO.l (LO.as (.r rfl)) rfl <| VO.nil ?_)
  refine VE.seqN ?_
  refine VC.seq ?_
  refine VC.reg (VO.l (LO.mv (.r rfl)) rfl <| VO.h rfl <| HO.callx (xs := [_]) (vs := [_]) C89 ⟨(.r rfl), trivial⟩ (fun w hw => collect_c gf lb Cap xs w hf hseq (fun w2 h2 => hC w2 (fun k hk => (h2 k (Nat.lt_of_lt_of_le hk hw.size)).trans (hw.fr k hk (fun q => q)))) hn) fun x _ => VO.h rfl <| HO.lo (LO.as (.r rfl)) <| VO.nil ?_)
  refine VE.seqN ?_
  refine VC.seq ?_
  refine VC.reg (VO.l (LO.mv (.r rfl)) rfl <| VO.h rfl <| HO.callh (first := []) (cap := []) (xs := [_]) (vs := [_]) 0 (fun R => [R]) rfl (.r rfl) C90 ⟨(.r rfl), trivial⟩ (fun _ => rfl) (fun w hw => Sort_h 0 hw rfl (by omega)) fun _ _ => VO.nil ?_)
  refine VE.seqN ?_
  refine VC.seq ?_
  refine VC.reg (VO.l (LO.mv (.r rfl)) rfl <| VO.l (LO.as (.r rfl)) rfl <| VO.nil ?_)
  refine VE.seqN ?_
  refine VC.ret (VE.res (vs := [_]) rfl ⟨rfl, trivial⟩ (fun w hw => ?_))
  exact ⟨x, trivial, by rw [sortL_len]; rfl, hw⟩

end Go.Proofs.Ytcnlhifkablmkaa
