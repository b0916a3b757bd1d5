/-
  Numbers of spans, and clouds that are known better.
-/
import Derived.Test.YtdcjeoamhjplmaaWH
namespace Go.Proofs.Ytdcjeoamhjplmaa
open Go.SL Go.Proofs Go.Cast
set_option linter.unusedVariables false

theorem C27 : IsFn Try.prog 27 := ⟨_, Try.func27, by decide, rfl⟩


def pickI (lo hi n : Int) : Int := lo + n.tmod (hi - lo + 1)
theorem pick_bd {lo hi n : Int} (h : lo ≤ hi) (hn : 0 ≤ n) : lo ≤ pickI lo hi n ∧ pickI lo hi n ≤ hi := by
  have := tmod_pos hn (n := hi - lo + 1) (by omega); unfold pickI; omega
theorem cloudsTwo {w : World} {x y : CP} {s : Nat} (h : Cells w ⟨s, 0, none⟩ (x.cells ++ y.cells)) (h1 : Ints w x.ps x.c.sure ∧ Ints w x.pm x.c.may ∧ x.c.sure.length < 1000000000000 ∧ x.c.may.length < 1000000000000) (h2 : Ints w y.ps y.c.sure ∧ Ints w y.pm y.c.may ∧ y.c.sure.length < 1000000000000 ∧ y.c.may.length < 1000000000000) : Clouds w (some ⟨s, 0, none⟩) [x, y] := by
  refine ⟨⟨?_, fun q => (by cases q), fun _ a q => (by cases q; rfl)⟩, ?_⟩
  · intro j r hr
    match j with
    | 0 => cases hr; simpa [pb, po] using cells_part (off := 0) h ⟨y.cells, rfl⟩
    | 1 => cases hr; simpa [pb, po] using cells_part (off := 7) h ⟨[], by simp [CP.cells]⟩
    | j + 2 => cases hr
  · intro z hz
    simp only [List.mem_cons, List.mem_nil_iff, or_false] at hz
    rcases hz with rfl | rfl
    · exact h1
    · exact h2
/-! ### What narrower clouds do -/
section
variable {g : Grid} {c b : Cloud} {p t : Int}
theorem come_lo {lo lo' grow grow' : Int} (h : lo ≤ lo') (hg : grow' ≤ grow) (ht : 0 ≤ t) : comeLo lo grow t ≤ comeLo lo' grow' t := by
  have : (lo - grow) * t ≤ (lo' - grow') * t := Int.mul_le_mul_of_nonneg_right (by omega) ht
  unfold comeLo; omega
theorem come_hi {hi hi' grow grow' : Int} (h : hi' ≤ hi) (hg : grow' ≤ grow) (ht : 0 ≤ t) : comeHi hi' grow' t ≤ comeHi hi grow t := by
  have : (hi' + grow') * t ≤ (hi + grow) * t := Int.mul_le_mul_of_nonneg_right (by omega) ht
  unfold comeHi; omega
/-- A cloud that is known better. -/
structure Nar (c b : Cloud) : Prop where
  fa : c.flow.a ≤ b.flow.a
  fb : b.flow.b ≤ c.flow.b
  fc : c.flow.c ≤ b.flow.c
  fd : b.flow.d ≤ c.flow.d
  gr : b.grow ≤ c.grow
  su : ∀ n, n ∈ c.sure → n ∈ b.sure
  ma : ∀ n, n ∈ b.may → n ∈ c.may
theorem srcs_sub (h : Nar c b) (ht : 0 ≤ t) {q : Int} (hq : q ∈ srcs g b p t) : q ∈ srcs g c p t := by
  have e1 := come_lo h.fa h.gr ht
  have e2 := come_hi h.fb h.gr ht
  have e3 := come_lo h.fc h.gr ht
  have e4 := come_hi h.fd h.gr ht
  rcases mem_srcs.1 hq with ⟨ho, rfl⟩ | ⟨x, y, hx, hy, rfl⟩
  · refine mem_srcs.2 (.inl ⟨?_, rfl⟩)
    unfold sout at ho ⊢
    simp only [Bool.or_eq_true, decide_eq_true_eq] at ho ⊢
    omega
  · refine mem_srcs.2 (.inr ⟨x, y, ?_, ?_, rfl⟩)
    · unfold sx0 sx1 at *; omega
    · unfold sy0 sy1 at *; omega
theorem srcs_ne (hf : flowOk c.flow) (hr : 0 ≤ c.grow) (ht : 0 ≤ t) (hx : 0 ≤ p.tmod g.wide ∧ p.tmod g.wide < g.wide) (hy : 0 ≤ p.tdiv g.wide ∧ p.tdiv g.wide < g.high) : ∃ q, q ∈ srcs g c p t := by
  obtain ⟨⟨_, hfb, _⟩, _, hfe, _⟩ := hf
  have l1 := come_le (c := c) hfb hr ht
  have l2 := come_le (c := c) hfe hr ht
  cases ho : sout g c p t with
  | true => exact ⟨-1, mem_srcs.2 (.inl ⟨ho, rfl⟩)⟩
  | false =>
    unfold sout at ho
    simp only [Bool.or_eq_false_iff, decide_eq_false_iff_not] at ho
    exact ⟨_, mem_srcs.2 (.inr ⟨sx0 g c p t, sy0 g c p t, by unfold sx0 sx1; omega, by unfold sy0 sy1; omega, rfl⟩)⟩
theorem state_2 : stateOf g c p t = 2 ↔ ∀ q, q ∈ srcs g c p t → q ∈ c.sure := by
  unfold stateOf
  split
  · rename_i h; simp only [true_iff]; intro q hq; simpa [memB] using List.all_eq_true.1 h q hq
  · rename_i h
    refine ⟨fun k => by split at k <;> omega, fun k => absurd (List.all_eq_true.2 fun q hq => ?_) h⟩
    simpa [memB] using k q hq
theorem state_0 (hne : ∃ q, q ∈ srcs g c p t) (hsm : ∀ n, n ∈ c.sure → n ∈ c.may) : stateOf g c p t = 0 ↔ ∀ q, q ∈ srcs g c p t → q ∉ c.may := by
  constructor
  · intro h q hq hm
    unfold stateOf at h
    split at h
    · omega
    · rw [if_pos (List.any_eq_true.2 ⟨q, hq, by simpa [memB] using hm⟩)] at h; omega
  · intro k
    obtain ⟨q0, hq0⟩ := hne
    unfold stateOf
    rw [if_neg (fun h => k q0 hq0 (hsm _ (by simpa [memB] using List.all_eq_true.1 h q0 hq0))), if_neg]
    intro h
    obtain ⟨q, hq, hb⟩ := List.any_eq_true.1 h
    exact k q hq (by simpa [memB] using hb)
theorem nar_state (h : Nar c b) (ht : 0 ≤ t) (hne : ∃ q, q ∈ srcs g b p t) (hb : ∀ n, n ∈ b.sure → n ∈ b.may) (hne2 : ∃ q, q ∈ srcs g c p t) (hc : ∀ n, n ∈ c.sure → n ∈ c.may) (h1 : ¬ stateOf g c p t = 1) : stateOf g c p t = stateOf g b p t := by
  rcases stateOf_3 g c p t with e | e | e
  · rw [e]; symm
    rw [state_0 hne hb]
    rw [state_0 hne2 hc] at e
    exact fun q hq hm => e q (srcs_sub h ht hq) (h.ma q hm)
  · exact absurd e h1
  · rw [e]; symm
    rw [state_2] at e ⊢
    exact fun q hq => h.su q (e q (srcs_sub h ht hq))
end
theorem sure_may {g : Grid} {c : Cloud} (h : cloudE g c = 0) : (∀ n, n ∈ c.sure → n ∈ c.may) ∧ (∀ n, n ∈ c.may → 0 ≤ n ∧ n ≤ g.wide * g.high - 1) := by
  unfold cloudE at h
  split at h
  · omega
  · split at h
    · omega
    · split at h
      · omega
      · split at h
        · omega
        · split at h
          · omega
          · rename_i q
            have q := Classical.not_not.1 q
            constructor
            · intro n hn
              obtain ⟨i, hi, e⟩ := List.getElem_of_mem hn
              have := firstE_eq h i hi
              unfold sureE at this
              have e2 : c.sure.getD i 0 = n := by rw [List.getD_eq_getElem?_getD, List.getElem?_eq_getElem hi]; exact e
              rw [e2] at this
              split at this
              · omega
              · split at this
                · omega
                · rename_i r; exact Classical.not_not.1 r
            · intro n hn
              obtain ⟨i, hi, e⟩ := List.getElem_of_mem hn
              have := firstE_eq q i hi
              unfold mayE at this
              have e2 : c.may.getD i 0 = n := by rw [List.getD_eq_getElem?_getD, List.getElem?_eq_getElem hi]; exact e
              rw [e2] at this
              split at this
              · omega
              · rename_i r; exact Classical.not_not.1 r

set_option maxRecDepth 20000 in
theorem has_c (p : Option Addr) (l : List Int) (n : Int) (c : Nat) (w : World) (hn : l.length < 1000000000000) (hl : Ints w p l) :
  Calls Try.prog 22 #[.slice p l.length c, .int .i64 n] w fun e w' => e = .returned (.bool (memB l n)) ∧ St (bs w) [] w' := by
  refine enter (vs := [_, _]) (env := [(0, _), (1, _)]) Try.func22 rfl rfl rfl rfl ?_
  refine VC.seq ?_
  refine VC.reg (VO.l (LO.as (.r rfl)) rfl <| VO.nil ?_)
  refine VE.seqN ?_
  refine VC.seq ?_
  refine VC.seq ?_
  refine VC.reg (VO.l (LO.as (.r rfl)) rfl <| VO.nil ?_)
  refine VE.seqN ?_
  refine VC.block ?_
  refine VC.loopK (α := Nat) 0 (fun gx => [(5, .int .i64 (gx : Nat))]) [(0, _), (1, _)] (fun gx => []) (fun gx => gx ≤ l.length ∧ ∀ k, k < gx → l.getD k 0 ≠ n) (fun gx => l.length - gx) 0 (by exact ⟨by omega, fun k hk => by omega⟩) (.cons rfl (.cons rfl (.cons rfl .nil))) (fun _ h => h) ?_
  rintro j ⟨hj, hz⟩
  refine VC.seq ?_
  refine VC.seq ?_
  refine VC.reg (VO.l (LO.mv (.r rfl)) rfl <| VO.l (LO.mv (.r rfl)) rfl <| VO.l (LO.len S28 (.r rfl) rfl) rfl <| VO.l (LO.lt (.r rfl) (.r rfl)) rfl <| VO.nil ?_)
  refine VE.seqN ?_
  refine VC.cond rfl (fun h1 => ?_) (fun h1 => ?_)
  ·
    refine VC.skip (VE.seqN ?_)
    refine VC.seq ?_
    refine VC.block ?_
    refine VC.seq ?_
    refine VC.reg (VO.l (LO.mv (.r rfl)) rfl <| VO.l (LO.mv (.r rfl)) rfl <| VO.l (LO.ixs S28 N3 hl.some (.r rfl) (.r rfl) rfl (by omega)) rfl <| VO.l (LO.ld O3 (.r rfl) (hl.at (j := j) (by omega))) rfl <| VO.l (LO.mv (.r rfl)) rfl <| VO.l (LO.eq (.r rfl) (.r rfl)) rfl <| VO.nil ?_)
    refine VE.seqN ?_
    refine VC.cond rfl (fun h2 => ?_) (fun h2 => ?_)
    ·
      refine VC.seq ?_
      refine VC.reg (VO.l (LO.as (.r rfl)) rfl <| VO.nil ?_)
      refine VE.seqN ?_
      refine VC.ret (VE.inR (VE.thenR (VE.thenR (VE.inR (VE.thenR (VE.res (vs := [_]) rfl ⟨rfl, trivial⟩ (fun w hw => ?_)))))))
      refine ⟨?_, hw.nil⟩
      simp only [resV]
      congr 2
      first | exact has_yes (by omega) h2 | exact has_no hz (by omega)
    ·
      refine VC.skip (VE.inN (VE.seqN ?_))
      refine VC.reg (VO.l (LO.mv (.r rfl)) rfl <| VO.l (LO.add (.r rfl) (.r rfl) (wi (by omega) (by omega))) rfl <| VO.l (LO.as (.r rfl)) rfl <| VO.nil ?_)
      refine VE.thenN fun a w ha hw => ⟨j + 1, ⟨by omega, step_ne hz (by simpa using h2)⟩, (by omega), ha.sub (.cons rfl (.cons rfl (.cons rfl .nil))), hw⟩
  ·
    refine VC.exit (VE.thenX (VE.thenX (VE.inX (VE.seqN ?_))))
    refine VC.seq ?_
    refine VC.reg (VO.l (LO.as (.r rfl)) rfl <| VO.nil ?_)
    refine VE.seqN ?_
    refine VC.ret (VE.res (vs := [_]) rfl ⟨rfl, trivial⟩ (fun w hw => ?_))
    refine ⟨?_, hw.nil⟩
    simp only [resV]
    congr 2
    first | exact has_yes (by omega) h2 | exact has_no hz (by omega)

set_option maxRecDepth 20000 in
theorem pick_c (lo hi n : Int) (w : World) (h1 : -100000 ≤ lo) (h2 : lo ≤ hi) (h3 : hi ≤ 100000) (h4 : 0 ≤ n) (h5 : n ≤ 4294967295) :
  Calls Try.prog 27 #[.agg #[.int .i64 lo, .int .i64 hi], .int .u32 n] w fun e w' => e = .returned (.int .i64 (pickI lo hi n)) ∧ St (bs w) [] w' := by
  have hp := pick_bd h2 h4
  refine enter (vs := [_, _]) (env := [(0, _), (1, _)]) Try.func27 rfl rfl rfl rfl ?_
  refine VC.seq ?_
  refine VC.reg (VO.h rfl <| HO.box (C := #[_, _]) rfl rfl fun b1 => VO.l (LO.as (.r rfl)) rfl <| VO.nil ?_)
  refine VE.seqN ?_
  refine VC.seq ?_
  refine VC.draw mixed (LL.l (LO.fa (r := 0) F30_0 (.r rfl) rfl) rfl <| LL.l (LO.ld O3 (.r rfl) (fun _ hw => cells_at hw 0 rfl ⟨_, rfl⟩)) rfl <| LL.l (LO.mv (.r rfl)) rfl <| LL.l (LO.cv ⟨_, Try.underlying50⟩ Try.underlying3 (.r rfl) (wi (by omega) (by omega))) rfl <| LL.l (LO.fa (r := 1) F30_1 (.r rfl) rfl) rfl <| LL.l (LO.ld O3 (.r rfl) (fun _ hw => cells_at hw 0 rfl ⟨_, rfl⟩)) rfl <| LL.l (LO.fa (r := 0) F30_0 (.r rfl) rfl) rfl <| LL.l (LO.ld O3 (.r rfl) (fun _ hw => cells_at hw 0 rfl ⟨_, rfl⟩)) rfl <| LL.l (LO.sub (.r rfl) (.r rfl) (wi (by omega) (by omega))) rfl <| LL.l (LO.add (.r rfl) (.r rfl) (wi (by omega) (by omega))) rfl <| LL.l (LO.rem (.r rfl) (.r rfl) (by omega)) rfl <| LL.l (LO.add (.r rfl) (.r rfl) (wi (e := pickI lo hi n) (by omega) (by omega))) rfl <| LL.l (LO.as (.r rfl)) rfl <| LL.nil) (by kernel_rfl) ?_
  refine VE.seqN ?_
  refine VC.ret (VE.res (vs := [_]) rfl ⟨rfl, trivial⟩ (fun w hw => ?_))
  exact ⟨rfl, hw.nil⟩

set_option maxRecDepth 20000 in
theorem inner_c (lo hi m n : Int) (w : World) (h1 : -100000 ≤ lo) (h2 : lo ≤ hi) (h3 : hi ≤ 100000) (h4 : 0 ≤ m) (h5 : m ≤ 4294967295) (h6 : 0 ≤ n) (h7 : n ≤ 4294967295) :
  Calls Try.prog 21 #[.agg #[.int .i64 lo, .int .i64 hi], .int .u32 m, .int .u32 n] w fun e w' => e = .returned (.agg #[.int .i64 (pickI lo hi m), .int .i64 (pickI (pickI lo hi m) hi n)]) ∧ St (bs w) [] w' := by
  have hp := pick_bd h2 h4
  refine enter (vs := [_, _, _]) (env := [(0, _), (1, _), (2, _)]) Try.func21 rfl rfl rfl rfl ?_
  refine VC.seq ?_
  refine VC.reg (VO.h rfl <| HO.box (C := #[_, _]) rfl rfl fun b1 => VO.h rfl <| HO.alloc (C := #[_, _]) Z30 rfl fun b2 => VO.nil ?_)
  refine VE.seqN ?_
  refine VC.seq ?_
  refine VC.reg (VO.l (LO.lda (vs := [_, _]) A30 (.r rfl) (fun _ hw => cells_at hw 1 rfl ⟨_, rfl⟩) rfl) rfl <| VO.l (LO.mv (.r rfl)) rfl <| VO.l (LO.call (xs := [_, _]) (vs := [_, _]) C27 ⟨(.r rfl), (.r rfl), trivial⟩ (fun w _ => pick_c _ _ _ w (by omega) (by omega) (by omega) (by omega) (by omega))) rfl <| VO.l (LO.as (.r rfl)) rfl <| VO.nil ?_)
  refine VE.seqN ?_
  refine VC.seq ?_
  refine VC.reg (VO.l (LO.mv (.r rfl)) rfl <| VO.l (LO.mv (.r rfl)) rfl <| VO.l (LO.fa (r := 1) F30_1 (.r rfl) rfl) rfl <| VO.l (LO.ld O3 (.r rfl) (fun _ hw => cells_at hw 1 rfl ⟨_, rfl⟩)) rfl <| VO.l (LO.bd (ps := [(_, _), (_, _)]) (vs := [(_, _), (_, _)]) (C := [_, _]) B30 ⟨(.r rfl), (.r rfl), trivial⟩ rfl ⟨_, [_], [_, _], rfl, rfl, rfl, rfl, ⟨_, [_], [_, _], rfl, rfl, rfl, rfl, rfl⟩⟩) rfl <| VO.l (LO.mv (.r rfl)) rfl <| VO.l (LO.call (xs := [_, _]) (vs := [_, _]) C27 ⟨(.r rfl), (.r rfl), trivial⟩ (fun w _ => pick_c _ _ _ w (by omega) (by omega) (by omega) (by omega) (by omega))) rfl <| VO.l (LO.bd (ps := [(_, _), (_, _)]) (vs := [(_, _), (_, _)]) (C := [_, _]) B30 ⟨(.r rfl), (.r rfl), trivial⟩ rfl ⟨_, [_], [_, _], rfl, rfl, rfl, rfl, ⟨_, [_], [_, _], rfl, rfl, rfl, rfl, rfl⟩⟩) rfl <| VO.h0 <| HO.st 0 (vs := [_, _]) (C' := [_, _]) (L' := [_, _]) N30 rfl rfl rfl rfl rfl rfl rfl rfl <| VO.nil ?_)
  refine VE.seqN ?_
  refine VC.ret (VE.res (vs := [_]) rfl ⟨RV.agg (vs := [_, _]) A30 rfl (cells_blk 0 rfl ⟨_, rfl⟩) rfl, trivial⟩ (fun w hw => ?_))
  exact ⟨rfl, hw.nil⟩

end Go.Proofs.Ytdcjeoamhjplmaa
