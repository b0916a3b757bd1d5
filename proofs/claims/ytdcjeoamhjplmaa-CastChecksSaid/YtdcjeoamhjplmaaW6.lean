/-
  Small functions of states, and the sets of several clouds.
-/
import Derived.Test.YtdcjeoamhjplmaaW5
namespace Go.Proofs.Ytdcjeoamhjplmaa
open Go.SL Go.Proofs Go.Cast
set_option linter.unusedVariables false



/-- The sets of several clouds, which nothing writes any more. -/
def setsR (qs : List (Nat × Nat)) (l : List Cloud) : Res where
  fp := fun k => ∃ q, q ∈ qs ∧ (k = q.1 ∨ k = q.2)
  inv := fun w => ∀ (i : Nat) (q : Nat × Nat) (c : Cloud), qs[i]? = some q → l[i]? = some c → (setR q.1 (memB c.sure)).inv w ∧ (setR q.2 (memB c.may)).inv w
  loc := fun {w w'} h hi i q c hq hc => ⟨(setR q.1 _).loc (fun k hk => h k ⟨q, List.mem_of_getElem? hq, .inl hk⟩) (hi i q c hq hc).1, (setR q.2 _).loc (fun k hk => h k ⟨q, List.mem_of_getElem? hq, .inr hk⟩) (hi i q c hq hc).2⟩

/-- Three resources become one. -/
theorem St.merge3 {β : Bs} {L : List Res} {w : World} {r s u t : Res} (h : St β (r :: s :: u :: L) w) (hfp : ∀ k, t.fp k → r.fp k ∨ s.fp k ∨ u.fp k) (hinv : r.inv w → s.inv w → u.inv w → t.inv w) : St β (t :: L) w := by
  refine ⟨h.os, h.tape, h.output, h.size, h.fr, ?_, ?_, ?_⟩
  · intro i x hx
    cases i with
    | zero => simp at hx; subst hx; exact hinv (h.inv 0 _ rfl) (h.inv 1 _ rfl) (h.inv 2 _ rfl)
    | succ i => exact h.inv (i + 3) x (by simpa using hx)
  · intro i x hx k hk
    cases i with
    | zero =>
      simp at hx; subst hx
      rcases hfp k hk with q | q | q
      · exact h.rng 0 _ rfl k q
      · exact h.rng 1 _ rfl k q
      · exact h.rng 2 _ rfl k q
    | succ i => exact h.rng (i + 3) x (by simpa using hx) k hk
  · intro i j x y hij hx hy k hk
    cases i with
    | zero =>
      simp at hx; subst hx
      cases j with
      | zero => exact absurd rfl hij
      | succ j =>
        have hy' : (r :: s :: u :: L)[j + 3]? = some y := by simpa using hy
        rcases hfp k hk with q | q | q
        · exact h.dis 0 (j + 3) _ _ (by omega) rfl hy' k q
        · exact h.dis 1 (j + 3) _ _ (by omega) rfl hy' k q
        · exact h.dis 2 (j + 3) _ _ (by omega) rfl hy' k q
    | succ i =>
      have hx' : (r :: s :: u :: L)[i + 3]? = some x := by simpa using hx
      cases j with
      | zero =>
        simp at hy; subst hy
        intro hk2
        rcases hfp k hk2 with q | q | q
        · exact h.dis 0 (i + 3) _ _ (by omega) rfl hx' k q hk
        · exact h.dis 1 (i + 3) _ _ (by omega) rfl hx' k q hk
        · exact h.dis 2 (i + 3) _ _ (by omega) rfl hx' k q hk
      | succ j => exact h.dis (i + 3) (j + 3) x y (by omega) hx' (by simpa using hy) k hk

theorem sets_add {β : Bs} {L : List Res} {w : World} {qs : List (Nat × Nat)} {l : List Cloud} {a b : Nat} {c : Cloud} (hl : qs.length = l.length) (h : St β (setR b (memB c.may) :: setR a (memB c.sure) :: setsR qs l :: L) w) : St β (setsR (qs ++ [(a, b)]) (l ++ [c]) :: L) w := by
  refine St.merge3 h ?_ ?_
  · rintro k ⟨q, hq, hk⟩
    rcases List.mem_append.1 hq with hq | hq
    · exact .inr (.inr ⟨q, hq, hk⟩)
    · simp at hq; subst hq
      rcases hk with hk | hk
      · exact .inr (.inl hk)
      · exact .inl hk
  · intro hb ha hs i q d hq hd
    rcases Nat.lt_or_ge i qs.length with g | g
    · rw [List.getElem?_append_left g] at hq
      rw [List.getElem?_append_left (by omega)] at hd
      exact hs i q d hq hd
    · rw [List.getElem?_append_right g] at hq
      rw [List.getElem?_append_right (by omega), ← hl] at hd
      cases e : i - qs.length with
      | zero => rw [e] at hq hd; simp at hq hd; subst hq; subst hd; exact ⟨ha, hb⟩
      | succ n => rw [e] at hq; simp at hq

set_option maxRecDepth 20000 in
theorem or_c (m n : Int) (w : World) :
  Calls Try.prog 53 #[.int .i64 m, .int .i64 n] w fun e w' => e = .returned (.int .i64 (max m n)) ∧ St (bs w) [] w' := by
  refine enter (vs := [_, _]) (env := [(0, _), (1, _)]) Try.func53 rfl rfl rfl rfl ?_
  refine VC.seq ?_
  refine VC.reg (VO.l (LO.as (.r rfl)) rfl <| VO.nil ?_)
  refine VE.seqN ?_
  refine VC.seq ?_
  refine VC.reg (VO.l (LO.mv (.r rfl)) rfl <| VO.l (LO.mv (.r rfl)) rfl <| VO.l (LO.max (.r rfl) (.r rfl)) rfl <| VO.l (LO.as (.r rfl)) rfl <| VO.nil ?_)
  refine VE.seqN ?_
  refine VC.ret (VE.res (vs := [_]) rfl ⟨rfl, trivial⟩ (fun w hw => ?_))
  exact ⟨rfl, hw.nil⟩

set_option maxRecDepth 20000 in
theorem number_c (m : Int) (w : World) :
  Calls Try.prog 55 #[.int .i64 m] w fun e w' => e = .returned (.int .i64 m) ∧ St (bs w) [] w' := by
  refine enter (vs := [_]) (env := [(0, _)]) Try.func55 rfl rfl rfl rfl ?_
  refine VC.seq ?_
  refine VC.reg (VO.l (LO.as (.r rfl)) rfl <| VO.nil ?_)
  refine VE.seqN ?_
  refine VC.seq ?_
  refine VC.reg (VO.l (LO.mv (.r rfl)) rfl <| VO.l (LO.as (.r rfl)) rfl <| VO.nil ?_)
  refine VE.seqN ?_
  refine VC.ret (VE.res (vs := [_]) rfl ⟨rfl, trivial⟩ (fun w hw => ?_))
  exact ⟨rfl, hw.nil⟩

end Go.Proofs.Ytdcjeoamhjplmaa
