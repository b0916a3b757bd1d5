/-
  IssueRuns holds: offices answer as stated, whatever steps and notes come. No condition.
-/
import Derived.Test.YtdjflomhaljljaaGreatKKRUN09
import Derived.Test.YtdjflomhaljljaaGreatRows

namespace Go.Proofs.YtdjflomhaljljaaGreat.issueRuns
open Go.SL Go.Proofs Go.Cast Go.ChangeShapes Go.WideShapes Go.ChangeAt Go.RowKit
set_option linter.unusedVariables false

theorem noKnob : ownKnob Tryz.prog.godebug = none := by kernel_rfl
theorem laid : laidOutB Tryz.prog = true := by kernel_rfl
theorem readable : ∀ t, t ∈ Tryz.f3.params.toList → Tryz.prog.readableRec t = true ∧ t < Tryz.prog.types.size := by
  rw [Tryz.params3]
  intro t ht
  have : t = 28 ∨ t = 29 ∨ t = 3 := by simpa using ht
  rcases this with rfl | rfl | rfl
  all_goals exact ⟨by kernel_rfl, of_decide_eq_true (by kernel_rfl)⟩
set_option maxRecDepth 100000 in
theorem contract (H : Type) (enc : TypeId × Value → H) (W : World) (base : Nat) (args : Array Value) (ds gs : List (DataW H)) (before : List MemPlace)
    (hval : ∀ (j : Nat) t v, Tryz.f3.params[j]? = some t → args[j]? = some v → Value.okWide Tryz.prog W .any base t v)
    (hW : DataW.Whole enc Tryz.prog Tryz.f3.params.toList Rows.issueRunsSpec.vars false W args.toList ds gs before) :
    Calls Tryz.prog 3 args W fun e W' => ∃ v, e = .returned v ∧ Rows.issueRunsSpec.post enc Tryz.prog Tryz.f3 false true false false W args v W' := by
  have hW1 := hW
  obtain ⟨p, q, hA,_⟩ := hW
  rw [Tryz.params3] at hA hval
  obtain ⟨v0, vs0, d0, ds0, p0, q0, hargs, rfl, rfl, h0, r0⟩ := trodAll_cons hA
  obtain ⟨v1, vs1, d1, ds1, p1, q1, rfl, rfl, rfl, h1, r1⟩ := trodAll_cons r0
  obtain ⟨v2, vs2, d2, ds2, p2, q2, rfl, rfl, rfl, h2, r2⟩ := trodAll_cons r1
  obtain ⟨rfl, rfl, rfl⟩ := trodAll_nil r2
  obtain rfl : args = #[v0, v1, v2] := by cases args; simp_all
  obtain ⟨_, rfl, g, pl, cl, l, a, b, d, rfl, hl⟩ := arg_agg (base := base) Tryz.underlying28 (hval 0 28 v0 rfl rfl) h0 rd28
  obtain ⟨pe, ce, le, hv1, hle⟩ := arg_one (base := base) (fun fs h => by rw [Tryz.underlying29] at h; cases h) (fun n e h => by rw [Tryz.underlying29] at h; cases h) (hval 1 29 v1 rfl rfl) h1 rdLog
  cases hv1
  obtain ⟨T, hv2,_⟩ := arg_one (base := base) (fun fs h => by rw [Tryz.underlying3] at h; cases h) (fun n e h => by rw [Tryz.underlying3] at h; cases h) (hval 2 3 v2 rfl rfl) h2 rd3
  cases hv2
  exact (IssueRuns_c g l pl cl a b d le pe ce T W hl hle).mono fun e W' ⟨he, hs⟩ => ⟨_, he, law_post laid readable rfl rfl Tryz.underlying4 (fun ds hd => by
    rw [Tryz.params3] at hd
    match ds, hd with
    | [e0, e1, e2],_ => rfl) hW1 hs⟩
set_option maxRecDepth 100000 in
theorem lifted (os : Os) (started : os.Started) (H : Type) (enc : TypeId × Value → H) :
    ReturnsInHanded {} Tryz.checked os 3 .any (Rows.issueRunsSpec.pre6 enc Tryz.prog Tryz.f3 Rows.issueRunsRow.domain false) (Rows.issueRunsSpec.post enc Tryz.prog Tryz.f3 false true false false) := by
  refine returnsInHanded_of_change (C := Tryz.checked) noKnob started (by kernel_rfl) Tryz.func3
    (ChangeSpec.witness6 (enc := enc) (C := Tryz.checked) false ⟨#[], #[.agg #[.int .i64 0, .int .i64 0, .int .i64 0, .int .i64 0, .int .i64 0, .slice none 0 0, .int .i64 0, .int .i64 0, .int .i64 0], .slice none 0 0, .int .i64 0], []⟩ 12 (by kernel_rfl) (by kernel_rfl) (by kernel_rfl) (by kernel_rfl)) ?_
  intro W base args ds gs before hval hW _ _
  exact contract H enc W base args ds gs before hval hW
theorem over : Rows.issueRunsRow.holds Tryz.pinned (OpenSpec.ofChange Rows.issueRunsSpec) :=
  OpenClaim.holds_of_wide 3 Tryz.f3 rfl rfl rfl rfl rfl rfl rfl ⟨rfl, rfl, rfl, rfl, rfl⟩ rfl rfl rfl rfl rfl (by kernel_rfl) Tryz.func3 (by kernel_rfl)
    (of_decide_eq_true (by kernel_rfl)) (by unfold Func.isWrapper; first | (rw [if_pos (by decide +kernel)]; kernel_rfl) | (rw [if_neg (by decide +kernel)]; exact ⟨rfl, rfl⟩))
    (fun os started H enc _ => lifted os started H enc)
theorem proved : Rows.IssueRunsSaid :=
  over
#print axioms proved
end Go.Proofs.YtdjflomhaljljaaGreat.issueRuns
