/-
  PulseFolds holds: one fold more is a speed of the fold more, and a narrower span has a narrower speed. No condition.
-/
import Derived.Test.YtcnlhifkablmkaaWF
import Derived.Test.YtcnlhifkablmkaaR2
import Derived.Test.YtcnlhifkablmkaaRows
namespace Go.Proofs.Ytcnlhifkablmkaa.pulseFolds
open Go.SL Go.Proofs Go.Pulse Go.ChangeShapes Go.WideShapes Go.ChangeAt Go.RowKit
set_option linter.unusedVariables false

theorem noKnob : ownKnob Try.prog.godebug = none := by kernel_rfl
theorem laid : laidOutB Try.prog = true := by kernel_rfl
theorem readable : ∀ t, t ∈ Try.f12.params.toList → Try.prog.readableRec t = true ∧ t < Try.prog.types.size := by
  rw [Try.params12]
  intro t ht
  have : t = 23 ∨ t = 4 ∨ t = 25 ∨ t = 88 ∨ t = 60 ∨ t = 60 := by simpa using ht
  rcases this with rfl | rfl | rfl | rfl | rfl | rfl
  all_goals exact ⟨by kernel_rfl, of_decide_eq_true (by kernel_rfl)⟩
set_option maxRecDepth 100000 in
theorem contract (H : Type) (enc : TypeId × Value → H) (W : World) (base : Nat) (args : Array Value) (ds gs : List (DataW H)) (before : List MemPlace)
    (hval : ∀ (j : Nat) t v, Try.f12.params[j]? = some t → args[j]? = some v → Value.okWide Try.prog W .any base t v)
    (hW : DataW.Whole enc Try.prog Try.f12.params.toList Rows.pulseFoldsSpec.vars false W args.toList ds gs before) :
    Calls Try.prog 12 args W fun e W' => ∃ v, e = .returned v ∧ Rows.pulseFoldsSpec.post enc Try.prog Try.f12 false true false false W args v W' := by
  have hW1 := hW
  obtain ⟨p, q, hA, _⟩ := hW
  rw [Try.params12] at hA hval
  obtain ⟨v0, vs0, d0, ds0, p0, q0, hargs, rfl, rfl, h0, r0⟩ := trodAll_cons hA
  obtain ⟨v1, vs1, d1, ds1, p1, q1, rfl, rfl, rfl, h1, r1⟩ := trodAll_cons r0
  obtain ⟨v2, vs2, d2, ds2, p2, q2, rfl, rfl, rfl, h2, r2⟩ := trodAll_cons r1
  obtain ⟨v3, vs3, d3, ds3, p3, q3, rfl, rfl, rfl, h3, r3⟩ := trodAll_cons r2
  obtain ⟨v4, vs4, d4, ds4, p4, q4, rfl, rfl, rfl, h4, r4⟩ := trodAll_cons r3
  obtain ⟨v5, vs5, d5, ds5, p5, q5, rfl, rfl, rfl, h5, r5⟩ := trodAll_cons r4
  obtain ⟨rfl, rfl, rfl⟩ := trodAll_nil r5
  obtain rfl : args = #[v0, v1, v2, v3, v4, v5] := by cases args; simp_all
  obtain ⟨_, rfl, t, rfl⟩ := arg_agg (base := base) Try.underlying23 (hval 0 23 v0 rfl rfl) h0 rd23
  obtain ⟨sec, hv1⟩ := arg_one (base := base) (fun fs h => by rw [Try.underlying4] at h; cases h) (fun n e h => by rw [Try.underlying4] at h; cases h) (hval 1 4 v1 rfl rfl) h1 rd4
  cases hv1
  obtain ⟨_, rfl, s, rfl, hs1, hs2⟩ := arg_agg (base := base) Try.underlying25 (hval 2 25 v2 rfl rfl) h2 rd25
  obtain ⟨wb, hv3, hwb⟩ := arg_one (base := base) (fun fs h => by rw [Try.underlying88] at h; cases h) (fun n e h => by rw [Try.underlying88] at h; cases h) (hval 3 88 v3 rfl rfl) h3 rd88
  cases hv3
  obtain ⟨lo, hv4, hlo⟩ := arg_one (base := base) (fun fs h => by rw [Try.underlying60] at h; cases h) (fun n e h => by rw [Try.underlying60] at h; cases h) (hval 4 60 v4 rfl rfl) h4 rd60
  cases hv4
  obtain ⟨hi, hv5, hhi⟩ := arg_one (base := base) (fun fs h => by rw [Try.underlying60] at h; cases h) (fun n e h => by rw [Try.underlying60] at h; cases h) (hval 5 60 v5 rfl rfl) h5 rd60
  cases hv5
  exact (PulseFolds_c t sec s wb lo hi W (kb_i8 hwb).1 (kb_i8 hwb).2 (kb_u32 hlo).1 (kb_u32 hlo).2 (kb_u32 hhi).1 (kb_u32 hhi).2).mono fun e W' ⟨he, hs⟩ => ⟨_, he, law_post laid readable rfl rfl Try.underlying4 (fun ds hd => by
    rw [Try.params12] at hd
    match ds, hd with
    | [e0, e1, e2, e3, e4, e5], _ => rfl) hW1 hs⟩
set_option maxRecDepth 100000 in
theorem lifted (os : Os) (started : os.Started) (H : Type) (enc : TypeId × Value → H) :
    ReturnsInHanded {} Try.checked os 12 .any (Rows.pulseFoldsSpec.pre6 enc Try.prog Try.f12 Rows.pulseFoldsRow.domain false) (Rows.pulseFoldsSpec.post enc Try.prog Try.f12 false true false false) := by
  refine returnsInHanded_of_change (C := Try.checked) noKnob started (by kernel_rfl) Try.func12
    (ChangeSpec.witness6 (enc := enc) (C := Try.checked) false ⟨#[], #[.agg #[.int .i64 0, .int .i64 0, .int .i64 0, .int .i64 0, .int .i64 0], .bool false, .agg #[.int .i64 0, .int .i64 0], .int .i8 0, .int .u32 0, .int .u32 0], []⟩ 12 (by kernel_rfl) (by kernel_rfl) (by kernel_rfl) (by kernel_rfl)) ?_
  intro W base args ds gs before hval hW _ _
  exact contract H enc W base args ds gs before hval hW
theorem over : Rows.pulseFoldsRow.holds Try.pinned (OpenSpec.ofChange Rows.pulseFoldsSpec) :=
  OpenClaim.holds_of_wide 12 Try.f12 rfl rfl rfl rfl rfl rfl rfl ⟨rfl, rfl, rfl, rfl, rfl⟩ rfl rfl rfl rfl rfl (by kernel_rfl) Try.func12 (by kernel_rfl)
    (of_decide_eq_true (by kernel_rfl)) (by unfold Func.isWrapper; first | (rw [if_pos (by decide +kernel)]; kernel_rfl) | (rw [if_neg (by decide +kernel)]; exact ⟨rfl, rfl⟩))
    (fun os started H enc _ => lifted os started H enc)
theorem proved : Rows.PulseFoldsSaid :=
  over
#print axioms proved
end Go.Proofs.Ytcnlhifkablmkaa.pulseFolds
