/-
  PulseTurned holds: turned, running and opposite phases are heard as stated. No condition.
-/
import Derived.Test.YtcnlhifkablmkaaWO
import Derived.Test.YtcnlhifkablmkaaR4
import Derived.Test.YtcnlhifkablmkaaRows
namespace Go.Proofs.Ytcnlhifkablmkaa.pulseTurned
open Go.SL Go.Proofs Go.Pulse Go.ChangeShapes Go.WideShapes Go.ChangeAt Go.RowKit
set_option linter.unusedVariables false

theorem noKnob : ownKnob Try.prog.godebug = none := by kernel_rfl
theorem laid : laidOutB Try.prog = true := by kernel_rfl
theorem readable : ∀ t, t ∈ Try.f4.params.toList → Try.prog.readableRec t = true ∧ t < Try.prog.types.size := by
  rw [Try.params4]
  intro t ht
  have : t = 23 ∨ t = 27 ∨ t = 28 ∨ t = 42 ∨ t = 42 := by simpa using ht
  rcases this with rfl | rfl | rfl | rfl | rfl
  all_goals exact ⟨by kernel_rfl, of_decide_eq_true (by kernel_rfl)⟩
set_option maxRecDepth 100000 in
theorem contract (H : Type) (enc : TypeId × Value → H) (W : World) (base : Nat) (args : Array Value) (ds gs : List (DataW H)) (before : List MemPlace)
    (hval : ∀ (j : Nat) t v, Try.f4.params[j]? = some t → args[j]? = some v → Value.okWide Try.prog W .any base t v)
    (hW : DataW.Whole enc Try.prog Try.f4.params.toList Rows.pulseTurnedSpec.vars false W args.toList ds gs before) :
    Calls Try.prog 4 args W fun e W' => ∃ v, e = .returned v ∧ Rows.pulseTurnedSpec.post enc Try.prog Try.f4 false true false false W args v W' := by
  have hW1 := hW
  obtain ⟨p, q, hA, _⟩ := hW
  rw [Try.params4] at hA hval
  obtain ⟨v0, vs0, d0, ds0, p0, q0, hargs, rfl, rfl, h0, r0⟩ := trodAll_cons hA
  obtain ⟨v1, vs1, d1, ds1, p1, q1, rfl, rfl, rfl, h1, r1⟩ := trodAll_cons r0
  obtain ⟨v2, vs2, d2, ds2, p2, q2, rfl, rfl, rfl, h2, r2⟩ := trodAll_cons r1
  obtain ⟨v3, vs3, d3, ds3, p3, q3, rfl, rfl, rfl, h3, r3⟩ := trodAll_cons r2
  obtain ⟨v4, vs4, d4, ds4, p4, q4, rfl, rfl, rfl, h4, r4⟩ := trodAll_cons r3
  obtain ⟨rfl, rfl, rfl⟩ := trodAll_nil r4
  obtain rfl : args = #[v0, v1, v2, v3, v4] := by cases args; simp_all
  obtain ⟨_, rfl, t, rfl⟩ := arg_agg (base := base) Try.underlying23 (hval 0 23 v0 rfl rfl) h0 rd23
  obtain ⟨_, rfl, r, rfl⟩ := arg_agg (base := base) Try.underlying27 (hval 1 27 v1 rfl rfl) h1 rd27
  obtain ⟨p, c, l, hv2, hc, hl, _⟩ := arg_one (base := base) (fun fs h => by rw [Try.underlying28] at h; cases h) (fun n e h => by rw [Try.underlying28] at h; cases h) (hval 2 28 v2 rfl rfl) h2 rd28
  cases hv2
  obtain ⟨more, hv3, hm⟩ := arg_one (base := base) (fun fs h => by rw [Try.underlying42] at h; cases h) (fun n e h => by rw [Try.underlying42] at h; cases h) (hval 3 42 v3 rfl rfl) h3 rd42
  cases hv3
  obtain ⟨run, hv4, hr⟩ := arg_one (base := base) (fun fs h => by rw [Try.underlying42] at h; cases h) (fun n e h => by rw [Try.underlying42] at h; cases h) (hval 4 42 v4 rfl rfl) h4 rd42
  cases hv4
  exact (PulseTurned_c t r l p c more run W hc hl (kb_u16 hm).1 (kb_u16 hm).2 (kb_u16 hr).1 (kb_u16 hr).2).mono fun e W' ⟨he, hs⟩ => ⟨_, he, law_post laid readable rfl rfl Try.underlying4 (fun ds hd => by
    rw [Try.params4] at hd
    match ds, hd with
    | [e0, e1, e2, e3, e4], _ => rfl) hW1 hs⟩
set_option maxRecDepth 100000 in
theorem lifted (os : Os) (started : os.Started) (H : Type) (enc : TypeId × Value → H) :
    ReturnsInHanded {} Try.checked os 4 .any (Rows.pulseTurnedSpec.pre6 enc Try.prog Try.f4 Rows.pulseTurnedRow.domain false) (Rows.pulseTurnedSpec.post enc Try.prog Try.f4 false true false false) := by
  refine returnsInHanded_of_change (C := Try.checked) noKnob started (by kernel_rfl) Try.func4
    (ChangeSpec.witness6 (enc := enc) (C := Try.checked) false ⟨#[], #[.agg #[.int .i64 0, .int .i64 0, .int .i64 0, .int .i64 0, .int .i64 0], .agg #[.int .i64 0, .int .i64 0, .int .i64 0, .int .i64 0], .slice none 0 0, .int .u16 0, .int .u16 0], []⟩ 12 (by kernel_rfl) (by kernel_rfl) (by kernel_rfl) (by kernel_rfl)) ?_
  intro W base args ds gs before hval hW _ _
  exact contract H enc W base args ds gs before hval hW
theorem over : Rows.pulseTurnedRow.holds Try.pinned (OpenSpec.ofChange Rows.pulseTurnedSpec) :=
  OpenClaim.holds_of_wide 4 Try.f4 rfl rfl rfl rfl rfl rfl rfl ⟨rfl, rfl, rfl, rfl, rfl⟩ rfl rfl rfl rfl rfl (by kernel_rfl) Try.func4 (by kernel_rfl)
    (of_decide_eq_true (by kernel_rfl)) (by unfold Func.isWrapper; first | (rw [if_pos (by decide +kernel)]; kernel_rfl) | (rw [if_neg (by decide +kernel)]; exact ⟨rfl, rfl⟩))
    (fun os started H enc _ => lifted os started H enc)
theorem proved : Rows.PulseTurnedSaid :=
  over
#print axioms proved
end Go.Proofs.Ytcnlhifkablmkaa.pulseTurned
