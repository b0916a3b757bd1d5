/-
  CastChecks holds: clouds are valid, and made of areas, as the document says. No condition.
-/
import Derived.Test.YtdcjeoamhjplmaaRB
import Derived.Test.YtdcjeoamhjplmaaRows
namespace Go.Proofs.Ytdcjeoamhjplmaa.castChecks
open Go.SL Go.Proofs Go.Cast Go.ChangeShapes Go.WideShapes Go.ChangeAt Go.RowKit
set_option linter.unusedVariables false

theorem noKnob : ownKnob Try.prog.godebug = none := by kernel_rfl
theorem laid : laidOutB Try.prog = true := by kernel_rfl
theorem readable : ∀ t, t ∈ Try.f13.params.toList → Try.prog.readableRec t = true ∧ t < Try.prog.types.size := by
  rw [Try.params13]
  intro t ht
  have : t = 23 ∨ t = 34 ∨ t = 106 := by simpa using ht
  rcases this with rfl | rfl | rfl
  all_goals exact ⟨by kernel_rfl, of_decide_eq_true (by kernel_rfl)⟩
set_option maxRecDepth 100000 in
theorem contract (H : Type) (enc : TypeId × Value → H) (W : World) (base : Nat) (args : Array Value) (ds gs : List (DataW H)) (before : List MemPlace)
    (hval : ∀ (j : Nat) t v, Try.f13.params[j]? = some t → args[j]? = some v → Value.okWide Try.prog W .any base t v)
    (hW : DataW.Whole enc Try.prog Try.f13.params.toList Rows.castChecksSpec.vars false W args.toList ds gs before) :
    Calls Try.prog 13 args W fun e W' => ∃ v, e = .returned v ∧ Rows.castChecksSpec.post enc Try.prog Try.f13 false true false false W args v W' := by
  have hW1 := hW
  obtain ⟨p, q, hA, _⟩ := hW
  rw [Try.params13] at hA hval
  obtain ⟨v0, vs0, d0, ds0, p0, q0, hargs, rfl, rfl, h0, r0⟩ := trodAll_cons hA
  obtain ⟨v1, vs1, d1, ds1, p1, q1, rfl, rfl, rfl, h1, r1⟩ := trodAll_cons r0
  obtain ⟨v2, vs2, d2, ds2, p2, q2, rfl, rfl, rfl, h2, r2⟩ := trodAll_cons r1
  obtain ⟨rfl, rfl, rfl⟩ := trodAll_nil r2
  obtain rfl : args = #[v0, v1, v2] := by cases args; simp_all
  obtain ⟨_, rfl, g, rfl, _⟩ := arg_agg (base := base) Try.underlying23 (hval 0 23 v0 rfl rfl) h0 rd23
  obtain ⟨_, rfl, x, rfl, hx, _⟩ := arg_agg (base := base) Try.underlying34 (hval 1 34 v1 rfl rfl) h1 rd34
  obtain ⟨_, rfl, q, l, pp, cp, rs, pk, ck, rfl, hl, hk, hr⟩ := arg_agg (base := base) Try.underlying106 (hval 2 106 v2 rfl rfl) h2 rd106
  exact (CastChecks_c g x.c x.ps x.pm x.cs x.cm q l pp cp rs pk ck W hx.1 hx.2 hl hk hr).mono fun e W' ⟨he, hs⟩ => ⟨_, he, law_post laid readable rfl rfl Try.underlying4 (fun ds hd => by
    rw [Try.params13] at hd
    match ds, hd with
    | [e0, e1, e2], _ => rfl) hW1 hs⟩
set_option maxRecDepth 100000 in
theorem lifted (os : Os) (started : os.Started) (H : Type) (enc : TypeId × Value → H) :
    ReturnsInHanded {} Try.checked os 13 .any (Rows.castChecksSpec.pre6 enc Try.prog Try.f13 Rows.castChecksRow.domain false) (Rows.castChecksSpec.post enc Try.prog Try.f13 false true false false) := by
  refine returnsInHanded_of_change (C := Try.checked) noKnob started (by kernel_rfl) Try.func13
    (ChangeSpec.witness6 (enc := enc) (C := Try.checked) false ⟨#[], #[.agg #[.int .i64 0, .int .i64 0, .int .i64 0, .int .i64 0, .int .i64 0], .agg #[.slice none 0 0, .slice none 0 0, .int .i64 0, .int .i64 0, .int .i64 0, .int .i64 0, .int .i64 0], .agg #[.slice none 0 0, .slice none 0 0, .int .i64 0, .int .i64 0, .int .i64 0, .int .i64 0, .int .i64 0, .int .i64 0]], []⟩ 12 (by kernel_rfl) (by kernel_rfl) (by kernel_rfl) (by kernel_rfl)) ?_
  intro W base args ds gs before hval hW _ _
  exact contract H enc W base args ds gs before hval hW
theorem over : Rows.castChecksRow.holds Try.pinned (OpenSpec.ofChange Rows.castChecksSpec) :=
  OpenClaim.holds_of_wide 13 Try.f13 rfl rfl rfl rfl rfl rfl rfl ⟨rfl, rfl, rfl, rfl, rfl⟩ rfl rfl rfl rfl rfl (by kernel_rfl) Try.func13 (by kernel_rfl)
    (of_decide_eq_true (by kernel_rfl)) (by unfold Func.isWrapper; first | (rw [if_pos (by decide +kernel)]; kernel_rfl) | (rw [if_neg (by decide +kernel)]; exact ⟨rfl, rfl⟩))
    (fun os started H enc _ => lifted os started H enc)
theorem proved : Rows.CastChecksSaid :=
  over
#print axioms proved
end Go.Proofs.Ytdcjeoamhjplmaa.castChecks
