/-
  CastFits holds: multiples fit, flows meet or contradict each other, hulls, wider flows. No condition.
-/
import Derived.Test.YtdcjeoamhjplmaaR9
import Derived.Test.YtdcjeoamhjplmaaRows
namespace Go.Proofs.Ytdcjeoamhjplmaa.castFits
open Go.SL Go.Proofs Go.Cast Go.ChangeShapes Go.WideShapes Go.ChangeAt Go.RowKit
set_option linter.unusedVariables false

theorem noKnob : ownKnob Try.prog.godebug = none := by kernel_rfl
theorem laid : laidOutB Try.prog = true := by kernel_rfl
theorem readable : ∀ t, t ∈ Try.f11.params.toList → Try.prog.readableRec t = true ∧ t < Try.prog.types.size := by
  rw [Try.params11]
  intro t ht
  have : t = 99 ∨ t = 99 ∨ t = 47 ∨ t = 5 ∨ t = 80 ∨ t = 32 := by simpa using ht
  rcases this with rfl | rfl | rfl | rfl | rfl | rfl
  all_goals exact ⟨by kernel_rfl, of_decide_eq_true (by kernel_rfl)⟩
set_option maxRecDepth 100000 in
theorem contract (H : Type) (enc : TypeId × Value → H) (W : World) (base : Nat) (args : Array Value) (ds gs : List (DataW H)) (before : List MemPlace)
    (hval : ∀ (j : Nat) t v, Try.f11.params[j]? = some t → args[j]? = some v → Value.okWide Try.prog W .any base t v)
    (hW : DataW.Whole enc Try.prog Try.f11.params.toList Rows.castFitsSpec.vars false W args.toList ds gs before) :
    Calls Try.prog 11 args W fun e W' => ∃ v, e = .returned v ∧ Rows.castFitsSpec.post enc Try.prog Try.f11 false true false false W args v W' := by
  have hW1 := hW
  obtain ⟨p, q, hA, _⟩ := hW
  rw [Try.params11] at hA hval
  obtain ⟨v0, vs0, d0, ds0, p0, q0, hargs, rfl, rfl, h0, r0⟩ := trodAll_cons hA
  obtain ⟨v1, vs1, d1, ds1, p1, q1, rfl, rfl, rfl, h1, r1⟩ := trodAll_cons r0
  obtain ⟨v2, vs2, d2, ds2, p2, q2, rfl, rfl, rfl, h2, r2⟩ := trodAll_cons r1
  obtain ⟨v3, vs3, d3, ds3, p3, q3, rfl, rfl, rfl, h3, r3⟩ := trodAll_cons r2
  obtain ⟨v4, vs4, d4, ds4, p4, q4, rfl, rfl, rfl, h4, r4⟩ := trodAll_cons r3
  obtain ⟨v5, vs5, d5, ds5, p5, q5, rfl, rfl, rfl, h5, r5⟩ := trodAll_cons r4
  obtain ⟨rfl, rfl, rfl⟩ := trodAll_nil r5
  obtain rfl : args = #[v0, v1, v2, v3, v4, v5] := by cases args; simp_all
  obtain ⟨x, hv0, hkx⟩ := arg_one (base := base) (fun fs h => by rw [Try.underlying99] at h; cases h) (fun n e h => by rw [Try.underlying99] at h; cases h) (hval 0 99 v0 rfl rfl) h0 rd99
  cases hv0
  obtain ⟨y, hv1, hky⟩ := arg_one (base := base) (fun fs h => by rw [Try.underlying99] at h; cases h) (fun n e h => by rw [Try.underlying99] at h; cases h) (hval 1 99 v1 rfl rfl) h1 rd99
  cases hv1
  obtain ⟨sec, hv2, hks⟩ := arg_one (base := base) (fun fs h => by rw [Try.underlying47] at h; cases h) (fun n e h => by rw [Try.underlying47] at h; cases h) (hval 2 47 v2 rfl rfl) h2 rd47
  cases hv2
  obtain ⟨tm, hv3, hkt⟩ := arg_one (base := base) (fun fs h => by rw [Try.underlying5] at h; cases h) (fun n e h => by rw [Try.underlying5] at h; cases h) (hval 3 5 v3 rfl rfl) h3 rd5
  cases hv3
  obtain ⟨pl, cl, l, hv4, hl, hlc, _⟩ := arg_one (base := base) (fun fs h => by rw [Try.underlying80] at h; cases h) (fun n e h => by rw [Try.underlying80] at h; cases h) (hval 4 80 v4 rfl rfl) h4 rd80
  cases hv4
  obtain ⟨_, rfl, o, rfl, _⟩ := arg_agg (base := base) Try.underlying32 (hval 5 32 v5 rfl rfl) h5 rd32
  exact (CastFits_c x y sec tm pl l cl o W (kb_i8 hkx).1 (kb_i8 hkx).2 (kb_i8 hky).1 (kb_i8 hky).2 (kb_u16 hks).1 (kb_u16 hks).2 (kb_u8 hkt).1 (kb_u8 hkt).2 hl hlc).mono fun e W' ⟨he, hs⟩ => ⟨_, he, law_post laid readable rfl rfl Try.underlying4 (fun ds hd => by
    rw [Try.params11] at hd
    match ds, hd with
    | [e0, e1, e2, e3, e4, e5], _ => rfl) hW1 hs⟩
set_option maxRecDepth 100000 in
theorem lifted (os : Os) (started : os.Started) (H : Type) (enc : TypeId × Value → H) :
    ReturnsInHanded {} Try.checked os 11 .any (Rows.castFitsSpec.pre6 enc Try.prog Try.f11 Rows.castFitsRow.domain false) (Rows.castFitsSpec.post enc Try.prog Try.f11 false true false false) := by
  refine returnsInHanded_of_change (C := Try.checked) noKnob started (by kernel_rfl) Try.func11
    (ChangeSpec.witness6 (enc := enc) (C := Try.checked) false ⟨#[], #[.int .i8 0, .int .i8 0, .int .u16 0, .int .u8 0, .slice none 0 0, .agg #[.int .i64 0, .int .i64 0, .int .i64 0, .int .i64 0]], []⟩ 12 (by kernel_rfl) (by kernel_rfl) (by kernel_rfl) (by kernel_rfl)) ?_
  intro W base args ds gs before hval hW _ _
  exact contract H enc W base args ds gs before hval hW
theorem over : Rows.castFitsRow.holds Try.pinned (OpenSpec.ofChange Rows.castFitsSpec) :=
  OpenClaim.holds_of_wide 11 Try.f11 rfl rfl rfl rfl rfl rfl rfl ⟨rfl, rfl, rfl, rfl, rfl⟩ rfl rfl rfl rfl rfl (by kernel_rfl) Try.func11 (by kernel_rfl)
    (of_decide_eq_true (by kernel_rfl)) (by unfold Func.isWrapper; first | (rw [if_pos (by decide +kernel)]; kernel_rfl) | (rw [if_neg (by decide +kernel)]; exact ⟨rfl, rfl⟩))
    (fun os started H enc _ => lifted os started H enc)
theorem proved : Rows.CastFitsSaid :=
  over
#print axioms proved
end Go.Proofs.Ytdcjeoamhjplmaa.castFits
