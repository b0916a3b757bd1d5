/-
  CellHistories holds: each area has one history, and everything balances. No condition.
-/
import Derived.Test.YtgemekpofpoopaaKHIS08
import Derived.Test.YtgemekpofpoopaaRows

set_option linter.unusedSimpArgs false
namespace Go.Proofs.Ytgemekpofpoopaa.cellHistories
open Go.SL Go.Proofs Go.Cast Go.Cell Go.ChangeShapes Go.WideShapes Go.ChangeAt Go.RowKit
set_option linter.unusedVariables false

theorem noKnob : ownKnob Try.prog.godebug = none := by kernel_rfl
theorem laid : laidOutB Try.prog = true := by kernel_rfl
theorem readable : ∀ t, t ∈ Try.f13.params.toList → Try.prog.readableRec t = true ∧ t < Try.prog.types.size := by
  rw [Try.params13]
  intro t ht
  have : t = 5 ∨ t = 5 ∨ t = 97 ∨ t = 61 ∨ t = 5 ∨ t = 5 := by simpa using ht
  rcases this with rfl | rfl | rfl | rfl | rfl | rfl
  all_goals exact ⟨by kernel_rfl, of_decide_eq_true (by kernel_rfl)⟩
set_option maxRecDepth 100000 in
theorem contract (H : Type) (enc : TypeId × Value → H) (W : World) (base : Nat) (args : Array Value) (ds gs : List (DataW H)) (before : List MemPlace)
    (hval : ∀ (j : Nat) t v, Try.f13.params[j]? = some t → args[j]? = some v → Value.okWide Try.prog W .any base t v)
    (hW : DataW.Whole enc Try.prog Try.f13.params.toList Rows.cellHistoriesSpec.vars false W args.toList ds gs before) :
    Calls Try.prog 13 args W fun e W' => ∃ v, e = .returned v ∧ Rows.cellHistoriesSpec.post enc Try.prog Try.f13 false true false false W args v W' := by
  have hW1 := hW
  obtain ⟨p, q, hA,_⟩ := hW
  rw [Try.params13] at hA hval
  obtain ⟨v0, vs0, d0, ds0, p0, q0, hargs, rfl, rfl, h0, r0⟩ := trodAll_cons hA
  obtain ⟨v1, vs1, d1, ds1, p1, q1, rfl, rfl, rfl, h1, r1⟩ := trodAll_cons r0
  obtain ⟨v2, vs2, d2, ds2, p2, q2, rfl, rfl, rfl, h2, r2⟩ := trodAll_cons r1
  obtain ⟨v3, vs3, d3, ds3, p3, q3, rfl, rfl, rfl, h3, r3⟩ := trodAll_cons r2
  obtain ⟨v4, vs4, d4, ds4, p4, q4, rfl, rfl, rfl, h4, r4⟩ := trodAll_cons r3
  obtain ⟨v5, vs5, d5, ds5, p5, q5, rfl, rfl, rfl, h5, r5⟩ := trodAll_cons r4
  obtain ⟨rfl, rfl, rfl⟩ := trodAll_nil r5
  obtain rfl : args = #[v0, v1, v2, v3, v4, v5] := by cases args; simp_all
  obtain ⟨wd, hv0, hwd⟩ := arg_one (base := base) (fun fs h => by rw [Try.underlying5] at h; cases h) (fun n e h => by rw [Try.underlying5] at h; cases h) (hval 0 5 v0 rfl rfl) h0 rd5
  cases hv0
  obtain ⟨hgt, hv1, hhg⟩ := arg_one (base := base) (fun fs h => by rw [Try.underlying5] at h; cases h) (fun n e h => by rw [Try.underlying5] at h; cases h) (hval 1 5 v1 rfl rfl) h1 rd5
  cases hv1
  obtain ⟨pl, cl, ls, hv2, hls, h8⟩ := arg_one (base := base) (fun fs h => by rw [Try.underlying97] at h; cases h) (fun n e h => by rw [Try.underlying97] at h; cases h) (hval 2 97 v2 rfl rfl) h2 rd97
  cases hv2
  obtain ⟨pm, cm, mo, hv3, hmo, hm8, hml⟩ := arg_one (base := base) (fun fs h => by rw [Try.underlying61] at h; cases h) (fun n e h => by rw [Try.underlying61] at h; cases h) (hval 3 61 v3 rfl rfl) h3 rd61
  cases hv3
  obtain ⟨at_, hv4, hat⟩ := arg_one (base := base) (fun fs h => by rw [Try.underlying5] at h; cases h) (fun n e h => by rw [Try.underlying5] at h; cases h) (hval 4 5 v4 rfl rfl) h4 rd5
  cases hv4
  obtain ⟨far, hv5, hfar⟩ := arg_one (base := base) (fun fs h => by rw [Try.underlying5] at h; cases h) (fun n e h => by rw [Try.underlying5] at h; cases h) (hval 5 5 v5 rfl rfl) h5 rd5
  cases hv5
  exact (CellHistories_c wd hgt ls pl cl mo pm cm at_ far W hwd hhg hls h8 hmo hm8 hml hat hfar).mono fun e W' ⟨he, hs⟩ => ⟨_, he, law_post laid readable rfl rfl Try.underlying4 (fun ds hd => by
    rw [Try.params13] at hd
    match ds, hd with
    | [e0, e1, e2, e3, e4, e5],_ => rfl) hW1 hs⟩
set_option maxRecDepth 100000 in
theorem lifted (os : Os) (started : os.Started) (H : Type) (enc : TypeId × Value → H) :
    ReturnsInHanded {} Try.checked os 13 .any (Rows.cellHistoriesSpec.pre6 enc Try.prog Try.f13 Rows.cellHistoriesRow.domain false) (Rows.cellHistoriesSpec.post enc Try.prog Try.f13 false true false false) := by
  refine returnsInHanded_of_change (C := Try.checked) noKnob started (by kernel_rfl) Try.func13
    (ChangeSpec.witness6 (enc := enc) (C := Try.checked) false ⟨#[], #[.int .u8 0, .int .u8 0, .slice none 0 0, .slice none 0 0, .int .u8 0, .int .u8 0], []⟩ 12 (by kernel_rfl) (by kernel_rfl) (by kernel_rfl) (by kernel_rfl)) ?_
  intro W base args ds gs before hval hW _ _
  exact contract H enc W base args ds gs before hval hW
theorem over : Rows.cellHistoriesRow.holds Try.pinned (OpenSpec.ofChange Rows.cellHistoriesSpec) :=
  OpenClaim.holds_of_wide 13 Try.f13 rfl rfl rfl rfl rfl rfl rfl ⟨rfl, rfl, rfl, rfl, rfl⟩ rfl rfl rfl rfl rfl (by kernel_rfl) Try.func13 (by kernel_rfl)
    (of_decide_eq_true (by kernel_rfl)) (by unfold Func.isWrapper; first | (rw [if_pos (by decide +kernel)]; kernel_rfl) | (rw [if_neg (by decide +kernel)]; exact ⟨rfl, rfl⟩))
    (fun os started H enc _ => lifted os started H enc)
theorem proved : Rows.CellHistoriesSaid :=
  over
#print axioms proved
end Go.Proofs.Ytgemekpofpoopaa.cellHistories
