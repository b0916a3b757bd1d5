/-
  CellPairs holds: events and possible moves are those of the document. No condition.
-/
import Derived.Test.YtgemekpofpoopaaKPAI08
import Derived.Test.YtgemekpofpoopaaRows

set_option linter.unusedSimpArgs false
namespace Go.Proofs.Ytgemekpofpoopaa.cellPairs
open Go.SL Go.Proofs Go.Cast Go.Cell Go.ChangeShapes Go.WideShapes Go.ChangeAt Go.RowKit
set_option linter.unusedVariables false

theorem noKnob : ownKnob Try.prog.godebug = none := by kernel_rfl
theorem laid : laidOutB Try.prog = true := by kernel_rfl
theorem readable : ∀ t, t ∈ Try.f5.params.toList → Try.prog.readableRec t = true ∧ t < Try.prog.types.size := by
  rw [Try.params5]
  intro t ht
  have : t = 26 ∨ t = 26 ∨ t = 3 ∨ t = 3 ∨ t = 3 ∨ t = 3 := by simpa using ht
  rcases this with rfl | rfl | rfl | rfl | rfl | rfl
  all_goals exact ⟨by kernel_rfl, of_decide_eq_true (by kernel_rfl)⟩
set_option maxRecDepth 100000 in
theorem contract (H : Type) (enc : TypeId × Value → H) (W : World) (base : Nat) (args : Array Value) (ds gs : List (DataW H)) (before : List MemPlace)
    (hval : ∀ (j : Nat) t v, Try.f5.params[j]? = some t → args[j]? = some v → Value.okWide Try.prog W .any base t v)
    (hW : DataW.Whole enc Try.prog Try.f5.params.toList Rows.cellPairsSpec.vars false W args.toList ds gs before) :
    Calls Try.prog 5 args W fun e W' => ∃ v, e = .returned v ∧ Rows.cellPairsSpec.post enc Try.prog Try.f5 false true false false W args v W' := by
  have hW1 := hW
  obtain ⟨p, q, hA,_⟩ := hW
  rw [Try.params5] at hA hval
  obtain ⟨v0, vs0, d0, ds0, p0, q0, hargs, rfl, rfl, h0, r0⟩ := trodAll_cons hA
  obtain ⟨v1, vs1, d1, ds1, p1, q1, rfl, rfl, rfl, h1, r1⟩ := trodAll_cons r0
  obtain ⟨v2, vs2, d2, ds2, p2, q2, rfl, rfl, rfl, h2, r2⟩ := trodAll_cons r1
  obtain ⟨v3, vs3, d3, ds3, p3, q3, rfl, rfl, rfl, h3, r3⟩ := trodAll_cons r2
  obtain ⟨v4, vs4, d4, ds4, p4, q4, rfl, rfl, rfl, h4, r4⟩ := trodAll_cons r3
  obtain ⟨v5, vs5, d5, ds5, p5, q5, rfl, rfl, rfl, h5, r5⟩ := trodAll_cons r4
  obtain ⟨rfl, rfl, rfl⟩ := trodAll_nil r5
  obtain rfl : args = #[v0, v1, v2, v3, v4, v5] := by cases args; simp_all
  obtain ⟨_, rfl, g1, pa, ca, s1, rfl, hs1⟩ := arg_agg (base := base) Try.underlying26 (hval 0 26 v0 rfl rfl) h0 rd26
  obtain ⟨_, rfl, g2, pb, cb, s2, rfl, hs2⟩ := arg_agg (base := base) Try.underlying26 (hval 1 26 v1 rfl rfl) h1 rd26
  obtain ⟨lv, hv2,_⟩ := arg_one (base := base) (fun fs h => by rw [Try.underlying3] at h; cases h) (fun n e h => by rw [Try.underlying3] at h; cases h) (hval 2 3 v2 rfl rfl) h2 rd3
  cases hv2
  obtain ⟨reach, hv3,_⟩ := arg_one (base := base) (fun fs h => by rw [Try.underlying3] at h; cases h) (fun n e h => by rw [Try.underlying3] at h; cases h) (hval 3 3 v3 rfl rfl) h3 rd3
  cases hv3
  obtain ⟨i, hv4,_⟩ := arg_one (base := base) (fun fs h => by rw [Try.underlying3] at h; cases h) (fun n e h => by rw [Try.underlying3] at h; cases h) (hval 4 3 v4 rfl rfl) h4 rd3
  cases hv4
  obtain ⟨j, hv5,_⟩ := arg_one (base := base) (fun fs h => by rw [Try.underlying3] at h; cases h) (fun n e h => by rw [Try.underlying3] at h; cases h) (hval 5 3 v5 rfl rfl) h5 rd3
  cases hv5
  exact (CellPairs_c g1 s1 pa ca g2 s2 pb cb lv reach i j W hs1 hs2).mono fun e W' ⟨he, hs⟩ => ⟨_, he, law_post laid readable rfl rfl Try.underlying4 (fun ds hd => by
    rw [Try.params5] at hd
    match ds, hd with
    | [e0, e1, e2, e3, e4, e5],_ => rfl) hW1 hs⟩
set_option maxRecDepth 100000 in
theorem lifted (os : Os) (started : os.Started) (H : Type) (enc : TypeId × Value → H) :
    ReturnsInHanded {} Try.checked os 5 .any (Rows.cellPairsSpec.pre6 enc Try.prog Try.f5 Rows.cellPairsRow.domain false) (Rows.cellPairsSpec.post enc Try.prog Try.f5 false true false false) := by
  refine returnsInHanded_of_change (C := Try.checked) noKnob started (by kernel_rfl) Try.func5
    (ChangeSpec.witness6 (enc := enc) (C := Try.checked) false ⟨#[], #[.agg #[.int .i64 0, .int .i64 0, .int .i64 0, .int .i64 0, .int .i64 0, .slice none 0 0], .agg #[.int .i64 0, .int .i64 0, .int .i64 0, .int .i64 0, .int .i64 0, .slice none 0 0], .int .i64 0, .int .i64 0, .int .i64 0, .int .i64 0], []⟩ 12 (by kernel_rfl) (by kernel_rfl) (by kernel_rfl) (by kernel_rfl)) ?_
  intro W base args ds gs before hval hW _ _
  exact contract H enc W base args ds gs before hval hW
theorem over : Rows.cellPairsRow.holds Try.pinned (OpenSpec.ofChange Rows.cellPairsSpec) :=
  OpenClaim.holds_of_wide 5 Try.f5 rfl rfl rfl rfl rfl rfl rfl ⟨rfl, rfl, rfl, rfl, rfl⟩ rfl rfl rfl rfl rfl (by kernel_rfl) Try.func5 (by kernel_rfl)
    (of_decide_eq_true (by kernel_rfl)) (by unfold Func.isWrapper; first | (rw [if_pos (by decide +kernel)]; kernel_rfl) | (rw [if_neg (by decide +kernel)]; exact ⟨rfl, rfl⟩))
    (fun os started H enc _ => lifted os started H enc)
theorem proved : Rows.CellPairsSaid :=
  over
#print axioms proved
end Go.Proofs.Ytgemekpofpoopaa.cellPairs
