/-
  CellHulls holds: the spans of moves, or the error, are those of the document. No condition.
-/
import Derived.Test.YtgemekpofpoopaaKHUL06
import Derived.Test.YtgemekpofpoopaaRows

set_option linter.unusedSimpArgs false
namespace Go.Proofs.Ytgemekpofpoopaa.cellHulls
open Go.SL Go.Proofs Go.Cast Go.Cell Go.ChangeShapes Go.WideShapes Go.ChangeAt Go.RowKit
set_option linter.unusedVariables false

theorem noKnob : ownKnob Try.prog.godebug = none := by kernel_rfl
theorem laid : laidOutB Try.prog = true := by kernel_rfl
theorem readable : ∀ t, t ∈ Try.f11.params.toList → Try.prog.readableRec t = true ∧ t < Try.prog.types.size := by
  rw [Try.params11]
  intro t ht
  have : t = 56 := by simpa using ht
  rcases this with rfl
  all_goals exact ⟨by kernel_rfl, of_decide_eq_true (by kernel_rfl)⟩
set_option maxRecDepth 100000 in
theorem contract (H : Type) (enc : TypeId × Value → H) (W : World) (base : Nat) (args : Array Value) (ds gs : List (DataW H)) (before : List MemPlace)
    (hval : ∀ (j : Nat) t v, Try.f11.params[j]? = some t → args[j]? = some v → Value.okWide Try.prog W .any base t v)
    (hW : DataW.Whole enc Try.prog Try.f11.params.toList Rows.cellHullsSpec.vars false W args.toList ds gs before) :
    Calls Try.prog 11 args W fun e W' => ∃ v, e = .returned v ∧ Rows.cellHullsSpec.post enc Try.prog Try.f11 false true false false W args v W' := by
  have hW1 := hW
  obtain ⟨p, q, hA,_⟩ := hW
  rw [Try.params11] at hA hval
  obtain ⟨v0, vs0, d0, ds0, p0, q0, hargs, rfl, rfl, h0, r0⟩ := trodAll_cons hA
  obtain ⟨rfl, rfl, rfl⟩ := trodAll_nil r0
  obtain rfl : args = #[v0] := by cases args; simp_all
  obtain ⟨pl, cl, l, hv0, hl⟩ := arg_one (base := base) (fun fs h => by rw [Try.underlying56] at h; cases h) (fun n e h => by rw [Try.underlying56] at h; cases h) (hval 0 56 v0 rfl rfl) h0 rd56
  cases hv0
  exact (CellHulls_c l pl cl W hl).mono fun e W' ⟨he, hs⟩ => ⟨_, he, law_post laid readable rfl rfl Try.underlying4 (fun ds hd => by
    rw [Try.params11] at hd
    match ds, hd with
    | [e0],_ => rfl) hW1 hs⟩
set_option maxRecDepth 100000 in
theorem lifted (os : Os) (started : os.Started) (H : Type) (enc : TypeId × Value → H) :
    ReturnsInHanded {} Try.checked os 11 .any (Rows.cellHullsSpec.pre6 enc Try.prog Try.f11 Rows.cellHullsRow.domain false) (Rows.cellHullsSpec.post enc Try.prog Try.f11 false true false false) := by
  refine returnsInHanded_of_change (C := Try.checked) noKnob started (by kernel_rfl) Try.func11
    (ChangeSpec.witness6 (enc := enc) (C := Try.checked) false ⟨#[], #[.slice none 0 0], []⟩ 12 (by kernel_rfl) (by kernel_rfl) (by kernel_rfl) (by kernel_rfl)) ?_
  intro W base args ds gs before hval hW _ _
  exact contract H enc W base args ds gs before hval hW
theorem over : Rows.cellHullsRow.holds Try.pinned (OpenSpec.ofChange Rows.cellHullsSpec) :=
  OpenClaim.holds_of_wide 11 Try.f11 rfl rfl rfl rfl rfl rfl rfl ⟨rfl, rfl, rfl, rfl, rfl⟩ rfl rfl rfl rfl rfl (by kernel_rfl) Try.func11 (by kernel_rfl)
    (of_decide_eq_true (by kernel_rfl)) (by unfold Func.isWrapper; first | (rw [if_pos (by decide +kernel)]; kernel_rfl) | (rw [if_neg (by decide +kernel)]; exact ⟨rfl, rfl⟩))
    (fun os started H enc _ => lifted os started H enc)
theorem proved : Rows.CellHullsSaid :=
  over
#print axioms proved
end Go.Proofs.Ytgemekpofpoopaa.cellHulls
