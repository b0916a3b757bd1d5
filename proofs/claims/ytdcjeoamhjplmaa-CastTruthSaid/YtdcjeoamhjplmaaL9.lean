/-
  CastTruth holds, THE STAGE'S THEOREM: whatever a cloud does in truth, its states hold at each lead, and no later field contradicts them. No condition.
-/
import Derived.Test.YtdcjeoamhjplmaaR7
import Derived.Test.YtdcjeoamhjplmaaRows
namespace Go.Proofs.Ytdcjeoamhjplmaa.castTruth
open Go.SL Go.Proofs Go.Cast Go.ChangeShapes Go.WideShapes Go.ChangeAt Go.RowKit
set_option linter.unusedVariables false

theorem noKnob : ownKnob Try.prog.godebug = none := by kernel_rfl
theorem laid : laidOutB Try.prog = true := by kernel_rfl
theorem readable : ∀ t, t ∈ Try.f9.params.toList → Try.prog.readableRec t = true ∧ t < Try.prog.types.size := by
  rw [Try.params9]
  intro t ht
  have : t = 49 ∨ t = 75 ∨ t = 5 := by simpa using ht
  rcases this with rfl | rfl | rfl
  all_goals exact ⟨by kernel_rfl, of_decide_eq_true (by kernel_rfl)⟩
set_option maxRecDepth 100000 in
theorem contract (H : Type) (enc : TypeId × Value → H) (W : World) (base : Nat) (args : Array Value) (ds gs : List (DataW H)) (before : List MemPlace)
    (hval : ∀ (j : Nat) t v, Try.f9.params[j]? = some t → args[j]? = some v → Value.okWide Try.prog W .any base t v)
    (hW : DataW.Whole enc Try.prog Try.f9.params.toList Rows.castTruthSpec.vars false W args.toList ds gs before) :
    Calls Try.prog 9 args W fun e W' => ∃ v, e = .returned v ∧ Rows.castTruthSpec.post enc Try.prog Try.f9 false true false false W args v W' := by
  have hW1 := hW
  obtain ⟨p, q, hA, _⟩ := hW
  rw [Try.params9] at hA hval
  obtain ⟨v0, vs0, d0, ds0, p0, q0, hargs, rfl, rfl, h0, r0⟩ := trodAll_cons hA
  obtain ⟨v1, vs1, d1, ds1, p1, q1, rfl, rfl, rfl, h1, r1⟩ := trodAll_cons r0
  obtain ⟨v2, vs2, d2, ds2, p2, q2, rfl, rfl, rfl, h2, r2⟩ := trodAll_cons r1
  obtain ⟨rfl, rfl, rfl⟩ := trodAll_nil r2
  obtain rfl : args = #[v0, v1, v2] := by cases args; simp_all
  obtain ⟨_, rfl, d, pp, cp, rfl, hd, hp⟩ := arg_agg (base := base) Try.underlying49 (hval 0 49 v0 rfl rfl) h0 rd49
  obtain ⟨_, rfl, pa, ca, al, wx, wy, we, inw, rfl, hal, hwx, hwy, hwe⟩ := arg_agg (base := base) Try.underlying75 (hval 1 75 v1 rfl rfl) h1 rd75
  obtain ⟨ld, hv2, hld⟩ := arg_one (base := base) (fun fs h => by rw [Try.underlying5] at h; cases h) (fun n e h => by rw [Try.underlying5] at h; cases h) (hval 2 5 v2 rfl rfl) h2 rd5
  cases hv2
  exact (CastTruth_c d pp cp al pa ca wx wy we inw ld W hd hp hal (kb_u32 hwx).1 (kb_u32 hwx).2 (kb_u32 hwy).1 (kb_u32 hwy).2 (kb_u32 hwe).1 (kb_u32 hwe).2 (kb_u8 hld).1 (kb_u8 hld).2).mono fun e W' ⟨he, hs⟩ => ⟨_, he, law_post laid readable rfl rfl Try.underlying4 (fun ds hd => by
    rw [Try.params9] at hd
    match ds, hd with
    | [e0, e1, e2], _ => rfl) hW1 hs⟩
set_option maxRecDepth 100000 in
theorem lifted (os : Os) (started : os.Started) (H : Type) (enc : TypeId × Value → H) :
    ReturnsInHanded {} Try.checked os 9 .any (Rows.castTruthSpec.pre6 enc Try.prog Try.f9 Rows.castTruthRow.domain false) (Rows.castTruthSpec.post enc Try.prog Try.f9 false true false false) := by
  refine returnsInHanded_of_change (C := Try.checked) noKnob started (by kernel_rfl) Try.func9
    (ChangeSpec.witness6 (enc := enc) (C := Try.checked) false ⟨#[], #[.agg #[.int .u8 0, .int .u8 0, .slice none 0 0, .int .i32 0, .int .i32 0, .int .i32 0, .int .i32 0, .int .u16 0], .agg #[.slice none 0 0, .int .u32 0, .int .u32 0, .int .u32 0, .bool false], .int .u8 0], []⟩ 12 (by kernel_rfl) (by kernel_rfl) (by kernel_rfl) (by kernel_rfl)) ?_
  intro W base args ds gs before hval hW _ _
  exact contract H enc W base args ds gs before hval hW
theorem over : Rows.castTruthRow.holds Try.pinned (OpenSpec.ofChange Rows.castTruthSpec) :=
  OpenClaim.holds_of_wide 9 Try.f9 rfl rfl rfl rfl rfl rfl rfl ⟨rfl, rfl, rfl, rfl, rfl⟩ rfl rfl rfl rfl rfl (by kernel_rfl) Try.func9 (by kernel_rfl)
    (of_decide_eq_true (by kernel_rfl)) (by unfold Func.isWrapper; first | (rw [if_pos (by decide +kernel)]; kernel_rfl) | (rw [if_neg (by decide +kernel)]; exact ⟨rfl, rfl⟩))
    (fun os started H enc _ => lifted os started H enc)
theorem proved : Rows.CastTruthSaid :=
  over
#print axioms proved
end Go.Proofs.Ytdcjeoamhjplmaa.castTruth
