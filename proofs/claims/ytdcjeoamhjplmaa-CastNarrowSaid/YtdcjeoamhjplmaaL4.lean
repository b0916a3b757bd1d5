/-
  CastNarrow holds: of a cloud that is known better, states that were certain remain; with more clouds, in any order, no state becomes less. No condition.
-/
import Derived.Test.YtdcjeoamhjplmaaR5
import Derived.Test.YtdcjeoamhjplmaaRows
namespace Go.Proofs.Ytdcjeoamhjplmaa.castNarrow
open Go.SL Go.Proofs Go.Cast Go.ChangeShapes Go.WideShapes Go.ChangeAt Go.RowKit
set_option linter.unusedVariables false

theorem noKnob : ownKnob Try.prog.godebug = none := by kernel_rfl
theorem laid : laidOutB Try.prog = true := by kernel_rfl
theorem readable : ∀ t, t ∈ Try.f4.params.toList → Try.prog.readableRec t = true ∧ t < Try.prog.types.size := by
  rw [Try.params4]
  intro t ht
  have : t = 49 ∨ t = 49 ∨ t = 51 ∨ t = 45 ∨ t = 5 := by simpa using ht
  rcases this with rfl | rfl | rfl | rfl | rfl
  all_goals exact ⟨by kernel_rfl, of_decide_eq_true (by kernel_rfl)⟩
set_option maxRecDepth 100000 in
theorem contract (H : Type) (enc : TypeId × Value → H) (W : World) (base : Nat) (args : Array Value) (ds gs : List (DataW H)) (before : List MemPlace)
    (hval : ∀ (j : Nat) t v, Try.f4.params[j]? = some t → args[j]? = some v → Value.okWide Try.prog W .any base t v)
    (hW : DataW.Whole enc Try.prog Try.f4.params.toList Rows.castNarrowSpec.vars false W args.toList ds gs before) :
    Calls Try.prog 4 args W fun e W' => ∃ v, e = .returned v ∧ Rows.castNarrowSpec.post enc Try.prog Try.f4 false true false false W args v W' := by
  have hW1 := hW
  obtain ⟨p, q, hA, _⟩ := hW
  rw [Try.params4] at hA hval
  obtain ⟨v0, vs0, d0, ds0, p0, q0, hargs, rfl, rfl, h0, r0⟩ := trodAll_cons hA
  obtain ⟨v1, vs1, d1, ds1, p1, q1, rfl, rfl, rfl, h1, r1⟩ := trodAll_cons r0
  obtain ⟨v2, vs2, d2, ds2, p2, q2, rfl, rfl, rfl, h2, r2⟩ := trodAll_cons r1
  obtain ⟨v3, vs3, d3, ds3, p3, q3, rfl, rfl, rfl, h3, r3⟩ := trodAll_cons r2
  obtain ⟨v4, vs4, d4, ds4, p4, q4, rfl, rfl, rfl, h4, r4⟩ := trodAll_cons r3
  obtain ⟨rfl, rfl, rfl⟩ := trodAll_nil r4
  obtain rfl : args = #[v0, v1, v2, v3, v4] := by cases args; simp_all
  obtain ⟨_, rfl, d, pp, cp, rfl, hd, hp⟩ := arg_agg (base := base) Try.underlying49 (hval 0 49 v0 rfl rfl) h0 rd49
  obtain ⟨_, rfl, o, po_, co, rfl, ho, hpo⟩ := arg_agg (base := base) Try.underlying49 (hval 1 49 v1 rfl rfl) h1 rd49
  obtain ⟨_, rfl, c0, c1, c2, c3, rfl, hc0, hc1, hc2, hc3⟩ := arg_arr (base := base) Try.underlying51 (hval 2 51 v2 rfl rfl) h2 rd51
  obtain ⟨pd, cd, dr, hv3, hdr, _⟩ := arg_one (base := base) (fun fs h => by rw [Try.underlying45] at h; cases h) (fun n e h => by rw [Try.underlying45] at h; cases h) (hval 3 45 v3 rfl rfl) h3 rd45
  cases hv3
  obtain ⟨ld, hv4, hld⟩ := arg_one (base := base) (fun fs h => by rw [Try.underlying5] at h; cases h) (fun n e h => by rw [Try.underlying5] at h; cases h) (hval 4 5 v4 rfl rfl) h4 rd5
  cases hv4
  exact (CastNarrow_c d o pp po_ cp co c0 c1 c2 c3 dr pd cd ld W hd hp ho hpo (kb_u32 hc0) (kb_u32 hc1) (kb_u32 hc2) (kb_u32 hc3) hdr (kb_u8 hld).1 (kb_u8 hld).2).mono fun e W' ⟨he, hs⟩ => ⟨_, he, law_post laid readable rfl rfl Try.underlying4 (fun ds hd => by
    rw [Try.params4] at hd
    match ds, hd with
    | [e0, e1, e2, e3, e4], _ => rfl) hW1 hs⟩
set_option maxRecDepth 100000 in
theorem lifted (os : Os) (started : os.Started) (H : Type) (enc : TypeId × Value → H) :
    ReturnsInHanded {} Try.checked os 4 .any (Rows.castNarrowSpec.pre6 enc Try.prog Try.f4 Rows.castNarrowRow.domain false) (Rows.castNarrowSpec.post enc Try.prog Try.f4 false true false false) := by
  refine returnsInHanded_of_change (C := Try.checked) noKnob started (by kernel_rfl) Try.func4
    (ChangeSpec.witness6 (enc := enc) (C := Try.checked) false ⟨#[], #[.agg #[.int .u8 0, .int .u8 0, .slice none 0 0, .int .i32 0, .int .i32 0, .int .i32 0, .int .i32 0, .int .u16 0], .agg #[.int .u8 0, .int .u8 0, .slice none 0 0, .int .i32 0, .int .i32 0, .int .i32 0, .int .i32 0, .int .u16 0], .agg #[.int .u32 0, .int .u32 0, .int .u32 0, .int .u32 0], .slice none 0 0, .int .u8 0], []⟩ 12 (by kernel_rfl) (by kernel_rfl) (by kernel_rfl) (by kernel_rfl)) ?_
  intro W base args ds gs before hval hW _ _
  exact contract H enc W base args ds gs before hval hW
theorem over : Rows.castNarrowRow.holds Try.pinned (OpenSpec.ofChange Rows.castNarrowSpec) :=
  OpenClaim.holds_of_wide 4 Try.f4 rfl rfl rfl rfl rfl rfl rfl ⟨rfl, rfl, rfl, rfl, rfl⟩ rfl rfl rfl rfl rfl (by kernel_rfl) Try.func4 (by kernel_rfl)
    (of_decide_eq_true (by kernel_rfl)) (by unfold Func.isWrapper; first | (rw [if_pos (by decide +kernel)]; kernel_rfl) | (rw [if_neg (by decide +kernel)]; exact ⟨rfl, rfl⟩))
    (fun os started H enc _ => lifted os started H enc)
theorem proved : Rows.CastNarrowSaid :=
  over
#print axioms proved
end Go.Proofs.Ytdcjeoamhjplmaa.castNarrow
