/-
  CellDrift holds: what moves together is in one event, and its move is possible. No condition.
-/
import Derived.Test.YtgemekpofpoopaaKDRI08
import Derived.Test.YtgemekpofpoopaaRows

set_option linter.unusedSimpArgs false
namespace Go.Proofs.Ytgemekpofpoopaa.cellDrift
open Go.SL Go.Proofs Go.Cast Go.Cell Go.ChangeShapes Go.WideShapes Go.ChangeAt Go.RowKit
set_option linter.unusedVariables false

theorem noKnob : ownKnob Try.prog.godebug = none := by kernel_rfl
theorem laid : laidOutB Try.prog = true := by kernel_rfl
theorem readable : ∀ t, t ∈ Try.f12.params.toList → Try.prog.readableRec t = true ∧ t < Try.prog.types.size := by
  rw [Try.params12]
  intro t ht
  have : t = 63 ∨ t = 61 ∨ t = 61 ∨ t = 61 ∨ t = 61 ∨ t = 5 ∨ t = 92 ∨ t = 92 ∨ t = 5 := by simpa using ht
  rcases this with rfl | rfl | rfl | rfl | rfl | rfl | rfl | rfl | rfl
  all_goals exact ⟨by kernel_rfl, of_decide_eq_true (by kernel_rfl)⟩
set_option maxRecDepth 100000 in
theorem contract (H : Type) (enc : TypeId × Value → H) (W : World) (base : Nat) (args : Array Value) (ds gs : List (DataW H)) (before : List MemPlace)
    (hval : ∀ (j : Nat) t v, Try.f12.params[j]? = some t → args[j]? = some v → Value.okWide Try.prog W .any base t v)
    (hW : DataW.Whole enc Try.prog Try.f12.params.toList Rows.cellDriftSpec.vars false W args.toList ds gs before) :
    Calls Try.prog 12 args W fun e W' => ∃ v, e = .returned v ∧ Rows.cellDriftSpec.post enc Try.prog Try.f12 false true false false W args v W' := by
  have hW1 := hW
  obtain ⟨p, q, hA,_⟩ := hW
  rw [Try.params12] at hA hval
  obtain ⟨v0, vs0, d0, ds0, p0, q0, hargs, rfl, rfl, h0, r0⟩ := trodAll_cons hA
  obtain ⟨v1, vs1, d1, ds1, p1, q1, rfl, rfl, rfl, h1, r1⟩ := trodAll_cons r0
  obtain ⟨v2, vs2, d2, ds2, p2, q2, rfl, rfl, rfl, h2, r2⟩ := trodAll_cons r1
  obtain ⟨v3, vs3, d3, ds3, p3, q3, rfl, rfl, rfl, h3, r3⟩ := trodAll_cons r2
  obtain ⟨v4, vs4, d4, ds4, p4, q4, rfl, rfl, rfl, h4, r4⟩ := trodAll_cons r3
  obtain ⟨v5, vs5, d5, ds5, p5, q5, rfl, rfl, rfl, h5, r5⟩ := trodAll_cons r4
  obtain ⟨v6, vs6, d6, ds6, p6, q6, rfl, rfl, rfl, h6, r6⟩ := trodAll_cons r5
  obtain ⟨v7, vs7, d7, ds7, p7, q7, rfl, rfl, rfl, h7, r7⟩ := trodAll_cons r6
  obtain ⟨v8, vs8, d8, ds8, p8, q8, rfl, rfl, rfl, h8, r8⟩ := trodAll_cons r7
  obtain ⟨rfl, rfl, rfl⟩ := trodAll_nil r8
  obtain rfl : args = #[v0, v1, v2, v3, v4, v5, v6, v7, v8] := by cases args; simp_all
  obtain ⟨_, rfl, x, rfl, hx, hk⟩ := arg_agg (base := base) Try.underlying63 (hval 0 63 v0 rfl rfl) h0 rd63
  obtain ⟨pw, cw, wh, hv1, hwh, hW8, hwl⟩ := arg_one (base := base) (fun fs h => by rw [Try.underlying61] at h; cases h) (fun n e h => by rw [Try.underlying61] at h; cases h) (hval 1 61 v1 rfl rfl) h1 rd61
  cases hv1
  obtain ⟨pt, ct, ot, hv2, hot, ho8,_⟩ := arg_one (base := base) (fun fs h => by rw [Try.underlying61] at h; cases h) (fun n e h => by rw [Try.underlying61] at h; cases h) (hval 2 61 v2 rfl rfl) h2 rd61
  cases hv2
  obtain ⟨pl, cl, le, hv3, hle, hl8,_⟩ := arg_one (base := base) (fun fs h => by rw [Try.underlying61] at h; cases h) (fun n e h => by rw [Try.underlying61] at h; cases h) (hval 3 61 v3 rfl rfl) h3 rd61
  cases hv3
  obtain ⟨pm, cm, mo, hv4, hmo, hm8,_⟩ := arg_one (base := base) (fun fs h => by rw [Try.underlying61] at h; cases h) (fun n e h => by rw [Try.underlying61] at h; cases h) (hval 4 61 v4 rfl rfl) h4 rd61
  cases hv4
  obtain ⟨n, hv5, hn⟩ := arg_one (base := base) (fun fs h => by rw [Try.underlying5] at h; cases h) (fun n e h => by rw [Try.underlying5] at h; cases h) (hval 5 5 v5 rfl rfl) h5 rd5
  cases hv5
  obtain ⟨dx, hv6, hdx⟩ := arg_one (base := base) (fun fs h => by rw [Try.underlying92] at h; cases h) (fun n e h => by rw [Try.underlying92] at h; cases h) (hval 6 92 v6 rfl rfl) h6 rd92
  cases hv6
  obtain ⟨dy, hv7, hdy⟩ := arg_one (base := base) (fun fs h => by rw [Try.underlying92] at h; cases h) (fun n e h => by rw [Try.underlying92] at h; cases h) (hval 7 92 v7 rfl rfl) h7 rd92
  cases hv7
  obtain ⟨wd, hv8, hwd⟩ := arg_one (base := base) (fun fs h => by rw [Try.underlying5] at h; cases h) (fun n e h => by rw [Try.underlying5] at h; cases h) (hval 8 5 v8 rfl rfl) h8 rd5
  cases hv8
  exact (CellDrift_c x wh pw cw ot pt ct le pl cl mo pm cm n dx dy wd W hx hk hwh hW8 hwl hot ho8 hle hl8 hmo hm8 hn hdx hdy hwd).mono fun e W' ⟨he, hs⟩ => ⟨_, he, law_post laid readable rfl rfl Try.underlying4 (fun ds hd => by
    rw [Try.params12] at hd
    match ds, hd with
    | [e0, e1, e2, e3, e4, e5, e6, e7, e8],_ => rfl) hW1 hs⟩
set_option maxRecDepth 100000 in
theorem lifted (os : Os) (started : os.Started) (H : Type) (enc : TypeId × Value → H) :
    ReturnsInHanded {} Try.checked os 12 .any (Rows.cellDriftSpec.pre6 enc Try.prog Try.f12 Rows.cellDriftRow.domain false) (Rows.cellDriftSpec.post enc Try.prog Try.f12 false true false false) := by
  refine returnsInHanded_of_change (C := Try.checked) noKnob started (by kernel_rfl) Try.func12
    (ChangeSpec.witness6 (enc := enc) (C := Try.checked) false ⟨#[], #[.agg #[.int .u8 0, .int .u8 0, .slice none 0 0, .slice none 0 0], .slice none 0 0, .slice none 0 0, .slice none 0 0, .slice none 0 0, .int .u8 0, .int .i8 0, .int .i8 0, .int .u8 0], []⟩ 12 (by kernel_rfl) (by kernel_rfl) (by kernel_rfl) (by kernel_rfl)) ?_
  intro W base args ds gs before hval hW _ _
  exact contract H enc W base args ds gs before hval hW
theorem over : Rows.cellDriftRow.holds Try.pinned (OpenSpec.ofChange Rows.cellDriftSpec) :=
  OpenClaim.holds_of_wide 12 Try.f12 rfl rfl rfl rfl rfl rfl rfl ⟨rfl, rfl, rfl, rfl, rfl⟩ rfl rfl rfl rfl rfl (by kernel_rfl) Try.func12 (by kernel_rfl)
    (of_decide_eq_true (by kernel_rfl)) (by unfold Func.isWrapper; first | (rw [if_pos (by decide +kernel)]; kernel_rfl) | (rw [if_neg (by decide +kernel)]; exact ⟨rfl, rfl⟩))
    (fun os started H enc _ => lifted os started H enc)
theorem proved : Rows.CellDriftSaid :=
  over
#print axioms proved
end Go.Proofs.Ytgemekpofpoopaa.cellDrift
