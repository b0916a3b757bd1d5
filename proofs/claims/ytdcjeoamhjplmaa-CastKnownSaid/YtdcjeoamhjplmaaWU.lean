/-
  The times of the examples.
-/
import Derived.Test.YtdcjeoamhjplmaaWS
namespace Go.Proofs.Ytdcjeoamhjplmaa
open Go.SL Go.Proofs Go.Cast
set_option linter.unusedVariables false



set_option maxRecDepth 100000
theorem k_w9 : whenE gG cC 9 3000 = 0 := by decide +kernel
theorem k_w11 : whenE gG cC 11 3000 = 0 := by decide +kernel
theorem k_w0 : whenE gG cC 0 3000 = 0 := by decide +kernel
theorem k_t9 : (whenT gG cC 9 3000).ints = [1, 1000, 3000, 1001, 3000] := by decide +kernel
theorem k_t11 : (whenT gG cC 11 3000).ints = [2001, 3000, 3000, 1, 1000] := by decide +kernel
theorem k_t0 : (whenT gG cC 0 3000).ints = [-1, -1, -1, 0, 0] := by decide +kernel
theorem whenK {p f s la le mo : Int} (ht : (whenT gG cC p 3000).ints = [f, s, la, le, mo]) (he : whenE gG cC p 3000 = 0) (a b : Option Addr) (w : World) (ha : Ints w a [7, 8]) (hb : Ints w b [6, 7, 8]) : Calls Try.prog 23 #[gridV gG, cloudV a 2 b 3 cC, .int .i64 p, .int .i64 3000] w fun e w' => e = .returned (.tuple #[.agg #[.int .i64 f, .int .i64 s, .int .i64 la, .int .i64 le, .int .i64 mo], .int .i64 0]) ∧ St (bs w) [] w' := by
  have h := When_c gG cC a b 2 3 p 3000 w (by decide) (by decide) ha hb
  rw [he] at h
  generalize whenT gG cC p 3000 = T at h ht
  cases T
  simp only [Times.ints, List.cons.injEq, and_true] at ht
  obtain ⟨rfl, rfl, rfl, rfl, rfl⟩ := ht
  exact h
theorem whenK9 (a b : Option Addr) (w : World) (ha : Ints w a [7, 8]) (hb : Ints w b [6, 7, 8]) : Calls Try.prog 23 #[gridV gG, cloudV a 2 b 3 cC, .int .i64 9, .int .i64 3000] w fun e w' => e = .returned (.tuple #[.agg #[.int .i64 1, .int .i64 1000, .int .i64 3000, .int .i64 1001, .int .i64 3000], .int .i64 0]) ∧ St (bs w) [] w' := whenK k_t9 k_w9 a b w ha hb
theorem whenK11 (a b : Option Addr) (w : World) (ha : Ints w a [7, 8]) (hb : Ints w b [6, 7, 8]) : Calls Try.prog 23 #[gridV gG, cloudV a 2 b 3 cC, .int .i64 11, .int .i64 3000] w fun e w' => e = .returned (.tuple #[.agg #[.int .i64 2001, .int .i64 3000, .int .i64 3000, .int .i64 1, .int .i64 1000], .int .i64 0]) ∧ St (bs w) [] w' := whenK k_t11 k_w11 a b w ha hb
theorem whenK0 (a b : Option Addr) (w : World) (ha : Ints w a [7, 8]) (hb : Ints w b [6, 7, 8]) : Calls Try.prog 23 #[gridV gG, cloudV a 2 b 3 cC, .int .i64 0, .int .i64 3000] w fun e w' => e = .returned (.tuple #[.agg #[.int .i64 (-1), .int .i64 (-1), .int .i64 (-1), .int .i64 0, .int .i64 0], .int .i64 0]) ∧ St (bs w) [] w' := whenK k_t0 k_w0 a b w ha hb
theorem fitK1 (w : World) : Calls Try.prog 31 #[.agg #[.int .i64 1, .int .i64 1], .agg #[.int .i64 0, .int .i64 0], .int .i64 1000, .int .i64 0] w fun e w' => e = .returned (.tuple #[.agg #[.int .i64 1000, .int .i64 1000, .int .i64 0, .int .i64 0], .int .i64 0]) ∧ St (bs w) [] w' := by
  have h := Fit_c 1 1 0 0 1000 0 w
  rw [show fitR 1 1 0 0 1000 0 = ⟨1000, 1000, 0, 0⟩ by decide +kernel, show fitE 1 1 0 0 1000 0 = 0 by decide +kernel] at h
  exact h
theorem fitK2 (w : World) : Calls Try.prog 31 #[.agg #[.int .i64 64, .int .i64 64], .agg #[.int .i64 0, .int .i64 0], .int .i64 300, .int .i64 0] w fun e w' => e = .returned (.tuple #[.agg #[.int .i64 0, .int .i64 0, .int .i64 0, .int .i64 0], .int .i64 26]) ∧ St (bs w) [] w' := by
  have h := Fit_c 64 64 0 0 300 0 w
  rw [show fitR 64 64 0 0 300 0 = ⟨0, 0, 0, 0⟩ by decide +kernel, show fitE 64 64 0 0 300 0 = 26 by decide +kernel] at h
  exact h

theorem flE2 : flowsE [Flow.mk 0 10 0 0, Flow.mk 5 20 0 0] = 0 := by decide +kernel
theorem flE3 : flowsE [Flow.mk 0 10 0 0, Flow.mk 5 20 0 0, Flow.mk 30 40 0 0] = 0 := by decide +kernel
theorem meetK2 (p : Option Addr) (c : Nat) (w : World) (hl : Flows w p [Flow.mk 0 10 0 0, Flow.mk 5 20 0 0]) (hc : [Flow.mk 0 10 0 0, Flow.mk 5 20 0 0].length ≤ c) : Calls Try.prog 38 #[.slice p [Flow.mk 0 10 0 0, Flow.mk 5 20 0 0].length c] w fun e w' => e = .returned (.tuple #[.agg #[.int .i64 5, .int .i64 10, .int .i64 0, .int .i64 0], .agg #[.int .i64 0, .int .i64 0], .int .i64 0]) ∧ St (bs w) [] w' := by
  have h := Meet_c p [Flow.mk 0 10 0 0, Flow.mk 5 20 0 0] c w hl hc
  rw [show meetV [Flow.mk 0 10 0 0, Flow.mk 5 20 0 0] = ⟨5, 10, 0, 0⟩ by decide +kernel, show meetE [Flow.mk 0 10 0 0, Flow.mk 5 20 0 0] = 0 by decide +kernel, meetP_no (l := [Flow.mk 0 10 0 0, Flow.mk 5 20 0 0]) (.inr ((helly flE2).1 (by decide +kernel)))] at h
  exact h
theorem meetK3 (p : Option Addr) (c : Nat) (w : World) (hl : Flows w p [Flow.mk 0 10 0 0, Flow.mk 5 20 0 0, Flow.mk 30 40 0 0]) (hc : [Flow.mk 0 10 0 0, Flow.mk 5 20 0 0, Flow.mk 30 40 0 0].length ≤ c) : Calls Try.prog 38 #[.slice p [Flow.mk 0 10 0 0, Flow.mk 5 20 0 0, Flow.mk 30 40 0 0].length c] w fun e w' => e = .returned (.tuple #[.agg #[.int .i64 0, .int .i64 0, .int .i64 0, .int .i64 0], .agg #[.int .i64 0, .int .i64 2], .int .i64 14]) ∧ St (bs w) [] w' := by
  have h := Meet_c p [Flow.mk 0 10 0 0, Flow.mk 5 20 0 0, Flow.mk 30 40 0 0] c w hl hc
  have hp : meetP [Flow.mk 0 10 0 0, Flow.mk 5 20 0 0, Flow.mk 30 40 0 0] = (0, 2) := meetP_at (i := 0) (j := 2) flE3 ⟨by unfold Confl; decide +kernel, fun a b h => by omega, fun b h k => by
    match b, h, k with
    | 0, _, k => exact absurd k.1 (by decide)
    | 1, _, k => exact k.2.2 (by decide +kernel)⟩
  rw [show meetV [Flow.mk 0 10 0 0, Flow.mk 5 20 0 0, Flow.mk 30 40 0 0] = ⟨0, 0, 0, 0⟩ by decide +kernel, show meetE [Flow.mk 0 10 0 0, Flow.mk 5 20 0 0, Flow.mk 30 40 0 0] = 14 by decide +kernel, hp] at h
  exact h
theorem widK2 (w : World) : Calls Try.prog 36 #[.agg #[.int .i64 5, .int .i64 10, .int .i64 0, .int .i64 0], .int .i64 100, .int .i64 1800] w fun e w' => e = .returned (.tuple #[.agg #[.int .i64 (-45), .int .i64 60, .int .i64 (-50), .int .i64 50], .int .i64 0]) ∧ St (bs w) [] w' := by
  have h := Widen_c ⟨5, 10, 0, 0⟩ 100 1800 w
  rw [show widR ⟨5, 10, 0, 0⟩ 100 1800 = ⟨-45, 60, -50, 50⟩ by decide +kernel, show widE ⟨5, 10, 0, 0⟩ 100 1800 = 0 by decide +kernel] at h
  exact h
def kF : Field := ⟨⟨0, 0, 1, 3, 1⟩, [⟨0, 9⟩, ⟨0, 4⟩, ⟨5, 5⟩]⟩
theorem heldK (ps pv : Option Addr) (w : World) (hs : Ints w ps [1, 2, 0]) (hv : Spans w pv kF.vals) : Calls Try.prog 25 #[.slice ps 3 3, .agg #[.int .i64 0, .int .i64 0, .int .i64 1, .int .i64 3, .int .i64 1, .slice pv 3 3], .int .i64 5] w fun e w' => ∃ x : Option Addr × Nat, True ∧ e = .returned (.tuple #[.slice x.1 2 x.2, .int .i64 0]) ∧ St (bs w) [own 3 1 x.1 x.2 ([1, 2].map fun n => [.int .i64 n])] w' := by
  have h := Held_c [1, 2, 0] ps 3 kF pv 3 5 w hs hv
  rw [show heldL [1, 2, 0] kF 5 = [1, 2] by decide +kernel, show heldE [1, 2, 0] kF 5 = 0 by decide +kernel] at h
  exact h

theorem fitX1 (w : World) : Calls Try.prog 31 #[.agg #[.int .i64 1, .int .i64 1], .agg #[.int .i64 0, .int .i64 0], .int .i64 1000, .int .i64 0] w fun e w' => ∃ x : Flow × Int, x = (⟨1000, 1000, 0, 0⟩, 0) ∧ e = .returned (.tuple #[.agg #[.int .i64 x.1.a, .int .i64 x.1.b, .int .i64 x.1.c, .int .i64 x.1.d], .int .i64 x.2]) ∧ St (bs w) [] w' := (fitK1 w).mono fun e w' h => ⟨_, rfl, h⟩
theorem fitX2 (w : World) : Calls Try.prog 31 #[.agg #[.int .i64 64, .int .i64 64], .agg #[.int .i64 0, .int .i64 0], .int .i64 300, .int .i64 0] w fun e w' => ∃ x : Flow × Int, x = (⟨0, 0, 0, 0⟩, 26) ∧ e = .returned (.tuple #[.agg #[.int .i64 x.1.a, .int .i64 x.1.b, .int .i64 x.1.c, .int .i64 x.1.d], .int .i64 x.2]) ∧ St (bs w) [] w' := (fitK2 w).mono fun e w' h => ⟨_, rfl, h⟩
theorem meetX2 (p : Option Addr) (c : Nat) (w : World) (hl : Flows w p [Flow.mk 0 10 0 0, Flow.mk 5 20 0 0]) (hc : [Flow.mk 0 10 0 0, Flow.mk 5 20 0 0].length ≤ c) : Calls Try.prog 38 #[.slice p [Flow.mk 0 10 0 0, Flow.mk 5 20 0 0].length c] w fun e w' => ∃ x : Flow × (Int × Int) × Int, x = (⟨5, 10, 0, 0⟩, (0, 0), 0) ∧ e = .returned (.tuple #[.agg #[.int .i64 x.1.a, .int .i64 x.1.b, .int .i64 x.1.c, .int .i64 x.1.d], .agg #[.int .i64 x.2.1.1, .int .i64 x.2.1.2], .int .i64 x.2.2]) ∧ St (bs w) [] w' := (meetK2 p c w hl hc).mono fun e w' h => ⟨_, rfl, h⟩
theorem meetX3 (p : Option Addr) (c : Nat) (w : World) (hl : Flows w p [Flow.mk 0 10 0 0, Flow.mk 5 20 0 0, Flow.mk 30 40 0 0]) (hc : [Flow.mk 0 10 0 0, Flow.mk 5 20 0 0, Flow.mk 30 40 0 0].length ≤ c) : Calls Try.prog 38 #[.slice p [Flow.mk 0 10 0 0, Flow.mk 5 20 0 0, Flow.mk 30 40 0 0].length c] w fun e w' => ∃ x : Flow × (Int × Int) × Int, x = (⟨0, 0, 0, 0⟩, (0, 2), 14) ∧ e = .returned (.tuple #[.agg #[.int .i64 x.1.a, .int .i64 x.1.b, .int .i64 x.1.c, .int .i64 x.1.d], .agg #[.int .i64 x.2.1.1, .int .i64 x.2.1.2], .int .i64 x.2.2]) ∧ St (bs w) [] w' := (meetK3 p c w hl hc).mono fun e w' h => ⟨_, rfl, h⟩
theorem widX2 (f : Flow) (hf : f = ⟨5, 10, 0, 0⟩) (w : World) : Calls Try.prog 36 #[.agg #[.int .i64 f.a, .int .i64 f.b, .int .i64 f.c, .int .i64 f.d], .int .i64 100, .int .i64 1800] w fun e w' => ∃ x : Flow × Int, x = (⟨-45, 60, -50, 50⟩, 0) ∧ e = .returned (.tuple #[.agg #[.int .i64 x.1.a, .int .i64 x.1.b, .int .i64 x.1.c, .int .i64 x.1.d], .int .i64 x.2]) ∧ St (bs w) [] w' := by
  subst hf
  exact (widK2 w).mono fun e w' h => ⟨_, rfl, h⟩

theorem heldX (ps pv : Option Addr) (w : World) (hs : Ints w ps [1, 2, 0]) (hv : Spans w pv kF.vals) : Calls Try.prog 25 #[.slice ps 3 3, .agg #[.int .i64 0, .int .i64 0, .int .i64 1, .int .i64 3, .int .i64 1, .slice pv 3 3], .int .i64 5] w fun e w' => ∃ x : List Int × Option Addr × Nat, x.1 = [1, 2] ∧ e = .returned (.tuple #[.slice x.2.1 x.1.length x.2.2, .int .i64 0]) ∧ St (bs w) [own 3 1 x.2.1 x.2.2 (x.1.map fun n => [.int .i64 n])] w' := (heldK ps pv w hs hv).mono fun e w' ⟨x, _, h1, h2⟩ => ⟨([1, 2], x), rfl, h1, h2⟩

end Go.Proofs.Ytdcjeoamhjplmaa
