/-
  What a reading says of the arguments of the laws about pulses.
-/
import Derived.Test.YtcnlhifkablmkaaW1
import Derived.Test.YtcnlhifkablmkaaSJ
import Derived.Test.YtcnlhifkablmkaaSC
namespace Go.Proofs.Ytcnlhifkablmkaa
open Go.SL Go.Proofs Go.Pulse
set_option linter.unusedVariables false


theorem K3 : Try.prog.cellsOf 3 = 1 := by kernel_rfl
theorem K25 : Try.prog.cellsOf 25 = 2 := by kernel_rfl
theorem K44 : Try.prog.cellsOf 44 = 4 := by kernel_rfl
theorem K55 : Try.prog.cellsOf 55 = 1 := by kernel_rfl
theorem K28 : Try.prog.cellsOf 28 = 1 := by kernel_rfl
theorem K30 : Try.prog.cellsOf 30 = 4 := by kernel_rfl
section
variable {H : Type} {enc : TypeId × Value → H} {W : World}
theorem rd3 : RD enc Try.prog W 3 fun cs => ∃ n, cs = [.int .i64 n] ∧ kb .i64 n := RD.int Try.underlying3
theorem rd23 : RD enc Try.prog W 23 fun cs => ∃ t : Train, cs = [.int .i64 t.lam, .int .i64 t.kind, .int .i64 t.first, .int .i64 t.second, .int .i64 t.count] := fun n cs x hx => by
  obtain ⟨css, rfl, hlen, _, hp⟩ := trod_parts Try.underlying23 (zs := [1, 1, 1, 1, 1]) (by kernel_rfl) rfl (by kernel_rfl) hx
  match css, hlen with
  | [c0, c1, c2, c3, c4], _ =>
    obtain ⟨_, _, h0⟩ := hp 0 _ c0 rfl rfl
    obtain ⟨_, _, h1⟩ := hp 1 _ c1 rfl rfl
    obtain ⟨_, _, h2⟩ := hp 2 _ c2 rfl rfl
    obtain ⟨_, _, h3⟩ := hp 3 _ c3 rfl rfl
    obtain ⟨_, _, h4⟩ := hp 4 _ c4 rfl rfl
    obtain ⟨a0, rfl, _⟩ := rd3 _ _ _ h0
    obtain ⟨a1, rfl, _⟩ := rd3 _ _ _ h1
    obtain ⟨a2, rfl, _⟩ := rd3 _ _ _ h2
    obtain ⟨a3, rfl, _⟩ := rd3 _ _ _ h3
    obtain ⟨a4, rfl, _⟩ := rd3 _ _ _ h4
    exact ⟨⟨a0, a1, a2, a3, a4⟩, rfl⟩
theorem rd25 : RD enc Try.prog W 25 fun cs => ∃ s : Span, cs = [.int .i64 s.lo, .int .i64 s.hi] ∧ kb .i64 s.lo ∧ kb .i64 s.hi := fun n cs x hx => by
  obtain ⟨css, rfl, hlen, _, hp⟩ := trod_parts Try.underlying25 (zs := [1, 1]) (by kernel_rfl) rfl (by kernel_rfl) hx
  match css, hlen with
  | [c0, c1], _ =>
    obtain ⟨_, _, h0⟩ := hp 0 _ c0 rfl rfl
    obtain ⟨_, _, h1⟩ := hp 1 _ c1 rfl rfl
    obtain ⟨a, rfl, ha⟩ := rd3 _ _ _ h0
    obtain ⟨b, rfl, hb⟩ := rd3 _ _ _ h1
    exact ⟨⟨a, b⟩, rfl, ha, hb⟩
theorem rd27 : RD enc Try.prog W 27 fun cs => ∃ r : Recv, cs = [.int .i64 r.level, .int .i64 r.phase, .int .i64 r.nlo, .int .i64 r.nhi] := fun n cs x hx => by
  obtain ⟨css, rfl, hlen, _, hp⟩ := trod_parts Try.underlying27 (zs := [1, 1, 2]) (by kernel_rfl) rfl (by kernel_rfl) hx
  match css, hlen with
  | [c0, c1, c2], _ =>
    obtain ⟨_, _, h0⟩ := hp 0 _ c0 rfl rfl
    obtain ⟨_, _, h1⟩ := hp 1 _ c1 rfl rfl
    obtain ⟨_, _, h2⟩ := hp 2 _ c2 rfl rfl
    obtain ⟨a, rfl, _⟩ := rd3 _ _ _ h0
    obtain ⟨b, rfl, _⟩ := rd3 _ _ _ h1
    obtain ⟨s, rfl, _⟩ := rd25 _ _ _ h2
    exact ⟨⟨a, b, s.lo, s.hi⟩, rfl⟩
theorem rd30 : RD enc Try.prog W 30 fun cs => ∃ s u : Span, cs = [.int .i64 s.lo, .int .i64 s.hi, .int .i64 u.lo, .int .i64 u.hi] := fun n cs x hx => by
  obtain ⟨css, rfl, hlen, hp⟩ := trod_cells Try.underlying30 K25 K30 hx rd25
  match css, hlen with
  | [c0, c1], _ =>
    obtain ⟨_, s, rfl, _⟩ := hp c0 (by simp)
    obtain ⟨_, u, rfl, _⟩ := hp c1 (by simp)
    exact ⟨s, u, rfl⟩
theorem rd32 : RD enc Try.prog W 32 fun cs => ∃ x : Echo, cs = echoC x := fun n cs x hx => by
  obtain ⟨css, rfl, hlen, _, hp⟩ := trod_parts Try.underlying32 (zs := [1, 2, 4, 1, 2, 2, 2]) (by kernel_rfl) rfl (by kernel_rfl) hx
  match css, hlen with
  | [c0, c1, c2, c3, c4, c5, c6], _ =>
    obtain ⟨_, _, h0⟩ := hp 0 _ c0 rfl rfl
    obtain ⟨_, _, h1⟩ := hp 1 _ c1 rfl rfl
    obtain ⟨_, _, h2⟩ := hp 2 _ c2 rfl rfl
    obtain ⟨_, _, h3⟩ := hp 3 _ c3 rfl rfl
    obtain ⟨_, _, h4⟩ := hp 4 _ c4 rfl rfl
    obtain ⟨_, _, h5⟩ := hp 5 _ c5 rfl rfl
    obtain ⟨_, _, h6⟩ := hp 6 _ c6 rfl rfl
    obtain ⟨a, rfl, _⟩ := rd3 _ _ _ h0
    obtain ⟨b, rfl, _⟩ := rd25 _ _ _ h1
    obtain ⟨c, d, rfl⟩ := rd30 _ _ _ h2
    obtain ⟨e, rfl, _⟩ := rd3 _ _ _ h3
    obtain ⟨f, rfl, _⟩ := rd25 _ _ _ h4
    obtain ⟨g, rfl, _⟩ := rd25 _ _ _ h5
    obtain ⟨k, rfl, _⟩ := rd25 _ _ _ h6
    exact ⟨⟨a, b, c, d, e, f, g, k⟩, rfl⟩
theorem rd44 : RD enc Try.prog W 44 fun cs => ∃ x : Sample, cs = smpC x := fun n cs x hx => by
  obtain ⟨css, rfl, hlen, _, hp⟩ := trod_parts Try.underlying44 (zs := [1, 1, 1, 1]) (by kernel_rfl) rfl (by kernel_rfl) hx
  match css, hlen with
  | [c0, c1, c2, c3], _ =>
    obtain ⟨_, _, h0⟩ := hp 0 _ c0 rfl rfl
    obtain ⟨_, _, h1⟩ := hp 1 _ c1 rfl rfl
    obtain ⟨_, _, h2⟩ := hp 2 _ c2 rfl rfl
    obtain ⟨_, _, h3⟩ := hp 3 _ c3 rfl rfl
    obtain ⟨a0, rfl, _⟩ := rd3 _ _ _ h0
    obtain ⟨a1, rfl, _⟩ := rd3 _ _ _ h1
    obtain ⟨a2, rfl, _⟩ := rd3 _ _ _ h2
    obtain ⟨a3, rfl, _⟩ := rd3 _ _ _ h3
    exact ⟨⟨a0, a1, a2, a3⟩, rfl⟩
theorem rd28 : RD enc Try.prog W 28 fun cs => ∃ (p : Option Addr) (cap : Nat) (l : List Sample), cs = [.slice p l.length cap] ∧ l.length ≤ cap ∧ RO 4 smpC W p l ∧ ∀ x, x ∈ l → (fun _ => True) x := fun n cs x hx => by
  obtain ⟨p, cap, rows, rfl, h1, h2, h3⟩ := RD.slice Try.underlying28 K44 (by decide) rd44 _ _ _ hx
  obtain ⟨l, rfl, h5⟩ := rows_map (f := smpC) (Q := (fun _ => True)) (fun r hr => by obtain ⟨x, h6⟩ := (h3 r hr).2; exact ⟨x, h6, trivial⟩)
  exact ⟨p, cap, l, by simp, by have := RD.cap Try.underlying28 hx; simpa using this, h2, h5⟩
theorem rd55 : RD enc Try.prog W 55 fun cs => ∃ (p : Option Addr) (cap : Nat) (l : List Int), cs = [.slice p l.length cap] ∧ l.length ≤ cap ∧ RO 1 intC W p l ∧ ∀ x, x ∈ l → (kb .i64) x := fun n cs x hx => by
  obtain ⟨p, cap, rows, rfl, h1, h2, h3⟩ := RD.slice Try.underlying55 K3 (by decide) rd3 _ _ _ hx
  obtain ⟨l, rfl, h5⟩ := rows_map (f := intC) (Q := (kb .i64)) (fun r hr => by obtain ⟨x, h6, h7⟩ := (h3 r hr).2; exact ⟨x, h6, h7⟩)
  exact ⟨p, cap, l, by simp, by have := RD.cap Try.underlying55 hx; simpa using this, h2, h5⟩
end

end Go.Proofs.Ytcnlhifkablmkaa
