/-
  Readings of sweeps.
-/
import Derived.Test.YtcnlhifkablmkaaR
import Derived.Test.YtcnlhifkablmkaaWT
namespace Go.Proofs.Ytcnlhifkablmkaa
open Go.SL Go.Proofs Go.Pulse
set_option linter.unusedVariables false


theorem K9 : Try.prog.cellsOf 9 = 1 := by kernel_rfl
theorem K32 : Try.prog.cellsOf 32 = 14 := by kernel_rfl
theorem K92 : Try.prog.cellsOf 92 = 8 := by kernel_rfl
theorem K50 : Try.prog.cellsOf 50 = 1 := by kernel_rfl
theorem K93 : Try.prog.cellsOf 93 = 1 := by kernel_rfl
theorem K95 : Try.prog.cellsOf 95 = 11 := by kernel_rfl
section
variable {H : Type} {enc : TypeId × Value → H} {W : World}
theorem rd9 : RD enc Try.prog W 9 fun cs => ∃ s : ByteArray, cs = [.string s] ∧ s.size ≤ maxLen := RD.string Try.underlying9
theorem rd92 : RD enc Try.prog W 92 fun cs => ∃ s : Site, cs = siteC s := fun n cs x hx => by
  obtain ⟨css, rfl, hlen, _, hp⟩ := trod_parts Try.underlying92 (zs := [1, 1, 1, 1, 1, 1, 1, 1]) (by kernel_rfl) rfl (by kernel_rfl) hx
  match css, hlen with
  | [c0, c1, c2, c3, c4, c5, c6, c7], _ =>
    obtain ⟨_, _, h0⟩ := hp 0 _ c0 rfl rfl
    obtain ⟨_, _, h1⟩ := hp 1 _ c1 rfl rfl
    obtain ⟨_, _, h2⟩ := hp 2 _ c2 rfl rfl
    obtain ⟨_, _, h3⟩ := hp 3 _ c3 rfl rfl
    obtain ⟨_, _, h4⟩ := hp 4 _ c4 rfl rfl
    obtain ⟨_, _, h5⟩ := hp 5 _ c5 rfl rfl
    obtain ⟨_, _, h6⟩ := hp 6 _ c6 rfl rfl
    obtain ⟨_, _, h7⟩ := hp 7 _ c7 rfl rfl
    obtain ⟨nm, rfl, _⟩ := rd9 _ _ _ h0
    obtain ⟨a0, rfl, _⟩ := rd3 _ _ _ h1
    obtain ⟨a1, rfl, _⟩ := rd3 _ _ _ h2
    obtain ⟨a2, rfl, _⟩ := rd3 _ _ _ h3
    obtain ⟨a3, rfl, _⟩ := rd3 _ _ _ h4
    obtain ⟨a4, rfl, _⟩ := rd3 _ _ _ h5
    obtain ⟨a5, rfl, _⟩ := rd3 _ _ _ h6
    obtain ⟨a6, rfl, _⟩ := rd3 _ _ _ h7
    exact ⟨⟨nm, a0, a1, a2, a3, a4, a5, a6⟩, rfl⟩
theorem rd50 : RD enc Try.prog W 50 fun cs => ∃ (p : Option Addr) (cap : Nat) (l : List Echo), cs = [.slice p l.length cap] ∧ l.length ≤ cap ∧ RO 14 echoC W p l ∧ ∀ x, x ∈ l → (fun _ => True) x := fun n cs x hx => by
  obtain ⟨p, cap, rows, rfl, h1, h2, h3⟩ := RD.slice Try.underlying50 K32 (by decide) rd32 _ _ _ hx
  obtain ⟨l, rfl, h5⟩ := rows_map (f := echoC) (Q := (fun _ => True)) (fun r hr => by obtain ⟨x, h6⟩ := (h3 r hr).2; exact ⟨x, h6, trivial⟩)
  exact ⟨p, cap, l, by simp, by have := RD.cap Try.underlying50 hx; simpa using this, h2, h5⟩
theorem rd93 : RD enc Try.prog W 93 fun cs => ∃ (p : Option Addr) (cap : Nat) (l : List ERow), cs = [.slice p l.length cap] ∧ l.length ≤ cap ∧ RO 1 rowC W p l ∧ ∀ x, x ∈ l → (fun x => x.l.length ≤ x.c ∧ RO 14 echoC W x.p x.l) x := fun n cs x hx => by
  obtain ⟨p, cap, rows, rfl, h1, h2, h3⟩ := RD.slice Try.underlying93 K50 (by decide) rd50 _ _ _ hx
  obtain ⟨l, rfl, h5⟩ := rows_map (f := rowC) (Q := (fun x => x.l.length ≤ x.c ∧ RO 14 echoC W x.p x.l)) (fun r hr => by obtain ⟨p, c, l, h6, h7, h8, _⟩ := (h3 r hr).2; exact ⟨⟨p, c, l⟩, h6, h7, h8⟩)
  exact ⟨p, cap, l, by simp, by have := RD.cap Try.underlying93 hx; simpa using this, h2, h5⟩
theorem rd95 : RD enc Try.prog W 95 fun cs => ∃ (s : Site) (ti tm : Int) (p : Option Addr) (c : Nat) (rs : List ERow), cs = sweepC s ti tm p rs.length c ∧ ERows W p rs := fun n cs x hx => by
  obtain ⟨css, rfl, hlen, _, hp⟩ := trod_parts Try.underlying95 (zs := [8, 1, 1, 1]) (by kernel_rfl) rfl (by kernel_rfl) hx
  match css, hlen with
  | [c0, c1, c2, c3], _ =>
    obtain ⟨_, _, h0⟩ := hp 0 _ c0 rfl rfl
    obtain ⟨_, _, h1⟩ := hp 1 _ c1 rfl rfl
    obtain ⟨_, _, h2⟩ := hp 2 _ c2 rfl rfl
    obtain ⟨_, _, h3⟩ := hp 3 _ c3 rfl rfl
    obtain ⟨s, rfl⟩ := rd92 _ _ _ h0
    obtain ⟨ti, rfl, _⟩ := rd3 _ _ _ h1
    obtain ⟨tm, rfl, _⟩ := rd3 _ _ _ h2
    obtain ⟨p, c, rs, rfl, _, hl, hq⟩ := rd93 _ _ _ h3
    exact ⟨s, ti, tm, p, c, rs, rfl, hl, hq⟩
end

end Go.Proofs.Ytcnlhifkablmkaa
