/-
  What a reading says of the arguments of the laws about casts.
-/
import Derived.Test.YtdcjeoamhjplmaaWD
import Derived.Test.YtdcjeoamhjplmaaSJ
namespace Go.Proofs.Ytdcjeoamhjplmaa
open Go.SL Go.Proofs Go.Cast
set_option linter.unusedVariables false


theorem K3 : Try.prog.cellsOf 3 = 1 := by kernel_rfl
theorem K23 : Try.prog.cellsOf 23 = 5 := by kernel_rfl
theorem K24 : Try.prog.cellsOf 24 = 1 := by kernel_rfl
theorem K28 : Try.prog.cellsOf 28 = 1 := by kernel_rfl
theorem K30 : Try.prog.cellsOf 30 = 2 := by kernel_rfl
theorem K32 : Try.prog.cellsOf 32 = 4 := by kernel_rfl
theorem K34 : Try.prog.cellsOf 34 = 7 := by kernel_rfl

section
variable {H : Type} {enc : TypeId × Value → H} {W : World}
theorem rd3 : RD enc Try.prog W 3 fun cs => ∃ n, cs = [.int .i64 n] ∧ kb .i64 n := RD.int Try.underlying3
theorem rd28 : RD enc Try.prog W 28 fun cs => ∃ (p : Option Addr) (cap : Nat) (l : List Int), cs = [.slice p l.length cap] ∧ l.length ≤ 9223372036854775807 ∧ Ints W p l ∧ ∀ n, n ∈ l → kb .i64 n := RD.ints Try.underlying28 Try.underlying3 K3
theorem rd30 : RD enc Try.prog W 30 fun cs => ∃ a b, cs = [.int .i64 a, .int .i64 b] ∧ kb .i64 a ∧ kb .i64 b := fun n cs x hx => by
  obtain ⟨css, rfl, hlen, _, hp⟩ := trod_parts Try.underlying30 (zs := [1, 1]) (by kernel_rfl) rfl (by kernel_rfl) hx
  match css, hlen with
  | [c0, c1], _ =>
    obtain ⟨_, _, h0⟩ := hp 0 _ c0 rfl rfl
    obtain ⟨_, _, h1⟩ := hp 1 _ c1 rfl rfl
    obtain ⟨a, rfl, ha⟩ := rd3 _ _ _ h0
    obtain ⟨b, rfl, hb⟩ := rd3 _ _ _ h1
    exact ⟨a, b, rfl, ha, hb⟩
theorem rd32 : RD enc Try.prog W 32 fun cs => ∃ f : Flow, cs = [.int .i64 f.a, .int .i64 f.b, .int .i64 f.c, .int .i64 f.d] ∧ kb .i64 f.a ∧ kb .i64 f.b ∧ kb .i64 f.c ∧ kb .i64 f.d := fun n cs x hx => by
  obtain ⟨css, rfl, hlen, _, hp⟩ := trod_parts Try.underlying32 (zs := [2, 2]) (by kernel_rfl) rfl (by kernel_rfl) hx
  match css, hlen with
  | [c0, c1], _ =>
    obtain ⟨_, _, h0⟩ := hp 0 _ c0 rfl rfl
    obtain ⟨_, _, h1⟩ := hp 1 _ c1 rfl rfl
    obtain ⟨a, b, rfl, ha, hb⟩ := rd30 _ _ _ h0
    obtain ⟨c, d, rfl, hc, hd⟩ := rd30 _ _ _ h1
    exact ⟨⟨a, b, c, d⟩, rfl, ha, hb, hc, hd⟩
theorem rd23 : RD enc Try.prog W 23 fun cs => ∃ g : Grid, cs = [.int .i64 g.x, .int .i64 g.y, .int .i64 g.size, .int .i64 g.wide, .int .i64 g.high] ∧ kb .i64 g.x ∧ kb .i64 g.y ∧ kb .i64 g.size ∧ kb .i64 g.wide ∧ kb .i64 g.high := fun n cs x hx => by
  obtain ⟨css, rfl, hlen, _, hp⟩ := trod_parts Try.underlying23 (zs := [1, 1, 1, 1, 1]) (by kernel_rfl) rfl (by kernel_rfl) hx
  match css, hlen with
  | [c0, c1, c2, c3, c4], _ =>
    obtain ⟨_, _, h0⟩ := hp 0 _ c0 rfl rfl
    obtain ⟨_, _, h1⟩ := hp 1 _ c1 rfl rfl
    obtain ⟨_, _, h2⟩ := hp 2 _ c2 rfl rfl
    obtain ⟨_, _, h3⟩ := hp 3 _ c3 rfl rfl
    obtain ⟨_, _, h4⟩ := hp 4 _ c4 rfl rfl
    obtain ⟨a, rfl, ha⟩ := rd3 _ _ _ h0
    obtain ⟨b, rfl, hb⟩ := rd3 _ _ _ h1
    obtain ⟨c, rfl, hc⟩ := rd3 _ _ _ h2
    obtain ⟨d, rfl, hd⟩ := rd3 _ _ _ h3
    obtain ⟨e, rfl, he⟩ := rd3 _ _ _ h4
    exact ⟨⟨a, b, c, d, e⟩, rfl, ha, hb, hc, hd, he⟩
def CPok (W : World) (x : CP) : Prop := Ints W x.ps x.c.sure ∧ Ints W x.pm x.c.may
theorem rd34 : RD enc Try.prog W 34 fun cs => ∃ x : CP, cs = x.cells ∧ CPok W x ∧ (kb .i64 x.c.flow.a ∧ kb .i64 x.c.flow.b ∧ kb .i64 x.c.flow.c ∧ kb .i64 x.c.flow.d) ∧ kb .i64 x.c.grow := fun n cs x hx => by
  obtain ⟨css, rfl, hlen, _, hp⟩ := trod_parts Try.underlying34 (zs := [1, 1, 4, 1]) (by kernel_rfl) rfl (by kernel_rfl) hx
  match css, hlen with
  | [c0, c1, c2, c3], _ =>
    obtain ⟨_, _, h0⟩ := hp 0 _ c0 rfl rfl
    obtain ⟨_, _, h1⟩ := hp 1 _ c1 rfl rfl
    obtain ⟨_, _, h2⟩ := hp 2 _ c2 rfl rfl
    obtain ⟨_, _, h3⟩ := hp 3 _ c3 rfl rfl
    obtain ⟨p, cp, l, rfl, _, hl, _⟩ := rd28 _ _ _ h0
    obtain ⟨q, cq, m, rfl, _, hm, _⟩ := rd28 _ _ _ h1
    obtain ⟨f, rfl, hf⟩ := rd32 _ _ _ h2
    obtain ⟨g, rfl, hg⟩ := rd3 _ _ _ h3
    exact ⟨⟨⟨l, m, f, g⟩, p, cp, q, cq⟩, rfl, ⟨hl, hm⟩, hf, hg⟩
theorem rd24 : RD enc Try.prog W 24 fun cs => ∃ (p : Option Addr) (cap : Nat) (l : List CP), cs = [.slice p l.length cap] ∧ CloudsU W p l := fun n cs x hx => by
  obtain ⟨p, cap, rows, rfl, h1, h2, h3⟩ := RD.slice Try.underlying24 K34 (by decide) rd34 _ _ _ hx
  obtain ⟨l, rfl, h5⟩ := rows_map (f := CP.cells) (Q := CPok W) (fun r hr => by obtain ⟨x, h6, h7, _⟩ := (h3 r hr).2; exact ⟨x, h6, h7⟩)
  exact ⟨p, cap, l, by simp, h2, h5⟩
end

end Go.Proofs.Ytdcjeoamhjplmaa
