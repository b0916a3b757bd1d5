/-
  What a reading says of the arguments of CastChecks.
-/
import Derived.Test.YtdcjeoamhjplmaaWZ
import Derived.Test.YtdcjeoamhjplmaaSJ
namespace Go.Proofs.Ytdcjeoamhjplmaa
open Go.SL Go.Proofs Go.Cast
set_option linter.unusedVariables false


theorem K3 : Try.prog.cellsOf 3 = 1 := by kernel_rfl
theorem K23 : Try.prog.cellsOf 23 = 5 := by kernel_rfl
theorem K24 : Try.prog.cellsOf 24 = 1 := by kernel_rfl
theorem K28 : Try.prog.cellsOf 28 = 1 := by kernel_rfl
theorem K30 : Try.prog.cellsOf 30 = 2 := by kernel_rfl
theorem K32 : Try.prog.cellsOf 32 = 4 := by kernel_rfl
theorem K34 : Try.prog.cellsOf 34 = 7 := by kernel_rfl

section
variable {H : Type} {enc : TypeId × Value → H} {W : World}
theorem rd3 : RD enc Try.prog W 3 fun cs => ∃ n, cs = [.int .i64 n] ∧ kb .i64 n := RD.int Try.underlying3
theorem rd28 : RD enc Try.prog W 28 fun cs => ∃ (p : Option Addr) (cap : Nat) (l : List Int), cs = [.slice p l.length cap] ∧ l.length ≤ 9223372036854775807 ∧ Ints W p l ∧ ∀ n, n ∈ l → kb .i64 n := RD.ints Try.underlying28 Try.underlying3 K3
theorem rd30 : RD enc Try.prog W 30 fun cs => ∃ a b, cs = [.int .i64 a, .int .i64 b] ∧ kb .i64 a ∧ kb .i64 b := fun n cs x hx => by
  obtain ⟨css, rfl, hlen, _, hp⟩ := trod_parts Try.underlying30 (zs := [1, 1]) (by kernel_rfl) rfl (by kernel_rfl) hx
  match css, hlen with
  | [c0, c1], _ =>
    obtain ⟨_, _, h0⟩ := hp 0 _ c0 rfl rfl
    obtain ⟨_, _, h1⟩ := hp 1 _ c1 rfl rfl
    obtain ⟨a, rfl, ha⟩ := rd3 _ _ _ h0
    obtain ⟨b, rfl, hb⟩ := rd3 _ _ _ h1
    exact ⟨a, b, rfl, ha, hb⟩
theorem rd32 : RD enc Try.prog W 32 fun cs => ∃ f : Flow, cs = [.int .i64 f.a, .int .i64 f.b, .int .i64 f.c, .int .i64 f.d] ∧ kb .i64 f.a ∧ kb .i64 f.b ∧ kb .i64 f.c ∧ kb .i64 f.d := fun n cs x hx => by
  obtain ⟨css, rfl, hlen, _, hp⟩ := trod_parts Try.underlying32 (zs := [2, 2]) (by kernel_rfl) rfl (by kernel_rfl) hx
  match css, hlen with
  | [c0, c1], _ =>
    obtain ⟨_, _, h0⟩ := hp 0 _ c0 rfl rfl
    obtain ⟨_, _, h1⟩ := hp 1 _ c1 rfl rfl
    obtain ⟨a, b, rfl, ha, hb⟩ := rd30 _ _ _ h0
    obtain ⟨c, d, rfl, hc, hd⟩ := rd30 _ _ _ h1
    exact ⟨⟨a, b, c, d⟩, rfl, ha, hb, hc, hd⟩
theorem rd23 : RD enc Try.prog W 23 fun cs => ∃ g : Grid, cs = [.int .i64 g.x, .int .i64 g.y, .int .i64 g.size, .int .i64 g.wide, .int .i64 g.high] ∧ kb .i64 g.x ∧ kb .i64 g.y ∧ kb .i64 g.size ∧ kb .i64 g.wide ∧ kb .i64 g.high := fun n cs x hx => by
  obtain ⟨css, rfl, hlen, _, hp⟩ := trod_parts Try.underlying23 (zs := [1, 1, 1, 1, 1]) (by kernel_rfl) rfl (by kernel_rfl) hx
  match css, hlen with
  | [c0, c1, c2, c3, c4], _ =>
    obtain ⟨_, _, h0⟩ := hp 0 _ c0 rfl rfl
    obtain ⟨_, _, h1⟩ := hp 1 _ c1 rfl rfl
    obtain ⟨_, _, h2⟩ := hp 2 _ c2 rfl rfl
    obtain ⟨_, _, h3⟩ := hp 3 _ c3 rfl rfl
    obtain ⟨_, _, h4⟩ := hp 4 _ c4 rfl rfl
    obtain ⟨a, rfl, ha⟩ := rd3 _ _ _ h0
    obtain ⟨b, rfl, hb⟩ := rd3 _ _ _ h1
    obtain ⟨c, rfl, hc⟩ := rd3 _ _ _ h2
    obtain ⟨d, rfl, hd⟩ := rd3 _ _ _ h3
    obtain ⟨e, rfl, he⟩ := rd3 _ _ _ h4
    exact ⟨⟨a, b, c, d, e⟩, rfl, ha, hb, hc, hd, he⟩
def CPok (W : World) (x : CP) : Prop := Ints W x.ps x.c.sure ∧ Ints W x.pm x.c.may
theorem rd34 : RD enc Try.prog W 34 fun cs => ∃ x : CP, cs = x.cells ∧ CPok W x ∧ (kb .i64 x.c.flow.a ∧ kb .i64 x.c.flow.b ∧ kb .i64 x.c.flow.c ∧ kb .i64 x.c.flow.d) ∧ kb .i64 x.c.grow := fun n cs x hx => by
  obtain ⟨css, rfl, hlen, _, hp⟩ := trod_parts Try.underlying34 (zs := [1, 1, 4, 1]) (by kernel_rfl) rfl (by kernel_rfl) hx
  match css, hlen with
  | [c0, c1, c2, c3], _ =>
    obtain ⟨_, _, h0⟩ := hp 0 _ c0 rfl rfl
    obtain ⟨_, _, h1⟩ := hp 1 _ c1 rfl rfl
    obtain ⟨_, _, h2⟩ := hp 2 _ c2 rfl rfl
    obtain ⟨_, _, h3⟩ := hp 3 _ c3 rfl rfl
    obtain ⟨p, cp, l, rfl, _, hl, _⟩ := rd28 _ _ _ h0
    obtain ⟨q, cq, m, rfl, _, hm, _⟩ := rd28 _ _ _ h1
    obtain ⟨f, rfl, hf⟩ := rd32 _ _ _ h2
    obtain ⟨g, rfl, hg⟩ := rd3 _ _ _ h3
    exact ⟨⟨⟨l, m, f, g⟩, p, cp, q, cq⟩, rfl, ⟨hl, hm⟩, hf, hg⟩

theorem kb_i64 {n : Int} (h : kb .i64 n) : -9223372036854775808 ≤ n ∧ n ≤ 9223372036854775807 := by simpa [kb, IntKind.min, IntKind.max, IntKind.signed, IntKind.bits] using h
def IRok (W : World) (x : IRow) : Prop := (x.l.length ≤ x.c ∧ Ints W x.p x.l) ∧ ∀ n, n ∈ x.l → kb .i64 n
theorem rd28c : RD enc Try.prog W 28 fun cs => ∃ (p : Option Addr) (cap : Nat) (l : List Int), cs = [.slice p l.length cap] ∧ l.length ≤ cap ∧ Ints W p l ∧ ∀ n, n ∈ l → kb .i64 n := fun n cs x hx => by
  obtain ⟨p, cap, l, rfl, _, h2, h3⟩ := rd28 _ _ _ hx
  exact ⟨p, cap, l, rfl, by have := RD.cap Try.underlying28 hx; simpa using this, h2, h3⟩
theorem rd104 : RD enc Try.prog W 104 fun cs => ∃ (p : Option Addr) (cap : Nat) (l : List IRow), cs = [.slice p l.length cap] ∧ RO 1 rowC W p l ∧ ∀ x, x ∈ l → IRok W x := fun n cs x hx => by
  obtain ⟨p, cap, rows, rfl, h1, h2, h3⟩ := RD.slice Try.underlying104 K28 (by decide) rd28c _ _ _ hx
  obtain ⟨l, rfl, h5⟩ := rows_map (f := rowC) (Q := IRok W) (fun r hr => by obtain ⟨p, c, l, h6, h7, h8, h9⟩ := (h3 r hr).2; exact ⟨⟨p, c, l⟩, h6, ⟨h7, h8⟩, h9⟩)
  exact ⟨p, cap, l, by simp, h2, h5⟩
theorem rd106 : RD enc Try.prog W 106 fun cs => ∃ (q : Six) (l : List Int) (pp : Option Addr) (cp : Nat) (rs : List IRow) (pk : Option Addr) (ck : Nat), cs = [.slice pp l.length cp, .slice pk rs.length ck, .int .i64 q.a, .int .i64 q.b, .int .i64 q.c, .int .i64 q.d, .int .i64 q.e, .int .i64 q.f] ∧ Ints W pp l ∧ IRows W pk rs ∧ ∀ n, n ∈ catI rs → -9223372036854775808 ≤ n ∧ n ≤ 9223372036854775807 := fun n cs x hx => by
  obtain ⟨css, rfl, hlen, _, hp⟩ := trod_parts Try.underlying106 (zs := [1, 1, 2, 2, 2]) (by kernel_rfl) rfl (by kernel_rfl) hx
  match css, hlen with
  | [c0, c1, c2, c3, c4], _ =>
    obtain ⟨_, _, h0⟩ := hp 0 _ c0 rfl rfl
    obtain ⟨_, _, h1⟩ := hp 1 _ c1 rfl rfl
    obtain ⟨_, _, h2⟩ := hp 2 _ c2 rfl rfl
    obtain ⟨_, _, h3⟩ := hp 3 _ c3 rfl rfl
    obtain ⟨_, _, h4⟩ := hp 4 _ c4 rfl rfl
    obtain ⟨pp, cp, l, rfl, _, hl, _⟩ := rd28 _ _ _ h0
    obtain ⟨pk, ck, rs, rfl, hr, hq⟩ := rd104 _ _ _ h1
    obtain ⟨a, b, rfl, _⟩ := rd30 _ _ _ h2
    obtain ⟨c, d, rfl, _⟩ := rd30 _ _ _ h3
    obtain ⟨e, f, rfl, _⟩ := rd30 _ _ _ h4
    refine ⟨⟨a, b, c, d, e, f⟩, l, pp, cp, rs, pk, ck, rfl, hl, ⟨hr, fun x hx => (hq x hx).1⟩, fun n hn => ?_⟩
    obtain ⟨r, hr, hn⟩ := List.mem_flatten.1 hn
    obtain ⟨x, hx, rfl⟩ := List.mem_map.1 hr
    exact kb_i64 ((hq x hx).2 n hn)
end

end Go.Proofs.Ytdcjeoamhjplmaa
