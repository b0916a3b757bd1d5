/-
  What a reading says of clouds by numbers.
-/
import Derived.Test.YtdcjeoamhjplmaaWH
import Derived.Test.YtdcjeoamhjplmaaR
namespace Go.Proofs.Ytdcjeoamhjplmaa
open Go.SL Go.Proofs Go.Cast
set_option linter.unusedVariables false


theorem K5 : Try.prog.cellsOf 5 = 1 := by kernel_rfl
theorem K21 : Try.prog.cellsOf 21 = 1 := by kernel_rfl
theorem K45 : Try.prog.cellsOf 45 = 1 := by kernel_rfl
theorem K46 : Try.prog.cellsOf 46 = 2 := by kernel_rfl
theorem K47 : Try.prog.cellsOf 47 = 1 := by kernel_rfl
theorem K49 : Try.prog.cellsOf 49 = 8 := by kernel_rfl
theorem K50 : Try.prog.cellsOf 50 = 1 := by kernel_rfl

theorem kb_u8 {n : Int} (h : kb .u8 n) : 0 ≤ n ∧ n ≤ 255 := by simpa [kb, IntKind.min, IntKind.max, IntKind.signed, IntKind.bits] using h
theorem kb_u16 {n : Int} (h : kb .u16 n) : 0 ≤ n ∧ n ≤ 65535 := by simpa [kb, IntKind.min, IntKind.max, IntKind.signed, IntKind.bits] using h
theorem kb_u32 {n : Int} (h : kb .u32 n) : 0 ≤ n ∧ n ≤ 4294967295 := by simpa [kb, IntKind.min, IntKind.max, IntKind.signed, IntKind.bits] using h
theorem kb_i32 {n : Int} (h : kb .i32 n) : -2147483648 ≤ n ∧ n ≤ 2147483647 := by simpa [kb, IntKind.min, IntKind.max, IntKind.signed, IntKind.bits] using h
theorem kb_i64 {n : Int} (h : kb .i64 n) : -9223372036854775808 ≤ n ∧ n ≤ 9223372036854775807 := by simpa [kb, IntKind.min, IntKind.max, IntKind.signed, IntKind.bits] using h
section
variable {H : Type} {enc : TypeId × Value → H} {W : World}
theorem rd5 : RD enc Try.prog W 5 fun cs => ∃ n, cs = [.int .u8 n] ∧ kb .u8 n := RD.int Try.underlying5
theorem rd21 : RD enc Try.prog W 21 fun cs => ∃ n, cs = [.int .i32 n] ∧ kb .i32 n := RD.int Try.underlying21
theorem rd47 : RD enc Try.prog W 47 fun cs => ∃ n, cs = [.int .u16 n] ∧ kb .u16 n := RD.int Try.underlying47
theorem rd50 : RD enc Try.prog W 50 fun cs => ∃ n, cs = [.int .u32 n] ∧ kb .u32 n := RD.int Try.underlying50
theorem rd46 : RD enc Try.prog W 46 fun cs => ∃ a b, cs = [.int .i32 a, .int .i32 b] ∧ kb .i32 a ∧ kb .i32 b := fun n cs x hx => by
  obtain ⟨css, rfl, hlen, hp⟩ := trod_cells Try.underlying46 K21 K46 hx rd21
  match css, hlen with
  | [c0, c1], _ =>
    obtain ⟨_, a, rfl, ha⟩ := hp c0 (by simp)
    obtain ⟨_, b, rfl, hb⟩ := hp c1 (by simp)
    exact ⟨a, b, rfl, ha, hb⟩
theorem rd45 : RD enc Try.prog W 45 fun cs => ∃ (p : Option Addr) (cap : Nat) (l : List Int), cs = [.slice p l.length cap] ∧ Byts W p l ∧ ∀ n, n ∈ l → kb .u8 n := fun n cs x hx => by
  obtain ⟨p, cap, rows, rfl, h1, h2, h3⟩ := RD.slice Try.underlying45 K5 (by decide) rd5 _ _ _ hx
  obtain ⟨l, rfl, h5⟩ := rows_map (f := fun n => [Value.int .u8 n]) (Q := kb .u8) (fun r hr => (h3 r hr).2)
  exact ⟨p, cap, l, by simp, h2, h5⟩
theorem rd49 : RD enc Try.prog W 49 fun cs => ∃ (d : Draft) (p : Option Addr) (cap : Nat), cs = [.int .u8 d.wide, .int .u8 d.high, .slice p d.pix.length cap, .int .i32 d.x0, .int .i32 d.x1, .int .i32 d.y0, .int .i32 d.y1, .int .u16 d.grow] ∧ dOk d ∧ Byts W p d.pix := fun n cs x hx => by
  obtain ⟨css, rfl, hlen, _, hp⟩ := trod_parts Try.underlying49 (zs := [1, 1, 1, 2, 2, 1]) (by kernel_rfl) rfl (by kernel_rfl) hx
  match css, hlen with
  | [c0, c1, c2, c3, c4, c5], _ =>
    obtain ⟨_, _, h0⟩ := hp 0 _ c0 rfl rfl
    obtain ⟨_, _, h1⟩ := hp 1 _ c1 rfl rfl
    obtain ⟨_, _, h2⟩ := hp 2 _ c2 rfl rfl
    obtain ⟨_, _, h3⟩ := hp 3 _ c3 rfl rfl
    obtain ⟨_, _, h4⟩ := hp 4 _ c4 rfl rfl
    obtain ⟨_, _, h5⟩ := hp 5 _ c5 rfl rfl
    obtain ⟨a, rfl, ha⟩ := rd5 _ _ _ h0
    obtain ⟨b, rfl, hb⟩ := rd5 _ _ _ h1
    obtain ⟨p, cap, l, rfl, hl, _⟩ := rd45 _ _ _ h2
    obtain ⟨x0, x1, rfl, hx0, hx1⟩ := rd46 _ _ _ h3
    obtain ⟨y0, y1, rfl, hy0, hy1⟩ := rd46 _ _ _ h4
    obtain ⟨gr, rfl, hgr⟩ := rd47 _ _ _ h5
    exact ⟨⟨a, b, l, x0, x1, y0, y1, gr⟩, p, cap, rfl, ⟨kb_u8 ha, kb_u8 hb, kb_i32 hx0, kb_i32 hx1, kb_i32 hy0, kb_i32 hy1, kb_u16 hgr⟩, hl⟩
end

end Go.Proofs.Ytdcjeoamhjplmaa
