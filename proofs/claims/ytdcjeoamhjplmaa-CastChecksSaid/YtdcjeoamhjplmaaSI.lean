/-
  Empty literals among blocks whose order is open.
-/
import Derived.Test.YtdcjeoamhjplmaaSU
import Derived.Test.YtdcjeoamhjplmaaSB
namespace Go.SL
set_option linter.unusedVariables false
open Go.RowKit
section
variable {P : Program} {β : Bs} {env : Env} {L L' : List Res}
theorem FO.bs0 {T E z d i : Nat} {ty : TypeId} {pos : String} {aft : Array Edge} (hT : IsSlice P T E) (hs : (P.info? E).map (·.size) = some z) : FO P env ⟨some d, .buildSlice T 0 #[], ty, pos, aft, none⟩ ⟨i, d, fun b => .slice (some ⟨b, 0, none⟩) 0 0, E, #[]⟩ :=
  ⟨rfl, rfl, fun a w _ => by
    simp [execOp, Instr.buildSlice, run_underlying hT, run_size hs, Instr.fill, newRow]
    rw [Array.eq_empty_of_size_eq_zero (xs := Array.map (fun x => default) (Array.range 0)) (by simp)]⟩
theorem HO.pre {o : Oper} {K : Value → List Res → Prop} (hc : ∀ w, St β L w → St β L' w) (h : HO P β env L' o K) : HO P β env L o K := fun a w ha hw => h a w ha (hc w hw)
theorem St.blkOwn {E b : Nat} {w : World} (i z : Nat) (hi : L[i]? = some (blk b (.cells #[] E))) (hw : St β L w) : St β (L.set i (own E z (some ⟨b, 0, none⟩) 0 [])) w :=
  hw.conv i hi (fun k hk => hk.2) ⟨by simp, by simp, fun q => (by cases q), fun a ha => by cases ha; exact ⟨rfl, rfl, #[], [], hw.inv i _ hi, rfl, by simp⟩⟩
variable {ty : TypeId} {pos : String} {aft : Array Edge} {dd : Option Nat}
/-- append(x, y...), x empty and owned, y read. -/
theorem HO.appN0 {α : Type} {f : α → List Value} {m : List α} (i : Nat) (LF : Res → List Res) {K : Value → List Res → Prop} {x y : Operand} {T T' E z by_ : Nat} {aT : Array TypeId} {zero : Value} {p q : Option Addr} {n2 cap c2 : Nat} (hT : IsSlice P T E) (hT' : IsSlice P T' E) (hE : EInfo P E z by_ zero) (hx : OV env x (.slice p 0 cap)) (hy : OV env y (.slice q n2 c2))
    (hi : L[i]? = some (own E z p cap [])) (hq : ∀ w, St β L w → Go.SL.Rows w z q (m.map f)) (hz : ∀ a, (f a).length = z) (h1 : ∀ a, allOne (f a) = true) (ha0 : aT[0]? = some T) (ha1 : aT[1]? = some T') (hL : ∀ R : Res, L.set i R = LF R) (hn2 : n2 = m.length) (hs : (2 * n2 + 768) * by_ ≤ 281474976710656)
    (k : ∀ p' cap', (m ≠ [] ∨ p ≠ none → p' ≠ none) → K (.slice p' n2 cap') (LF (own E z p' cap' (m.map f)))) : HO P β env L ⟨dd, .call ⟨.builtin .append, #[x, y], aT⟩, ty, pos, aft, none⟩ K :=
  HO.appN (f := f) (l := []) (m := m) i LF hT hT' hE hx hy hi hq hz h1 ha0 ha1 hL rfl hn2 (by rw [Nat.zero_add]; exact hs) (fun p' c' h => by rw [Nat.zero_add]; exact k p' c' h)
end
end Go.SL
