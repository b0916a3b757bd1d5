/-
  The predicate of names.
-/
import Derived.Test.YtcnlhifkablmkaaWL
import Derived.Test.YtcnlhifkablmkaaSS
import Derived.Test.YtcnlhifkablmkaaSZ
import Derived.Test.YtcnlhifkablmkaaH
namespace Go.Proofs.Ytcnlhifkablmkaa
open Go.SL Go.Proofs Go.Pulse
set_option linter.unusedVariables false

theorem C112 : IsFn Try.prog 112 := ⟨_, Try.func112, by decide, rfl⟩
theorem C113 : IsFn Try.prog 113 := ⟨_, Try.func113, by decide, rfl⟩
theorem C99 : IsFn Try.prog 99 := ⟨_, Try.func99, by decide, rfl⟩
theorem C94 : IsFn Try.prog 94 := ⟨_, Try.func94, by decide, rfl⟩
theorem C93 : IsFn Try.prog 93 := ⟨_, Try.func93, by decide, rfl⟩
theorem C111 : IsFn Try.prog 111 := ⟨_, Try.func111, by decide, rfl⟩
theorem C98 : IsFn Try.prog 98 := ⟨_, Try.func98, by decide, rfl⟩


def hayS : ByteArray := ⟨#[97, 98, 99, 100, 101, 102, 103, 104, 105, 106, 107, 108, 109, 110, 111, 112, 113, 114, 115, 116, 117, 118, 119, 120, 121, 122, 48, 49, 50, 51, 52, 53, 54, 55, 56, 57, 95]⟩
/-- What may stand in a name. -/
def nameR (r : Nat) : Bool := (decide (97 ≤ r) && decide (r ≤ 122)) || (decide (48 ≤ r) && decide (r ≤ 57)) || decide (r = 95)
def pN (r : Nat) : Bool := !nameR r
theorem pN_high (r : Nat) (h : 128 ≤ r) : pN r = true := by unfold pN nameR; simp; omega
theorem hay_ascii : ∀ b ∈ hayS.data.toList, b.toNat < 128 := by decide
theorem hay_has : ∀ n : Fin 128, decide (0 ≤ Lib.indexByte hayS.data.toList n.val.toUInt8) = nameR n.val := by decide +kernel
def runeIx (s : ByteArray) (r : Int) : Int := if r < 128 then Lib.indexByte s.data.toList r.toNat.toUInt8 else -1
theorem hay_rune (r : Nat) : decide (0 ≤ runeIx hayS (r : Int)) = nameR r := by
  unfold runeIx
  by_cases h : r < 128
  · rw [if_pos (by omega)]
    exact hay_has ⟨r, h⟩
  · rw [if_neg (by omega)]
    have := pN_high r (by omega)
    unfold pN at this
    simp at this
    rw [this]; rfl
theorem u8_of {r : Int} (h0 : 0 ≤ r) (h1 : r < 128) : IntKind.u8.wrap r = r := by
  have e : r % 256 = r := by omega
  unfold IntKind.wrap
  simp [IntKind.bits, IntKind.signed, e]
theorem St.of_eq {w w' : World} (h : w' = w) : St (bs w) [] w' := by subst h; exact St.refl _
theorem byteN (c : UInt8) : ((c.toNat : Nat) : Int).toNat.toUInt8 = c := by simp
theorem enc_f {r : Int} (hv : Lib.validRune r = true) (h : 128 ≤ r) : 2 ≤ (Utf8.encode r).size ∧ (Utf8.encode r).size ≤ 4 ∧ 128 ≤ ((Utf8.encode r).data.toList.getD ((Utf8.encode r).size - 1) 0).toNat := by
  have hv2 : Utf8.valid r = true := by rw [validRune_eq]; exact hv
  obtain ⟨h1, h2, h3⟩ := encode_facts r hv2 h
  refine ⟨h1, h2, ?_⟩
  have hl : (Utf8.encode r).size - 1 < (Utf8.encode r).data.toList.length := by
    rw [Array.length_toList]; exact (show (Utf8.encode r).size - 1 < (Utf8.encode r).size by omega)
  have := h3 (by omega)
  simp only [List.getD, List.getElem?_eq_getElem hl, Option.getD_some]
  exact this
theorem byte_lt {s : ByteArray} (hs : ∀ b ∈ s.data.toList, b.toNat < 128) (j : Nat) : (s.data.toList.getD j 0).toNat < 128 := by
  rcases Nat.lt_or_ge j s.data.toList.length with h | h
  · exact hs _ (getD_mem h)
  · rw [List.getD_eq_getElem?_getD, List.getElem?_eq_none h]; decide
theorem ix_none {s : ByteArray} {a e : Nat} {c : UInt8} (hs : ∀ b ∈ s.data.toList, b.toNat < 128) (hc : 128 ≤ c.toNat) : Lib.indexByte (s.extract a e).data.toList ((c.toNat : Nat) : Int).toNat.toUInt8 = -1 := by
  rw [byteN, ← Lib.firstIdx_eq]; exact firstIdx_ascii s a e c hs hc
theorem dec_lt {s : ByteArray} (hs : ∀ b ∈ s.data.toList, b.toNat < 128) {q : Nat} (hq : q < s.size) : (Utf8.decode s q).1 < 128 := by
  have h : (s[q]'hq).toNat < 128 := hs _ (Array.getElem_mem_toList (xs := s.data) hq)
  rw [decode_ascii s q hq h]; exact h

set_option maxRecDepth 20000 in
theorem validRune_c (r : Int) (w : World) :
  Calls Try.prog 113 #[.int .i32 r] w fun e w' => e = .returned (.bool (Lib.validRune r)) ∧ St (bs w) [] w' := by
  refine enter (vs := [_]) (env := [(0, _)]) Try.func113 rfl rfl rfl rfl ?_
  refine VC.seq ?_
  refine VC.reg (VO.l (LO.as (.r rfl)) rfl <| VO.nil ?_)
  refine VE.seqN ?_
  refine VC.seq ?_
  refine VC.block ?_
  refine VC.seq ?_
  refine VC.reg (VO.l (LO.mv (.r rfl)) rfl <| VO.l (LO.le (.r rfl) (.r rfl)) rfl <| VO.l (LO.mv (.r rfl)) rfl <| VO.lg rfl rfl (GD.t _) (fun hg => LO.mv (.r rfl)) rfl <| VO.lg rfl rfl (GD.t _) (fun hg => LO.lt (.g hg rfl) (.r rfl)) rfl <| VO.l (LO.pkA (.r rfl) rfl rfl (.r rfl)) rfl <| VO.l (LO.as (.r rfl)) rfl <| VO.nil ?_)
  refine VE.seqN ?_
  refine VC.cond rfl (fun h1 => ?_) (fun h1 => ?_)
  ·
    refine VC.seq ?_
    refine VC.reg (VO.l (LO.as (.r rfl)) rfl <| VO.nil ?_)
    refine VE.seqN ?_
    refine VC.ret (VE.inR (VE.thenR (VE.res (vs := [_]) rfl ⟨rfl, trivial⟩ (fun w hw => ?_))))
    exact ⟨by simp only [resV, Lib.validRune]; first | rw [decide_eq_true (show (0 ≤ r ∧ r < 0xD800) ∨ (0xDFFF < r ∧ r ≤ 0x10FFFF) by omega)] | rw [decide_eq_false (show ¬ ((0 ≤ r ∧ r < 0xD800) ∨ (0xDFFF < r ∧ r ≤ 0x10FFFF)) by omega)], hw.nil⟩
  ·
    refine VC.seq ?_
    refine VC.reg (VO.l (LO.mv (.r rfl)) rfl <| VO.l (LO.lt (.r rfl) (.r rfl)) rfl <| VO.l (LO.mv (.r rfl)) rfl <| VO.lg rfl rfl (GD.t _) (fun hg => LO.mv (.r rfl)) rfl <| VO.lg rfl rfl (GD.t _) (fun hg => LO.le (.g hg rfl) (.r rfl)) rfl <| VO.l (LO.pkA (.r rfl) rfl rfl (.r rfl)) rfl <| VO.l (LO.as (.r rfl)) rfl <| VO.nil ?_)
    refine VE.seqN ?_
    refine VC.cond rfl (fun h2 => ?_) (fun h2 => ?_)
    ·
      refine VC.seq ?_
      refine VC.reg (VO.l (LO.as (.r rfl)) rfl <| VO.nil ?_)
      refine VE.seqN ?_
      refine VC.ret (VE.inR (VE.thenR (VE.res (vs := [_]) rfl ⟨rfl, trivial⟩ (fun w hw => ?_))))
      exact ⟨by simp only [resV, Lib.validRune]; first | rw [decide_eq_true (show (0 ≤ r ∧ r < 0xD800) ∨ (0xDFFF < r ∧ r ≤ 0x10FFFF) by omega)] | rw [decide_eq_false (show ¬ ((0 ≤ r ∧ r < 0xD800) ∨ (0xDFFF < r ∧ r ≤ 0x10FFFF)) by omega)], hw.nil⟩
    ·
      refine VC.skip (VE.inN (VE.seqN ?_))
      refine VC.seq ?_
      refine VC.reg (VO.l (LO.as (.r rfl)) rfl <| VO.nil ?_)
      refine VE.seqN ?_
      refine VC.ret (VE.res (vs := [_]) rfl ⟨rfl, trivial⟩ (fun w hw => ?_))
      exact ⟨by simp only [resV, Lib.validRune]; first | rw [decide_eq_true (show (0 ≤ r ∧ r < 0xD800) ∨ (0xDFFF < r ∧ r ≤ 0x10FFFF) by omega)] | rw [decide_eq_false (show ¬ ((0 ≤ r ∧ r < 0xD800) ∨ (0xDFFF < r ∧ r ≤ 0x10FFFF)) by omega)], hw.nil⟩

set_option maxRecDepth 20000 in
theorem indexRune_c (s : ByteArray) (r : Int) (w : World) (h0 : 0 ≤ r) (hs : ∀ b ∈ s.data.toList, b.toNat < 128) (h4 : 4 ≤ s.size) (h5 : s.size < 100000) :
  Calls Try.prog 99 #[.string s, .int .i32 r] w fun e w' => e = .returned (.int .i64 (runeIx s r)) ∧ St (bs w) [] w' := by
  refine enter (vs := [_, _]) (env := [(0, _), (1, _)]) Try.func99 rfl rfl rfl rfl ?_
  refine VC.seq ?_
  refine VC.reg (VO.l (LO.as (.r rfl)) rfl <| VO.nil ?_)
  refine VE.seqN ?_
  refine VC.block ?_
  refine VC.seq ?_
  refine VC.reg (VO.l (LO.mv (.r rfl)) rfl <| VO.l (LO.le (.r rfl) (.r rfl)) rfl <| VO.l (LO.mv (.r rfl)) rfl <| VO.lg rfl rfl (GD.t _) (fun hg => LO.mv (.r rfl)) rfl <| VO.lg rfl rfl (GD.t _) (fun hg => LO.lt (.g hg rfl) (.r rfl)) rfl <| VO.l (LO.pkA (.r rfl) rfl rfl (.r rfl)) rfl <| VO.l (LO.as (.r rfl)) rfl <| VO.nil ?_)
  refine VE.seqN ?_
  refine VC.cond rfl (fun h160 => ?_) (fun h160 => ?_)
  ·
    refine VC.seq ?_
    refine VC.reg (VO.l (LO.mv (.r rfl)) rfl <| VO.l (LO.mv (.r rfl)) rfl <| VO.l (LO.cv ⟨_, Try.underlying21⟩ Try.underlying5 (.r rfl) (u8_of (by omega) (by omega))) rfl <| VO.l (LO.call (xs := [_, _]) (vs := [_, _]) C112 ⟨(.r rfl), (.r rfl), trivial⟩ (fun w _ => (Try.strings_IndexByte s r w).mono fun e w' q => ⟨q.1, St.of_eq q.2⟩)) rfl <| VO.l (LO.as (.r rfl)) rfl <| VO.nil ?_)
    refine VE.seqN ?_
    refine VC.ret (VE.inR (VE.res (vs := [_]) rfl ⟨rfl, trivial⟩ (fun w hw => ?_)))
    first | exact ⟨by simp only [resV, runeIx]; rw [if_pos (by omega)], hw.nil⟩ | exact ⟨by simp only [resV, runeIx]; rw [if_neg (by omega)], hw.nil⟩
  ·
    refine VC.seq ?_
    refine VC.reg (VO.l (LO.mv (.r rfl)) rfl <| VO.l (LO.eq (.r rfl) (.r rfl)) rfl <| VO.l (LO.as (.r rfl)) rfl <| VO.nil ?_)
    refine VE.seqN ?_
    refine VC.cond rfl (fun h171 => ?_) (fun h171 => ?_)
    ·
      refine VC.seq ?_
      refine VC.seq ?_
      refine VC.reg (VO.l (LO.mv (.r rfl)) rfl <| VO.h rfl <| HO.range Try.underlying9 rfl fun b1 => VO.nil ?_)
      refine VE.seqN ?_
      refine VC.block ?_
      refine VC.loopK (α := Nat) 1 (fun gx => []) [(175, _)] (fun gx => [blk b1 (.stringIter s gx)]) (fun gx => True) (fun gx => s.size - gx) 0 (by exact trivial) (.cons rfl .nil) (fun _ h => h) ?_
      rintro q _
      refine VC.seq ?_
      by_cases hps : q < s.size
      ·
        refine VC.reg (VO.h rfl <| HO.nextT 0 (fun R => [R]) rfl rfl (fun _ => rfl) hps <| VO.h rfl <| HO.lo (LO.ex (.r rfl) rfl) <| VO.nil ?_)
        refine VE.seqN ?_
        refine VC.seq ?_
        refine VC.cond rfl (fun h177 => ?_) (fun h177 => ?_)
        ·
          refine VC.skip (VE.seqN ?_)
          refine VC.block ?_
          refine VC.seq ?_
          refine VC.reg (VO.l (LO.ex (.r rfl) rfl) rfl <| VO.l (LO.ex (.r rfl) rfl) rfl <| VO.l (LO.as (.r rfl)) rfl <| VO.l (LO.as (.r rfl)) rfl <| VO.nil ?_)
          refine VE.seqN ?_
          refine VC.seq ?_
          have hdc := dec_lt hs hps
          refine VC.reg (VO.l (LO.mv (.r rfl)) rfl <| VO.l (LO.eq (.r rfl) (.r rfl)) rfl <| VO.nil ?_)
          refine VE.seqN ?_
          refine VC.cond rfl (fun h181 => ?_) (fun h181 => ?_)
          ·
            (exfalso; omega)
          ·
            refine VC.skip (VE.inN ?_)
            refine VE.thenN fun a w ha hw => ⟨q + (Utf8.decode s q).2, trivial, (by have := decode_pos s q; omega), ha.sub (.cons rfl .nil), hw⟩
        ·
          (exfalso; exact h177 rfl)
      ·
        refine VC.reg (VO.h rfl <| HO.nextF 0 rfl rfl hps <| VO.h rfl <| HO.lo (LO.ex (.r rfl) rfl) <| VO.nil ?_)
        refine VE.seqN ?_
        refine VC.seq ?_
        refine VC.cond rfl (fun h177 => ?_) (fun h177 => ?_)
        ·
          (exfalso; cases h177)
        ·
          refine VC.exit (VE.thenX (VE.thenX (VE.inX (VE.seqN ?_))))
          refine VC.seq ?_
          refine VC.reg (VO.l (LO.as (.r rfl)) rfl <| VO.nil ?_)
          refine VE.seqN ?_
          refine VC.ret (VE.inR (VE.res (vs := [_]) rfl ⟨rfl, trivial⟩ (fun w hw => ?_)))
          first | exact ⟨by simp only [resV, runeIx]; rw [if_pos (by omega)], hw.nil⟩ | exact ⟨by simp only [resV, runeIx]; rw [if_neg (by omega)], hw.nil⟩
    ·
      refine VC.seq ?_
      refine VC.reg (VO.l (LO.mv (.r rfl)) rfl <| VO.l (LO.call (xs := [_]) (vs := [_]) C113 ⟨(.r rfl), trivial⟩ (fun w _ => validRune_c _ w)) rfl <| VO.l (LO.not (.r rfl)) rfl <| VO.l (LO.as (.r rfl)) rfl <| VO.nil ?_)
      refine VE.seqN ?_
      refine VC.cond rfl (fun h183 => ?_) (fun h183 => ?_)
      ·
        refine VC.seq ?_
        refine VC.reg (VO.l (LO.as (.r rfl)) rfl <| VO.nil ?_)
        refine VE.seqN ?_
        refine VC.ret (VE.inR (VE.res (vs := [_]) rfl ⟨rfl, trivial⟩ (fun w hw => ?_)))
        first | exact ⟨by simp only [resV, runeIx]; rw [if_pos (by omega)], hw.nil⟩ | exact ⟨by simp only [resV, runeIx]; rw [if_neg (by omega)], hw.nil⟩
      ·
        have hv : Lib.validRune r = true := by simpa using h183
        obtain ⟨e1, e2, e3⟩ := enc_f hv (by omega)
        have b1 := byte_lt hs ((Utf8.encode r).size - 1)
        refine VC.scope ?_
        refine VC.seq ?_
        refine VC.reg (VO.l (LO.mv (.r rfl)) rfl <| VO.l (LO.cvS ⟨_, Try.underlying21⟩ Try.underlying9 (.r rfl)) rfl <| VO.l (LO.as (.r rfl)) rfl <| VO.nil ?_)
        refine VE.seqN ?_
        refine VC.seq ?_
        refine VC.reg (VO.l (LO.mv (.r rfl)) rfl <| VO.l (LO.lenS Try.underlying9 (.r rfl) rfl) rfl <| VO.l (LO.sub (.r rfl) (.r rfl) (wi (by omega) (by omega))) rfl <| VO.l (LO.as (.r rfl)) rfl <| VO.nil ?_)
        refine VE.seqN ?_
        refine VC.seq ?_
        refine VC.reg (VO.l (LO.mv (.r rfl)) rfl <| VO.l (LO.as (.r rfl)) rfl <| VO.nil ?_)
        refine VE.seqN ?_
        refine VC.seq ?_
        refine VC.reg (VO.l (LO.as (.r rfl)) rfl <| VO.nil ?_)
        refine VE.seqN ?_
        refine VC.seq ?_
        refine VC.block ?_
        refine VC.loopK (α := Nat) 0 (fun gx => [(4, .int .i64 0), (9, .int .i64 (((Utf8.encode r).size : Int) - 1))]) [(0, _), (7, _), (8, _)] (fun gx => []) (fun gx => True) (fun gx => gx) 0 (by exact trivial) (.cons rfl (.cons rfl (.cons rfl (.cons rfl (.cons rfl .nil))))) (fun _ h => h) ?_
        rintro u _
        refine VC.seq ?_
        refine VC.seq ?_
        refine VC.reg (VO.l (LO.mv (.r rfl)) rfl <| VO.l (LO.mv (.r rfl)) rfl <| VO.l (LO.lenS Try.underlying9 (.r rfl) rfl) rfl <| VO.l (LO.lt (.r rfl) (.r rfl)) rfl <| VO.nil ?_)
        refine VE.seqN ?_
        refine VC.cond rfl (fun h26 => ?_) (fun h26 => ?_)
        ·
          refine VC.skip (VE.seqN ?_)
          refine VC.block ?_
          refine VC.scope ?_
          refine VC.seq ?_
          refine VC.seq ?_
          refine VC.draw mixed (LL.l (LO.mv (.r rfl)) rfl <| LL.l (LO.mv (.r rfl)) rfl <| LL.l (LO.ixS (j := ((Utf8.encode r).size - 1)) Try.underlying9 (.r rfl) (.r rfl) (by omega) (by omega)) rfl <| LL.l (LO.mv (.r rfl)) rfl <| LL.l (LO.mv (.r rfl)) rfl <| LL.l (LO.ixS (j := ((Utf8.encode r).size - 1)) Try.underlying9 (.r rfl) (.r rfl) (by omega) (by omega)) rfl <| LL.l (LO.ne (.r rfl) (.r rfl)) rfl <| LL.nil) (by kernel_rfl) ?_
          refine VE.seqN ?_
          refine VC.cond rfl (fun h33 => ?_) (fun h33 => ?_)
          ·
            refine VC.seq ?_
            refine VC.draw mixed (LL.l (LO.mv (.r rfl)) rfl <| LL.l (LO.mv (.r rfl)) rfl <| LL.l (LO.add (.r rfl) (.r rfl) (wi (by omega) (by omega))) rfl <| LL.l (LO.slS Try.underlying9 (.r rfl) (.r rfl) (by omega) (by omega)) rfl <| LL.l (LO.mv (.r rfl)) rfl <| LL.l (LO.mv (.r rfl)) rfl <| LL.l (LO.ixS (j := ((Utf8.encode r).size - 1)) Try.underlying9 (.r rfl) (.r rfl) (by omega) (by omega)) rfl <| LL.l (LO.call (xs := [_, _]) (vs := [_, _]) C112 ⟨(.r rfl), (.r rfl), trivial⟩ (fun w _ => (Try.strings_IndexByte _ _ w).mono fun e w' q => ⟨q.1, St.of_eq q.2⟩)) rfl <| LL.l (LO.as (.r rfl)) rfl <| LL.nil) (by kernel_rfl) ?_
            refine VE.seqN ?_
            refine VC.seq ?_
            refine VC.seq ?_
            refine VC.reg (VO.l (LO.mv (.r rfl)) rfl <| VO.l (LO.lt (.r rfl) (.r rfl)) rfl <| VO.nil ?_)
            refine VE.seqN ?_
            refine VC.cond rfl (fun h43 => ?_) (fun h43 => ?_)
            ·
              refine VC.seq ?_
              refine VC.reg (VO.l (LO.as (.r rfl)) rfl <| VO.nil ?_)
              refine VE.seqN ?_
              refine VC.ret (VE.thenR (VE.thenR (VE.scR (VE.inR (VE.thenR (VE.inR (VE.thenR (VE.scR (VE.inR (VE.res (vs := [_]) rfl ⟨rfl, trivial⟩ (fun w hw => ?_)))))))))))
              first | exact ⟨by simp only [resV, runeIx]; rw [if_pos (by omega)], hw.nil⟩ | exact ⟨by simp only [resV, runeIx]; rw [if_neg (by omega)], hw.nil⟩
            ·
              (exfalso; (rw [ix_none hs e3] at h43; omega))
          ·
            (exfalso; omega)
        ·
          (exfalso; omega)

set_option maxRecDepth 20000 in
theorem containsRune_c (s : ByteArray) (r : Int) (w : World) (h0 : 0 ≤ r) (hs : ∀ b ∈ s.data.toList, b.toNat < 128) (h4 : 4 ≤ s.size) (h5 : s.size < 100000) :
  Calls Try.prog 94 #[.string s, .int .i32 r] w fun e w' => e = .returned (.bool (decide (0 ≤ runeIx s r))) ∧ St (bs w) [] w' := by
  refine enter (vs := [_, _]) (env := [(0, _), (1, _)]) Try.func94 rfl rfl rfl rfl ?_
  refine VC.seq ?_
  refine VC.reg (VO.l (LO.as (.r rfl)) rfl <| VO.nil ?_)
  refine VE.seqN ?_
  refine VC.seq ?_
  refine VC.reg (VO.l (LO.mv (.r rfl)) rfl <| VO.l (LO.mv (.r rfl)) rfl <| VO.l (LO.call (xs := [_, _]) (vs := [_, _]) C99 ⟨(.r rfl), (.r rfl), trivial⟩ (fun w _ => indexRune_c s r w h0 hs h4 h5)) rfl <| VO.l (LO.ge (.r rfl) (.r rfl)) rfl <| VO.l (LO.as (.r rfl)) rfl <| VO.nil ?_)
  refine VE.seqN ?_
  refine VC.ret (VE.res (vs := [_]) rfl ⟨rfl, trivial⟩ (fun w hw => ?_))
  exact ⟨rfl, hw.nil⟩

set_option maxRecDepth 20000 in
theorem nameRune_c (r : Nat) (w : World) :
  Calls Try.prog 93 #[.int .i32 (r : Int)] w fun e w' => e = .returned (.bool (pN r)) ∧ St (bs w) [] w' := by
  refine enter (vs := [_]) (env := [(0, _)]) Try.func93 rfl rfl rfl rfl ?_
  refine VC.seq ?_
  refine VC.reg (VO.l (LO.as (.r rfl)) rfl <| VO.nil ?_)
  refine VE.seqN ?_
  refine VC.seq ?_
  refine VC.reg (VO.l (LO.mv (.r rfl)) rfl <| VO.l (LO.call (xs := [_, _]) (vs := [_, _]) C94 ⟨(.r rfl), (.r rfl), trivial⟩ (fun w _ => containsRune_c hayS (r : Int) w (by omega) hay_ascii (by decide) (by decide))) rfl <| VO.l (LO.not (.r rfl)) rfl <| VO.l (LO.as (.r rfl)) rfl <| VO.nil ?_)
  refine VE.seqN ?_
  refine VC.ret (VE.res (vs := [_]) rfl ⟨rfl, trivial⟩ (fun w hw => ?_))
  exact ⟨by simp only [resV]; rw [hay_rune]; rfl, hw.nil⟩

set_option maxRecDepth 20000 in
theorem indexFunc_c (s : ByteArray) (w : World) :
  Calls Try.prog 111 #[.string s, .func (.func 93) #[] #[], .bool true] w fun e w' => e = .returned (.int .i64 (idxF pN s s.size 0)) ∧ St (bs w) [] w' := by
  refine enter (vs := [_, _, _]) (env := [(0, _), (1, _), (2, _)]) Try.func111 rfl rfl rfl rfl ?_
  refine VC.seq ?_
  refine VC.reg (VO.l (LO.as (.r rfl)) rfl <| VO.nil ?_)
  refine VE.seqN ?_
  refine VC.seq ?_
  refine VC.seq ?_
  refine VC.reg (VO.l (LO.mv (.r rfl)) rfl <| VO.h rfl <| HO.range Try.underlying9 rfl fun b1 => VO.nil ?_)
  refine VE.seqN ?_
  refine VC.block ?_
  refine VC.loopK (α := Nat × Nat) 1 (fun gx => []) [(1, _), (2, _), (10, _)] (fun gx => [blk b1 (.stringIter s gx.1)]) (fun gx => idxF pN s gx.2 gx.1 = idxF pN s s.size 0 ∧ s.size ≤ gx.1 + gx.2) (fun gx => gx.2) (0, s.size) (by exact ⟨rfl, by omega⟩) (.cons rfl (.cons rfl (.cons rfl .nil))) (fun _ h => h) ?_
  rintro ⟨q, f⟩ ⟨hI, hf⟩
  show VC _ _ _ _ _ ([] ++ _) ([blk b1 (.stringIter s q)] ++ _) _ _
  dsimp only at hI hf
  refine VC.seq ?_
  by_cases hps : q < s.size
  ·
    obtain ⟨f, rfl⟩ : ∃ k, f = k + 1 := ⟨f - 1, by omega⟩
    rw [idxF, if_pos hps] at hI
    refine VC.reg (VO.h rfl <| HO.nextT 0 (fun R => [R]) rfl rfl (fun _ => rfl) hps <| VO.h rfl <| HO.lo (LO.ex (.r rfl) rfl) <| VO.nil ?_)
    refine VE.seqN ?_
    refine VC.seq ?_
    refine VC.cond rfl (fun h12 => ?_) (fun h12 => ?_)
    ·
      refine VC.skip (VE.seqN ?_)
      refine VC.block ?_
      refine VC.seq ?_
      refine VC.reg (VO.l (LO.ex (.r rfl) rfl) rfl <| VO.l (LO.ex (.r rfl) rfl) rfl <| VO.l (LO.as (.r rfl)) rfl <| VO.l (LO.as (.r rfl)) rfl <| VO.nil ?_)
      refine VE.seqN ?_
      refine VC.seq ?_
      refine VC.reg (VO.l (LO.mv (.r rfl)) rfl <| VO.l (LO.mv (.r rfl)) rfl <| VO.l (LO.callv (first := []) (cap := []) (xs := [_]) (vs := [_]) (.r rfl) C93 ⟨(.r rfl), trivial⟩ (fun w _ => nameRune_c _ w)) rfl <| VO.l (LO.mv (.r rfl)) rfl <| VO.l (LO.eqB Try.underlying4 (.r rfl) (.r rfl)) rfl <| VO.nil ?_)
      refine VE.seqN ?_
      refine VC.cond rfl (fun h19 => ?_) (fun h19 => ?_)
      ·
        rw [if_pos h19] at hI
        refine VC.seq ?_
        refine VC.reg (VO.l (LO.mv (.r rfl)) rfl <| VO.l (LO.as (.r rfl)) rfl <| VO.nil ?_)
        refine VE.seqN ?_
        refine VC.ret (VE.inR (VE.thenR (VE.inR (VE.thenR (VE.res (vs := [_]) rfl ⟨rfl, trivial⟩ (fun w hw => ?_))))))
        exact ⟨by simp only [resV]; rw [← hI] <;> rfl, hw.nil⟩
      ·
        rw [if_neg h19] at hI
        refine VC.skip (VE.inN ?_)
        refine VE.thenN fun a w ha hw => ⟨(q + (Utf8.decode s q).2, f), ⟨hI, by have := decode_pos s q; dsimp only; omega⟩, (by dsimp only; omega), ha.sub (.cons rfl (.cons rfl (.cons rfl .nil))), hw⟩
    ·
      (exfalso; exact h12 rfl)
  ·
    rw [idxF_end hps] at hI
    refine VC.reg (VO.h rfl <| HO.nextF 0 rfl rfl hps <| VO.h rfl <| HO.lo (LO.ex (.r rfl) rfl) <| VO.nil ?_)
    refine VE.seqN ?_
    refine VC.seq ?_
    refine VC.cond rfl (fun h12 => ?_) (fun h12 => ?_)
    ·
      (exfalso; cases h12)
    ·
      refine VC.exit (VE.thenX (VE.thenX (VE.inX (VE.seqN ?_))))
      refine VC.seq ?_
      refine VC.reg (VO.l (LO.as (.r rfl)) rfl <| VO.nil ?_)
      refine VE.seqN ?_
      refine VC.ret (VE.res (vs := [_]) rfl ⟨rfl, trivial⟩ (fun w hw => ?_))
      exact ⟨by simp only [resV]; rw [← hI] <;> rfl, hw.nil⟩

set_option maxRecDepth 20000 in
theorem IndexFunc_c (s : ByteArray) (w : World) :
  Calls Try.prog 98 #[.string s, .func (.func 93) #[] #[]] w fun e w' => e = .returned (.int .i64 (idxF pN s s.size 0)) ∧ St (bs w) [] w' := by
  refine enter (vs := [_, _]) (env := [(0, _), (1, _)]) Try.func98 rfl rfl rfl rfl ?_
  refine VC.seq ?_
  refine VC.reg (VO.l (LO.as (.r rfl)) rfl <| VO.nil ?_)
  refine VE.seqN ?_
  refine VC.seq ?_
  refine VC.reg (VO.l (LO.mv (.r rfl)) rfl <| VO.l (LO.mv (.r rfl)) rfl <| VO.l (LO.call (xs := [_, _, _]) (vs := [_, _, _]) C111 ⟨(.r rfl), (.r rfl), (.r rfl), trivial⟩ (fun w _ => indexFunc_c _ w)) rfl <| VO.l (LO.as (.r rfl)) rfl <| VO.nil ?_)
  refine VE.seqN ?_
  refine VC.ret (VE.res (vs := [_]) rfl ⟨rfl, trivial⟩ (fun w hw => ?_))
  exact ⟨rfl, hw.nil⟩

set_option maxRecDepth 20000 in
theorem ContainsFunc_c (s : ByteArray) (w : World) :
  Calls Try.prog 92 #[.string s, .func (.func 93) #[] #[]] w fun e w' => e = .returned (.bool (decide (0 ≤ idxF pN s s.size 0))) ∧ St (bs w) [] w' := by
  refine enter (vs := [_, _]) (env := [(0, _), (1, _)]) Try.func92 rfl rfl rfl rfl ?_
  refine VC.seq ?_
  refine VC.reg (VO.l (LO.as (.r rfl)) rfl <| VO.nil ?_)
  refine VE.seqN ?_
  refine VC.seq ?_
  refine VC.reg (VO.l (LO.mv (.r rfl)) rfl <| VO.l (LO.mv (.r rfl)) rfl <| VO.l (LO.call (xs := [_, _]) (vs := [_, _]) C98 ⟨(.r rfl), (.r rfl), trivial⟩ (fun w _ => IndexFunc_c _ w)) rfl <| VO.l (LO.ge (.r rfl) (.r rfl)) rfl <| VO.l (LO.as (.r rfl)) rfl <| VO.nil ?_)
  refine VE.seqN ?_
  refine VC.ret (VE.res (vs := [_]) rfl ⟨rfl, trivial⟩ (fun w hw => ?_))
  exact ⟨rfl, hw.nil⟩

end Go.Proofs.Ytcnlhifkablmkaa
