/-
  Names and sites are checked.
  Sweeps are checked.
  Walks of package fold: sets of speeds.
  slices.SortFunc on a slice of spans that the call owns: what is laid, and the closure that compares.
  DERIVED: THE SHELF's CONTRACTS AT THIS DUMP, IN PLAIN WORDS (tools/lay-plain.mjs out of 'TryzShelfC.lean', which tools/lay-shelf.mjs wrote): THE SAME DECLARATIONS UNDER THE SAME NAMES: 'import', 'namespace', 'open', 'def', 'theorem' AND NOTHING ELSE: no command of the shelf's: FOR A HAND-IN. Each laying: the table of numbers ('.._ren') and one theorem, a field a fact of the dump's own or the kernel's comparison; each contract: ONE APPLICATION.
  slices.SortFunc on a slice of spans that the call owns.
  Walks of package fold: sets of speeds that are united, widened, met.
  Walks of package fold: what an echo's step can mean.
  Walks of package fold: guesses.
  Walks of package fold: what is left of guesses.
-/
import Derived.Test.YtffbohecdocajaaGreatKUN08
import Derived.Shelf.GgSortFunc.InsertionK
import Derived.Shelf.SlLaysF0
import Derived.Test.YtffbohecdocajaaGreatProg
import Derived.Shelf.SlSortCmp.WholeK
import Derived.Shelf.SlSortCmp.NoneTotal

set_option linter.unusedSimpArgs false
namespace Go.Proofs.YtffbohecdocajaaGreat
open Go.SL Go.Proofs Go.Pulse
set_option linter.unusedVariables false

theorem C191 : IsFn Tryz.prog 191 := ⟨_, Tryz.func191, by decide, rfl⟩
theorem F59_0 : FieldAt Tryz.prog 59 0 0 := ⟨_,_, Tryz.underlying59, rfl, rfl, 0, by kernel_rfl⟩
theorem O9 : IsOne Tryz.prog 9 := ⟨⟨_, Tryz.underlying9, rfl⟩, by kernel_rfl⟩
theorem C118 : IsFn Tryz.prog 118 := ⟨_, Tryz.func118, by decide, rfl⟩
theorem F59_1 : FieldAt Tryz.prog 59 1 1 := ⟨_,_, Tryz.underlying59, rfl, rfl, 0, by kernel_rfl⟩
theorem C119 : IsFn Tryz.prog 119 := ⟨_, Tryz.func119, by decide, rfl⟩
theorem F59_4 : FieldAt Tryz.prog 59 4 4 := ⟨_,_, Tryz.underlying59, rfl, rfl, 0, by kernel_rfl⟩
theorem F59_5 : FieldAt Tryz.prog 59 5 5 := ⟨_,_, Tryz.underlying59, rfl, rfl, 0, by kernel_rfl⟩
theorem F59_6 : FieldAt Tryz.prog 59 6 6 := ⟨_,_, Tryz.underlying59, rfl, rfl, 0, by kernel_rfl⟩
theorem F59_7 : FieldAt Tryz.prog 59 7 7 := ⟨_,_, Tryz.underlying59, rfl, rfl, 0, by kernel_rfl⟩
theorem F59_2 : FieldAt Tryz.prog 59 2 2 := ⟨_,_, Tryz.underlying59, rfl, rfl, 0, by kernel_rfl⟩
theorem F59_3 : FieldAt Tryz.prog 59 3 3 := ⟨_,_, Tryz.underlying59, rfl, rfl, 0, by kernel_rfl⟩
def byteAt (s : ByteArray) (j : Nat) : Nat := (s.data.toList.getD j 0).toNat
def nameB (s : ByteArray) : Bool := ((((decide (1 ≤ (s.size : Int)) && decide ((s.size : Int) ≤ 12)) && decide (97 ≤ (byteAt s 0 : Int))) && decide ((byteAt s 0 : Int) ≤ 122)) && (List.range s.size).all fun j => nameR (byteAt s j))
theorem nameB_idx {s : ByteArray} : (!decide (0 ≤ idxF pN s s.size 0)) = (List.range s.size).all fun j => nameR (byteAt s j) := by
  have h := idxF_bytes (p := pN) (s := s) (fun r hr => pN_high r hr) (f := s.size) (q := 0) (by omega)
  rw [Bool.eq_iff_iff, List.all_eq_true]
  constructor
  · intro q j hj
    have h1 : idxF pN s s.size 0 < 0 := by simpa using q
    have := h.1 h1 j (Nat.zero_le _) (List.mem_range.1 hj)
    unfold pN at this
    cases k : nameR (byteAt s j) with
    | true => rfl
    | false => unfold byteAt at k; rw [k] at this; cases this
  · intro q
    have : idxF pN s s.size 0 < 0 := h.2 fun j _ hj => by
      have := q j (List.mem_range.2 hj)
      unfold byteAt at this
      unfold pN; rw [this]; rfl
    simpa using this
theorem LO.neE {P : Program} {β : Bs} {env : Env} {L : List Res} {d : Option Nat} {ty : TypeId} {pos : String} {aft : Array Edge} {g : Option (Nat × Bool)} {xT yT : Nat} {x y : Operand} {s : ByteArray} (hx : OV env x (.string s)) (hy : OV env y (.string ⟨#[]⟩)) : LO P β env L ⟨d, .binOp .neq xT x y yT, ty, pos, aft, g⟩ (.bool (decide (1 ≤ (s.size : Int)))) := by
  have h := LO.neS (P := P) (β := β) (L := L) (d := d) (ty := ty) (pos := pos) (aft := aft) (g := g) (xT := xT) (yT := yT) hx hy
  have e : (!(s.toList == (⟨#[]⟩ : ByteArray).toList)) = decide (1 ≤ (s.size : Int)) := by
    rw [ByteArray.toList_eq, ByteArray.toList_eq]
    have hs : s.data.toList.length = s.size := Array.length_toList
    cases q : s.data.toList with
    | nil => rw [q] at hs; simp at hs; simp [← hs]
    | cons b l => rw [q] at hs; simp at hs; simp; omega
  rw [e] at h
  exact h

structure Site where
  name : ByteArray
  x : Int
  y : Int
  z : Int
  rose : Int
  gates : Int
  step : Int
  width : Int
def siteC (s : Site) : List Value := [.string s.name, .int .i64 s.x, .int .i64 s.y, .int .i64 s.z, .int .i64 s.rose, .int .i64 s.gates, .int .i64 s.step, .int .i64 s.width]
def siteOk (s : Site) : Prop := ((((((((-1048576 ≤ s.x ∧ s.x ≤ 1048576) ∧ -1048576 ≤ s.y ∧ s.y ≤ 1048576) ∧ 0 ≤ s.z ∧ s.z ≤ 20000) ∧ 1 ≤ s.rose ∧ s.rose ≤ 90) ∧ 1 ≤ s.gates ∧ s.gates ≤ 200) ∧ 50 ≤ s.step ∧ s.step ≤ 2000) ∧ 0 ≤ s.width ∧ s.width ≤ 8))
instance (s : Site) : Decidable (siteOk s) := by unfold siteOk; exact inferInstance
def siteE (s : Site) : Int := if nameB s.name = true then (if siteOk s then 0 else 3) else 10
theorem siteE1 {s : Site} (h : ¬ nameB s.name = true) : siteE s = 10 := if_neg h
theorem siteE2 {s : Site} (h : nameB s.name = true) (k : ¬ siteOk s) : siteE s = 3 := by unfold siteE; rw [if_pos h, if_neg k]
theorem siteE3 {s : Site} (h : nameB s.name = true) (k : siteOk s) : siteE s = 0 := by unfold siteE; rw [if_pos h, if_pos k]
theorem nn {b : Bool} (h : ¬ ¬ b = true) : b = true := Classical.not_not.1 h

set_option maxRecDepth 20000 in
theorem Name_c (s : ByteArray) (w : World) :
  Calls Tryz.prog 118 #[.string s] w fun e w' => e = .returned (.bool (nameB s)) ∧ St (bs w) [] w' := by
  refine enter (vs := [_]) (env := [(0,_)]) Tryz.func118 rfl rfl rfl rfl ?_
  refine VC.seq ?_
  refine VC.reg (VO.l (LO.as (.r rfl)) rfl<|VO.nil ?_)
  refine VE.seqN ?_
  refine VC.seq ?_
  refine VC.reg (VO.l (LO.mv (.r rfl)) rfl<|VO.l (LO.neE (.r rfl) (.r rfl)) rfl<|VO.l (LO.mv (.r rfl)) rfl<|VO.lg rfl rfl (GD.t _) (fun hg => LO.mv (.r rfl)) rfl<|VO.lg rfl rfl (GD.t _) (fun hg => LO.lenS Tryz.underlying9 (.g hg rfl) rfl) rfl<|VO.lg rfl rfl (GD.t _) (fun hg => LO.le (.g hg rfl) (.r rfl)) rfl<|VO.l (LO.pkA (.r rfl) rfl rfl (.r rfl)) rfl<|VO.l (LO.mv (.r rfl)) rfl<|VO.lg rfl rfl (GD.t _) (fun hg => LO.mv (.r rfl)) rfl<|VO.lg rfl rfl (GD.t _) (fun hg => LO.ixS (j := 0) Tryz.underlying9 (.g hg rfl) (.r rfl) rfl (by have q := IsP.yes inferInstance hg; omega)) rfl<|VO.lg rfl rfl (GD.t _) (fun hg => LO.ge (.g hg rfl) (.r rfl)) rfl<|VO.l (LO.pkA (.r rfl) rfl rfl (.r rfl)) rfl<|VO.l (LO.mv (.r rfl)) rfl<|VO.lg rfl rfl (GD.t _) (fun hg => LO.mv (.r rfl)) rfl<|VO.lg rfl rfl (GD.t _) (fun hg => LO.ixS (j := 0) Tryz.underlying9 (.g hg rfl) (.r rfl) rfl (by have q := IsP.yes inferInstance hg; omega)) rfl<|VO.lg rfl rfl (GD.t _) (fun hg => LO.le (.g hg rfl) (.r rfl)) rfl<|VO.l (LO.pkA (.r rfl) rfl rfl (.r rfl)) rfl<|VO.l (LO.mv (.r rfl)) rfl<|VO.lg rfl rfl (GD.t _) (fun hg => LO.mv (.r rfl)) rfl<|VO.lg rfl rfl (GD.t _) (fun hg => LO.call (xs := [_,_]) (vs := [_,_]) C191 ⟨(.g hg rfl), (.r rfl), trivial⟩ (fun w _ => ContainsFunc_c _ w)) rfl<|VO.lg rfl rfl (GD.t _) (fun hg => LO.not (.g hg rfl)) rfl<|VO.l (LO.pkA (.r rfl) rfl rfl (.r rfl)) rfl<|VO.l (LO.as (.r rfl)) rfl<|VO.nil ?_)
  refine VE.seqN ?_
  refine VC.ret (VE.res (vs := [_]) rfl ⟨rfl, trivial⟩ (fun w hw => ?_))
  exact ⟨by simp only [resV]; rw [nameB_idx]; rfl, hw.nil⟩

set_option maxRecDepth 20000 in
theorem CheckSite_c (s : Site) (w : World) :
  Calls Tryz.prog 53 #[.agg (siteC s).toArray] w fun e w' => e = .returned (.int .i64 (siteE s)) ∧ St (bs w) [] w' := by
  refine enter (vs := [_]) (env := [(0,_)]) Tryz.func53 rfl rfl rfl rfl ?_
  refine VC.seq ?_
  refine VC.reg (VO.h rfl<|HO.box (C := #[_,_,_,_,_,_,_,_]) rfl rfl fun b1 => VO.l (LO.as (.r rfl)) rfl<|VO.nil ?_)
  refine VE.seqN ?_
  refine VC.seq ?_
  refine VC.block ?_
  refine VC.seq ?_
  refine VC.reg (VO.l (LO.fa (r := 0) F59_0 (.r rfl) rfl) rfl<|VO.l (LO.ld O9 (.r rfl) (fun _ hw => cells_at hw 0 rfl ⟨_, rfl⟩)) rfl<|VO.l (LO.call (xs := [_]) (vs := [_]) C118 ⟨(.r rfl), trivial⟩ (fun w _ => Name_c _ w)) rfl<|VO.l (LO.not (.r rfl)) rfl<|VO.l (LO.as (.r rfl)) rfl<|VO.nil ?_)
  refine VE.seqN ?_
  refine VC.cond rfl (fun hNm => ?_) (fun hNm => ?_)
  ·
    refine VC.seq ?_
    refine VC.reg (VO.l (LO.as (.r rfl)) rfl<|VO.nil ?_)
    refine VE.seqN ?_
    refine VC.ret (VE.inR (VE.thenR (VE.res (vs := [_]) rfl ⟨rfl, trivial⟩ (fun w hw => ?_))))
    refine ⟨?_, hw.nil⟩
    simp only [resV]
    first | (exfalso; omega) | rw [siteE1 hNm] | rw [siteE2 (nn hNm) (by unfold siteOk; omega)] | rw [siteE3 (nn hNm) (by unfold siteOk; omega)]
  ·
    refine VC.seq ?_
    refine VC.seq ?_
    refine VC.reg (VO.l (LO.fa (r := 1) F59_1 (.r rfl) rfl) rfl<|VO.l (LO.ld O3 (.r rfl) (fun _ hw => cells_at hw 0 rfl ⟨_, rfl⟩)) rfl<|VO.l (LO.call (xs := [_,_,_]) (vs := [_,_,_]) C119 ⟨(.r rfl), (.r rfl), (.r rfl), trivial⟩ (fun w _ => bwithin_c _ _ _ w)) rfl<|VO.l (LO.not (.r rfl)) rfl<|VO.l (LO.as (.r rfl)) rfl<|VO.nil ?_)
    refine VE.seqN ?_
    refine VC.cond rfl (fun h2 => ?_) (fun h2 => ?_)
    ·
      refine VC.skip (VE.seqN ?_)
      refine VC.cond rfl (fun h3 => ?_) (fun h3 => ?_)
      ·
        refine VC.seq ?_
        refine VC.reg (VO.l (LO.as (.r rfl)) rfl<|VO.nil ?_)
        refine VE.seqN ?_
        refine VC.ret (VE.inR (VE.thenR (VE.res (vs := [_]) rfl ⟨rfl, trivial⟩ (fun w hw => ?_))))
        refine ⟨?_, hw.nil⟩
        simp only [resV]
        first | (exfalso; omega) | rw [siteE1 hNm] | rw [siteE2 (nn hNm) (by unfold siteOk; omega)] | rw [siteE3 (nn hNm) (by unfold siteOk; omega)]
      ·
        refine VC.seq ?_
        refine VC.seq ?_
        refine VC.reg (VO.l (LO.fa (r := 4) F59_4 (.r rfl) rfl) rfl<|VO.l (LO.ld O3 (.r rfl) (fun _ hw => cells_at hw 0 rfl ⟨_, rfl⟩)) rfl<|VO.l (LO.call (xs := [_,_,_]) (vs := [_,_,_]) C119 ⟨(.r rfl), (.r rfl), (.r rfl), trivial⟩ (fun w _ => bwithin_c _ _ _ w)) rfl<|VO.l (LO.not (.r rfl)) rfl<|VO.l (LO.as (.r rfl)) rfl<|VO.nil ?_)
        refine VE.seqN ?_
        refine VC.cond rfl (fun h4 => ?_) (fun h4 => ?_)
        ·
          refine VC.skip (VE.seqN ?_)
          refine VC.cond rfl (fun h5 => ?_) (fun h5 => ?_)
          ·
            refine VC.seq ?_
            refine VC.reg (VO.l (LO.as (.r rfl)) rfl<|VO.nil ?_)
            refine VE.seqN ?_
            refine VC.ret (VE.inR (VE.thenR (VE.res (vs := [_]) rfl ⟨rfl, trivial⟩ (fun w hw => ?_))))
            refine ⟨?_, hw.nil⟩
            simp only [resV]
            first | (exfalso; omega) | rw [siteE1 hNm] | rw [siteE2 (nn hNm) (by unfold siteOk; omega)] | rw [siteE3 (nn hNm) (by unfold siteOk; omega)]
          ·
            refine VC.skip (VE.inN (VE.seqN ?_))
            refine VC.seq ?_
            refine VC.reg (VO.l (LO.as (.r rfl)) rfl<|VO.nil ?_)
            refine VE.seqN ?_
            refine VC.ret (VE.res (vs := [_]) rfl ⟨rfl, trivial⟩ (fun w hw => ?_))
            refine ⟨?_, hw.nil⟩
            simp only [resV]
            first | (exfalso; omega) | rw [siteE1 hNm] | rw [siteE2 (nn hNm) (by unfold siteOk; omega)] | rw [siteE3 (nn hNm) (by unfold siteOk; omega)]
        ·
          refine VC.seq ?_
          refine VC.reg (VO.l (LO.fa (r := 5) F59_5 (.r rfl) rfl) rfl<|VO.l (LO.ld O3 (.r rfl) (fun _ hw => cells_at hw 0 rfl ⟨_, rfl⟩)) rfl<|VO.l (LO.call (xs := [_,_,_]) (vs := [_,_,_]) C119 ⟨(.r rfl), (.r rfl), (.r rfl), trivial⟩ (fun w _ => bwithin_c _ _ _ w)) rfl<|VO.l (LO.not (.r rfl)) rfl<|VO.l (LO.as (.r rfl)) rfl<|VO.nil ?_)
          refine VE.seqN ?_
          refine VC.cond rfl (fun h6 => ?_) (fun h6 => ?_)
          ·
            refine VC.skip (VE.seqN ?_)
            refine VC.cond rfl (fun h7 => ?_) (fun h7 => ?_)
            ·
              refine VC.seq ?_
              refine VC.reg (VO.l (LO.as (.r rfl)) rfl<|VO.nil ?_)
              refine VE.seqN ?_
              refine VC.ret (VE.inR (VE.thenR (VE.res (vs := [_]) rfl ⟨rfl, trivial⟩ (fun w hw => ?_))))
              refine ⟨?_, hw.nil⟩
              simp only [resV]
              first | (exfalso; omega) | rw [siteE1 hNm] | rw [siteE2 (nn hNm) (by unfold siteOk; omega)] | rw [siteE3 (nn hNm) (by unfold siteOk; omega)]
            ·
              refine VC.skip (VE.inN (VE.seqN ?_))
              refine VC.seq ?_
              refine VC.reg (VO.l (LO.as (.r rfl)) rfl<|VO.nil ?_)
              refine VE.seqN ?_
              refine VC.ret (VE.res (vs := [_]) rfl ⟨rfl, trivial⟩ (fun w hw => ?_))
              refine ⟨?_, hw.nil⟩
              simp only [resV]
              first | (exfalso; omega) | rw [siteE1 hNm] | rw [siteE2 (nn hNm) (by unfold siteOk; omega)] | rw [siteE3 (nn hNm) (by unfold siteOk; omega)]
          ·
            refine VC.seq ?_
            refine VC.reg (VO.l (LO.fa (r := 6) F59_6 (.r rfl) rfl) rfl<|VO.l (LO.ld O3 (.r rfl) (fun _ hw => cells_at hw 0 rfl ⟨_, rfl⟩)) rfl<|VO.l (LO.call (xs := [_,_,_]) (vs := [_,_,_]) C119 ⟨(.r rfl), (.r rfl), (.r rfl), trivial⟩ (fun w _ => bwithin_c _ _ _ w)) rfl<|VO.l (LO.not (.r rfl)) rfl<|VO.l (LO.as (.r rfl)) rfl<|VO.nil ?_)
            refine VE.seqN ?_
            refine VC.cond rfl (fun h8 => ?_) (fun h8 => ?_)
            ·
              refine VC.skip (VE.seqN ?_)
              refine VC.cond rfl (fun h9 => ?_) (fun h9 => ?_)
              ·
                refine VC.seq ?_
                refine VC.reg (VO.l (LO.as (.r rfl)) rfl<|VO.nil ?_)
                refine VE.seqN ?_
                refine VC.ret (VE.inR (VE.thenR (VE.res (vs := [_]) rfl ⟨rfl, trivial⟩ (fun w hw => ?_))))
                refine ⟨?_, hw.nil⟩
                simp only [resV]
                first | (exfalso; omega) | rw [siteE1 hNm] | rw [siteE2 (nn hNm) (by unfold siteOk; omega)] | rw [siteE3 (nn hNm) (by unfold siteOk; omega)]
              ·
                refine VC.skip (VE.inN (VE.seqN ?_))
                refine VC.seq ?_
                refine VC.reg (VO.l (LO.as (.r rfl)) rfl<|VO.nil ?_)
                refine VE.seqN ?_
                refine VC.ret (VE.res (vs := [_]) rfl ⟨rfl, trivial⟩ (fun w hw => ?_))
                refine ⟨?_, hw.nil⟩
                simp only [resV]
                first | (exfalso; omega) | rw [siteE1 hNm] | rw [siteE2 (nn hNm) (by unfold siteOk; omega)] | rw [siteE3 (nn hNm) (by unfold siteOk; omega)]
            ·
              refine VC.reg (VO.l (LO.fa (r := 7) F59_7 (.r rfl) rfl) rfl<|VO.l (LO.ld O3 (.r rfl) (fun _ hw => cells_at hw 0 rfl ⟨_, rfl⟩)) rfl<|VO.l (LO.call (xs := [_,_,_]) (vs := [_,_,_]) C119 ⟨(.r rfl), (.r rfl), (.r rfl), trivial⟩ (fun w _ => bwithin_c _ _ _ w)) rfl<|VO.l (LO.not (.r rfl)) rfl<|VO.l (LO.as (.r rfl)) rfl<|VO.nil ?_)
              refine VE.seqN ?_
              refine VC.cond rfl (fun h10 => ?_) (fun h10 => ?_)
              ·
                refine VC.seq ?_
                refine VC.reg (VO.l (LO.as (.r rfl)) rfl<|VO.nil ?_)
                refine VE.seqN ?_
                refine VC.ret (VE.inR (VE.thenR (VE.res (vs := [_]) rfl ⟨rfl, trivial⟩ (fun w hw => ?_))))
                refine ⟨?_, hw.nil⟩
                simp only [resV]
                first | (exfalso; omega) | rw [siteE1 hNm] | rw [siteE2 (nn hNm) (by unfold siteOk; omega)] | rw [siteE3 (nn hNm) (by unfold siteOk; omega)]
              ·
                refine VC.skip (VE.inN (VE.seqN ?_))
                refine VC.seq ?_
                refine VC.reg (VO.l (LO.as (.r rfl)) rfl<|VO.nil ?_)
                refine VE.seqN ?_
                refine VC.ret (VE.res (vs := [_]) rfl ⟨rfl, trivial⟩ (fun w hw => ?_))
                refine ⟨?_, hw.nil⟩
                simp only [resV]
                first | (exfalso; omega) | rw [siteE1 hNm] | rw [siteE2 (nn hNm) (by unfold siteOk; omega)] | rw [siteE3 (nn hNm) (by unfold siteOk; omega)]
    ·
      refine VC.seq ?_
      refine VC.reg (VO.l (LO.fa (r := 2) F59_2 (.r rfl) rfl) rfl<|VO.l (LO.ld O3 (.r rfl) (fun _ hw => cells_at hw 0 rfl ⟨_, rfl⟩)) rfl<|VO.l (LO.call (xs := [_,_,_]) (vs := [_,_,_]) C119 ⟨(.r rfl), (.r rfl), (.r rfl), trivial⟩ (fun w _ => bwithin_c _ _ _ w)) rfl<|VO.l (LO.not (.r rfl)) rfl<|VO.l (LO.as (.r rfl)) rfl<|VO.nil ?_)
      refine VE.seqN ?_
      refine VC.cond rfl (fun h11 => ?_) (fun h11 => ?_)
      ·
        refine VC.skip (VE.seqN ?_)
        refine VC.cond rfl (fun h12 => ?_) (fun h12 => ?_)
        ·
          refine VC.seq ?_
          refine VC.reg (VO.l (LO.as (.r rfl)) rfl<|VO.nil ?_)
          refine VE.seqN ?_
          refine VC.ret (VE.inR (VE.thenR (VE.res (vs := [_]) rfl ⟨rfl, trivial⟩ (fun w hw => ?_))))
          refine ⟨?_, hw.nil⟩
          simp only [resV]
          first | (exfalso; omega) | rw [siteE1 hNm] | rw [siteE2 (nn hNm) (by unfold siteOk; omega)] | rw [siteE3 (nn hNm) (by unfold siteOk; omega)]
        ·
          refine VC.seq ?_
          refine VC.seq ?_
          refine VC.reg (VO.l (LO.fa (r := 4) F59_4 (.r rfl) rfl) rfl<|VO.l (LO.ld O3 (.r rfl) (fun _ hw => cells_at hw 0 rfl ⟨_, rfl⟩)) rfl<|VO.l (LO.call (xs := [_,_,_]) (vs := [_,_,_]) C119 ⟨(.r rfl), (.r rfl), (.r rfl), trivial⟩ (fun w _ => bwithin_c _ _ _ w)) rfl<|VO.l (LO.not (.r rfl)) rfl<|VO.l (LO.as (.r rfl)) rfl<|VO.nil ?_)
          refine VE.seqN ?_
          refine VC.cond rfl (fun h13 => ?_) (fun h13 => ?_)
          ·
            refine VC.skip (VE.seqN ?_)
            refine VC.cond rfl (fun h14 => ?_) (fun h14 => ?_)
            ·
              refine VC.seq ?_
              refine VC.reg (VO.l (LO.as (.r rfl)) rfl<|VO.nil ?_)
              refine VE.seqN ?_
              refine VC.ret (VE.inR (VE.thenR (VE.res (vs := [_]) rfl ⟨rfl, trivial⟩ (fun w hw => ?_))))
              refine ⟨?_, hw.nil⟩
              simp only [resV]
              first | (exfalso; omega) | rw [siteE1 hNm] | rw [siteE2 (nn hNm) (by unfold siteOk; omega)] | rw [siteE3 (nn hNm) (by unfold siteOk; omega)]
            ·
              refine VC.skip (VE.inN (VE.seqN ?_))
              refine VC.seq ?_
              refine VC.reg (VO.l (LO.as (.r rfl)) rfl<|VO.nil ?_)
              refine VE.seqN ?_
              refine VC.ret (VE.res (vs := [_]) rfl ⟨rfl, trivial⟩ (fun w hw => ?_))
              refine ⟨?_, hw.nil⟩
              simp only [resV]
              first | (exfalso; omega) | rw [siteE1 hNm] | rw [siteE2 (nn hNm) (by unfold siteOk; omega)] | rw [siteE3 (nn hNm) (by unfold siteOk; omega)]
          ·
            refine VC.seq ?_
            refine VC.reg (VO.l (LO.fa (r := 5) F59_5 (.r rfl) rfl) rfl<|VO.l (LO.ld O3 (.r rfl) (fun _ hw => cells_at hw 0 rfl ⟨_, rfl⟩)) rfl<|VO.l (LO.call (xs := [_,_,_]) (vs := [_,_,_]) C119 ⟨(.r rfl), (.r rfl), (.r rfl), trivial⟩ (fun w _ => bwithin_c _ _ _ w)) rfl<|VO.l (LO.not (.r rfl)) rfl<|VO.l (LO.as (.r rfl)) rfl<|VO.nil ?_)
            refine VE.seqN ?_
            refine VC.cond rfl (fun h15 => ?_) (fun h15 => ?_)
            ·
              refine VC.skip (VE.seqN ?_)
              refine VC.cond rfl (fun h16 => ?_) (fun h16 => ?_)
              ·
                refine VC.seq ?_
                refine VC.reg (VO.l (LO.as (.r rfl)) rfl<|VO.nil ?_)
                refine VE.seqN ?_
                refine VC.ret (VE.inR (VE.thenR (VE.res (vs := [_]) rfl ⟨rfl, trivial⟩ (fun w hw => ?_))))
                refine ⟨?_, hw.nil⟩
                simp only [resV]
                first | (exfalso; omega) | rw [siteE1 hNm] | rw [siteE2 (nn hNm) (by unfold siteOk; omega)] | rw [siteE3 (nn hNm) (by unfold siteOk; omega)]
              ·
                refine VC.skip (VE.inN (VE.seqN ?_))
                refine VC.seq ?_
                refine VC.reg (VO.l (LO.as (.r rfl)) rfl<|VO.nil ?_)
                refine VE.seqN ?_
                refine VC.ret (VE.res (vs := [_]) rfl ⟨rfl, trivial⟩ (fun w hw => ?_))
                refine ⟨?_, hw.nil⟩
                simp only [resV]
                first | (exfalso; omega) | rw [siteE1 hNm] | rw [siteE2 (nn hNm) (by unfold siteOk; omega)] | rw [siteE3 (nn hNm) (by unfold siteOk; omega)]
            ·
              refine VC.seq ?_
              refine VC.reg (VO.l (LO.fa (r := 6) F59_6 (.r rfl) rfl) rfl<|VO.l (LO.ld O3 (.r rfl) (fun _ hw => cells_at hw 0 rfl ⟨_, rfl⟩)) rfl<|VO.l (LO.call (xs := [_,_,_]) (vs := [_,_,_]) C119 ⟨(.r rfl), (.r rfl), (.r rfl), trivial⟩ (fun w _ => bwithin_c _ _ _ w)) rfl<|VO.l (LO.not (.r rfl)) rfl<|VO.l (LO.as (.r rfl)) rfl<|VO.nil ?_)
              refine VE.seqN ?_
              refine VC.cond rfl (fun h17 => ?_) (fun h17 => ?_)
              ·
                refine VC.skip (VE.seqN ?_)
                refine VC.cond rfl (fun h18 => ?_) (fun h18 => ?_)
                ·
                  refine VC.seq ?_
                  refine VC.reg (VO.l (LO.as (.r rfl)) rfl<|VO.nil ?_)
                  refine VE.seqN ?_
                  refine VC.ret (VE.inR (VE.thenR (VE.res (vs := [_]) rfl ⟨rfl, trivial⟩ (fun w hw => ?_))))
                  refine ⟨?_, hw.nil⟩
                  simp only [resV]
                  first | (exfalso; omega) | rw [siteE1 hNm] | rw [siteE2 (nn hNm) (by unfold siteOk; omega)] | rw [siteE3 (nn hNm) (by unfold siteOk; omega)]
                ·
                  refine VC.skip (VE.inN (VE.seqN ?_))
                  refine VC.seq ?_
                  refine VC.reg (VO.l (LO.as (.r rfl)) rfl<|VO.nil ?_)
                  refine VE.seqN ?_
                  refine VC.ret (VE.res (vs := [_]) rfl ⟨rfl, trivial⟩ (fun w hw => ?_))
                  refine ⟨?_, hw.nil⟩
                  simp only [resV]
                  first | (exfalso; omega) | rw [siteE1 hNm] | rw [siteE2 (nn hNm) (by unfold siteOk; omega)] | rw [siteE3 (nn hNm) (by unfold siteOk; omega)]
              ·
                refine VC.reg (VO.l (LO.fa (r := 7) F59_7 (.r rfl) rfl) rfl<|VO.l (LO.ld O3 (.r rfl) (fun _ hw => cells_at hw 0 rfl ⟨_, rfl⟩)) rfl<|VO.l (LO.call (xs := [_,_,_]) (vs := [_,_,_]) C119 ⟨(.r rfl), (.r rfl), (.r rfl), trivial⟩ (fun w _ => bwithin_c _ _ _ w)) rfl<|VO.l (LO.not (.r rfl)) rfl<|VO.l (LO.as (.r rfl)) rfl<|VO.nil ?_)
                refine VE.seqN ?_
                refine VC.cond rfl (fun h19 => ?_) (fun h19 => ?_)
                ·
                  refine VC.seq ?_
                  refine VC.reg (VO.l (LO.as (.r rfl)) rfl<|VO.nil ?_)
                  refine VE.seqN ?_
                  refine VC.ret (VE.inR (VE.thenR (VE.res (vs := [_]) rfl ⟨rfl, trivial⟩ (fun w hw => ?_))))
                  refine ⟨?_, hw.nil⟩
                  simp only [resV]
                  first | (exfalso; omega) | rw [siteE1 hNm] | rw [siteE2 (nn hNm) (by unfold siteOk; omega)] | rw [siteE3 (nn hNm) (by unfold siteOk; omega)]
                ·
                  refine VC.skip (VE.inN (VE.seqN ?_))
                  refine VC.seq ?_
                  refine VC.reg (VO.l (LO.as (.r rfl)) rfl<|VO.nil ?_)
                  refine VE.seqN ?_
                  refine VC.ret (VE.res (vs := [_]) rfl ⟨rfl, trivial⟩ (fun w hw => ?_))
                  refine ⟨?_, hw.nil⟩
                  simp only [resV]
                  first | (exfalso; omega) | rw [siteE1 hNm] | rw [siteE2 (nn hNm) (by unfold siteOk; omega)] | rw [siteE3 (nn hNm) (by unfold siteOk; omega)]
      ·
        refine VC.reg (VO.l (LO.fa (r := 3) F59_3 (.r rfl) rfl) rfl<|VO.l (LO.ld O3 (.r rfl) (fun _ hw => cells_at hw 0 rfl ⟨_, rfl⟩)) rfl<|VO.l (LO.call (xs := [_,_,_]) (vs := [_,_,_]) C119 ⟨(.r rfl), (.r rfl), (.r rfl), trivial⟩ (fun w _ => bwithin_c _ _ _ w)) rfl<|VO.l (LO.not (.r rfl)) rfl<|VO.l (LO.as (.r rfl)) rfl<|VO.nil ?_)
        refine VE.seqN ?_
        refine VC.cond rfl (fun h20 => ?_) (fun h20 => ?_)
        ·
          refine VC.seq ?_
          refine VC.reg (VO.l (LO.as (.r rfl)) rfl<|VO.nil ?_)
          refine VE.seqN ?_
          refine VC.ret (VE.inR (VE.thenR (VE.res (vs := [_]) rfl ⟨rfl, trivial⟩ (fun w hw => ?_))))
          refine ⟨?_, hw.nil⟩
          simp only [resV]
          first | (exfalso; omega) | rw [siteE1 hNm] | rw [siteE2 (nn hNm) (by unfold siteOk; omega)] | rw [siteE3 (nn hNm) (by unfold siteOk; omega)]
        ·
          refine VC.seq ?_
          refine VC.seq ?_
          refine VC.reg (VO.l (LO.fa (r := 4) F59_4 (.r rfl) rfl) rfl<|VO.l (LO.ld O3 (.r rfl) (fun _ hw => cells_at hw 0 rfl ⟨_, rfl⟩)) rfl<|VO.l (LO.call (xs := [_,_,_]) (vs := [_,_,_]) C119 ⟨(.r rfl), (.r rfl), (.r rfl), trivial⟩ (fun w _ => bwithin_c _ _ _ w)) rfl<|VO.l (LO.not (.r rfl)) rfl<|VO.l (LO.as (.r rfl)) rfl<|VO.nil ?_)
          refine VE.seqN ?_
          refine VC.cond rfl (fun h21 => ?_) (fun h21 => ?_)
          ·
            refine VC.skip (VE.seqN ?_)
            refine VC.cond rfl (fun h22 => ?_) (fun h22 => ?_)
            ·
              refine VC.seq ?_
              refine VC.reg (VO.l (LO.as (.r rfl)) rfl<|VO.nil ?_)
              refine VE.seqN ?_
              refine VC.ret (VE.inR (VE.thenR (VE.res (vs := [_]) rfl ⟨rfl, trivial⟩ (fun w hw => ?_))))
              refine ⟨?_, hw.nil⟩
              simp only [resV]
              first | (exfalso; omega) | rw [siteE1 hNm] | rw [siteE2 (nn hNm) (by unfold siteOk; omega)] | rw [siteE3 (nn hNm) (by unfold siteOk; omega)]
            ·
              refine VC.skip (VE.inN (VE.seqN ?_))
              refine VC.seq ?_
              refine VC.reg (VO.l (LO.as (.r rfl)) rfl<|VO.nil ?_)
              refine VE.seqN ?_
              refine VC.ret (VE.res (vs := [_]) rfl ⟨rfl, trivial⟩ (fun w hw => ?_))
              refine ⟨?_, hw.nil⟩
              simp only [resV]
              first | (exfalso; omega) | rw [siteE1 hNm] | rw [siteE2 (nn hNm) (by unfold siteOk; omega)] | rw [siteE3 (nn hNm) (by unfold siteOk; omega)]
          ·
            refine VC.seq ?_
            refine VC.reg (VO.l (LO.fa (r := 5) F59_5 (.r rfl) rfl) rfl<|VO.l (LO.ld O3 (.r rfl) (fun _ hw => cells_at hw 0 rfl ⟨_, rfl⟩)) rfl<|VO.l (LO.call (xs := [_,_,_]) (vs := [_,_,_]) C119 ⟨(.r rfl), (.r rfl), (.r rfl), trivial⟩ (fun w _ => bwithin_c _ _ _ w)) rfl<|VO.l (LO.not (.r rfl)) rfl<|VO.l (LO.as (.r rfl)) rfl<|VO.nil ?_)
            refine VE.seqN ?_
            refine VC.cond rfl (fun h23 => ?_) (fun h23 => ?_)
            ·
              refine VC.skip (VE.seqN ?_)
              refine VC.cond rfl (fun h24 => ?_) (fun h24 => ?_)
              ·
                refine VC.seq ?_
                refine VC.reg (VO.l (LO.as (.r rfl)) rfl<|VO.nil ?_)
                refine VE.seqN ?_
                refine VC.ret (VE.inR (VE.thenR (VE.res (vs := [_]) rfl ⟨rfl, trivial⟩ (fun w hw => ?_))))
                refine ⟨?_, hw.nil⟩
                simp only [resV]
                first | (exfalso; omega) | rw [siteE1 hNm] | rw [siteE2 (nn hNm) (by unfold siteOk; omega)] | rw [siteE3 (nn hNm) (by unfold siteOk; omega)]
              ·
                refine VC.skip (VE.inN (VE.seqN ?_))
                refine VC.seq ?_
                refine VC.reg (VO.l (LO.as (.r rfl)) rfl<|VO.nil ?_)
                refine VE.seqN ?_
                refine VC.ret (VE.res (vs := [_]) rfl ⟨rfl, trivial⟩ (fun w hw => ?_))
                refine ⟨?_, hw.nil⟩
                simp only [resV]
                first | (exfalso; omega) | rw [siteE1 hNm] | rw [siteE2 (nn hNm) (by unfold siteOk; omega)] | rw [siteE3 (nn hNm) (by unfold siteOk; omega)]
            ·
              refine VC.seq ?_
              refine VC.reg (VO.l (LO.fa (r := 6) F59_6 (.r rfl) rfl) rfl<|VO.l (LO.ld O3 (.r rfl) (fun _ hw => cells_at hw 0 rfl ⟨_, rfl⟩)) rfl<|VO.l (LO.call (xs := [_,_,_]) (vs := [_,_,_]) C119 ⟨(.r rfl), (.r rfl), (.r rfl), trivial⟩ (fun w _ => bwithin_c _ _ _ w)) rfl<|VO.l (LO.not (.r rfl)) rfl<|VO.l (LO.as (.r rfl)) rfl<|VO.nil ?_)
              refine VE.seqN ?_
              refine VC.cond rfl (fun h25 => ?_) (fun h25 => ?_)
              ·
                refine VC.skip (VE.seqN ?_)
                refine VC.cond rfl (fun h26 => ?_) (fun h26 => ?_)
                ·
                  refine VC.seq ?_
                  refine VC.reg (VO.l (LO.as (.r rfl)) rfl<|VO.nil ?_)
                  refine VE.seqN ?_
                  refine VC.ret (VE.inR (VE.thenR (VE.res (vs := [_]) rfl ⟨rfl, trivial⟩ (fun w hw => ?_))))
                  refine ⟨?_, hw.nil⟩
                  simp only [resV]
                  first | (exfalso; omega) | rw [siteE1 hNm] | rw [siteE2 (nn hNm) (by unfold siteOk; omega)] | rw [siteE3 (nn hNm) (by unfold siteOk; omega)]
                ·
                  refine VC.skip (VE.inN (VE.seqN ?_))
                  refine VC.seq ?_
                  refine VC.reg (VO.l (LO.as (.r rfl)) rfl<|VO.nil ?_)
                  refine VE.seqN ?_
                  refine VC.ret (VE.res (vs := [_]) rfl ⟨rfl, trivial⟩ (fun w hw => ?_))
                  refine ⟨?_, hw.nil⟩
                  simp only [resV]
                  first | (exfalso; omega) | rw [siteE1 hNm] | rw [siteE2 (nn hNm) (by unfold siteOk; omega)] | rw [siteE3 (nn hNm) (by unfold siteOk; omega)]
              ·
                refine VC.reg (VO.l (LO.fa (r := 7) F59_7 (.r rfl) rfl) rfl<|VO.l (LO.ld O3 (.r rfl) (fun _ hw => cells_at hw 0 rfl ⟨_, rfl⟩)) rfl<|VO.l (LO.call (xs := [_,_,_]) (vs := [_,_,_]) C119 ⟨(.r rfl), (.r rfl), (.r rfl), trivial⟩ (fun w _ => bwithin_c _ _ _ w)) rfl<|VO.l (LO.not (.r rfl)) rfl<|VO.l (LO.as (.r rfl)) rfl<|VO.nil ?_)
                refine VE.seqN ?_
                refine VC.cond rfl (fun h27 => ?_) (fun h27 => ?_)
                ·
                  refine VC.seq ?_
                  refine VC.reg (VO.l (LO.as (.r rfl)) rfl<|VO.nil ?_)
                  refine VE.seqN ?_
                  refine VC.ret (VE.inR (VE.thenR (VE.res (vs := [_]) rfl ⟨rfl, trivial⟩ (fun w hw => ?_))))
                  refine ⟨?_, hw.nil⟩
                  simp only [resV]
                  first | (exfalso; omega) | rw [siteE1 hNm] | rw [siteE2 (nn hNm) (by unfold siteOk; omega)] | rw [siteE3 (nn hNm) (by unfold siteOk; omega)]
                ·
                  refine VC.skip (VE.inN (VE.seqN ?_))
                  refine VC.seq ?_
                  refine VC.reg (VO.l (LO.as (.r rfl)) rfl<|VO.nil ?_)
                  refine VE.seqN ?_
                  refine VC.ret (VE.res (vs := [_]) rfl ⟨rfl, trivial⟩ (fun w hw => ?_))
                  refine ⟨?_, hw.nil⟩
                  simp only [resV]
                  first | (exfalso; omega) | rw [siteE1 hNm] | rw [siteE2 (nn hNm) (by unfold siteOk; omega)] | rw [siteE3 (nn hNm) (by unfold siteOk; omega)]

end Go.Proofs.YtffbohecdocajaaGreat

namespace Go.Proofs.YtffbohecdocajaaGreat
open Go.SL Go.Proofs Go.Pulse
set_option linter.unusedVariables false

theorem S41 : IsSlice Tryz.prog 41 76 := Tryz.underlying41
theorem F62_0 : FieldAt Tryz.prog 62 0 0 := ⟨_,_, Tryz.underlying62, rfl, rfl, 7, by kernel_rfl⟩
theorem A59 : IsAgg Tryz.prog 59 8 := ⟨⟨_, Tryz.underlying59, rfl⟩, by kernel_rfl⟩
theorem C53 : IsFn Tryz.prog 53 := ⟨_, Tryz.func53, by decide, rfl⟩
theorem F62_1 : FieldAt Tryz.prog 62 1 8 := ⟨_,_, Tryz.underlying62, rfl, rfl, 0, by kernel_rfl⟩
theorem F62_2 : FieldAt Tryz.prog 62 2 9 := ⟨_,_, Tryz.underlying62, rfl, rfl, 0, by kernel_rfl⟩
theorem F62_3 : FieldAt Tryz.prog 62 3 10 := ⟨_,_, Tryz.underlying62, rfl, rfl, 0, by kernel_rfl⟩
theorem O60 : IsOne Tryz.prog 60 := ⟨⟨_, Tryz.underlying60, rfl⟩, by kernel_rfl⟩
theorem S60 : IsSlice Tryz.prog 60 41 := Tryz.underlying60
theorem N41 : (Tryz.prog.info? 41).map (·.size) = some 1 := by kernel_rfl
theorem O41 : IsOne Tryz.prog 41 := ⟨⟨_, Tryz.underlying41, rfl⟩, by kernel_rfl⟩
abbrev ERow := RowA Echo
abbrev ERows (w : World) (p : Option Addr) (rs : List ERow) : Prop := RR 14 echoC w p rs
def zRE : ERow := RowA.z
def lensOk (rs : List ERow) (n : Int) : Prop := ∀ x ∈ rs, (x.l.length : Int) = n
instance (rs : List ERow) (n : Int) : Decidable (lensOk rs n) := by unfold lensOk; exact inferInstance
def rowE (l : List Echo) : Int := firstE (fun k => echoE (l.getD k zE)) l.length
def rowsE (rs : List ERow) : Int := firstE (fun i => rowE (rs.getD i zRE).l) rs.length
def sweepE (s : Site) (ti tm : Int) (rs : List ERow) : Int :=
  if siteE s ≠ 0 then siteE s else if ¬ ((0 ≤ ti ∧ ti ≤ 256) ∧ 0 ≤ tm ∧ tm ≤ 4294967296) then 3 else if (rs.length : Int) ≠ 4 * s.rose then 11 else if ¬ lensOk rs s.gates then 11 else rowsE rs
section
variable {s : Site} {ti tm : Int} {rs : List ERow}
theorem sw1 (h : ¬ siteE s = 0) : sweepE s ti tm rs = siteE s := if_pos h
theorem sw2 (h : ¬ ¬ siteE s = 0) (k : ¬ ((0 ≤ ti ∧ ti ≤ 256) ∧ 0 ≤ tm ∧ tm ≤ 4294967296)) : sweepE s ti tm rs = 3 := by unfold sweepE; rw [if_neg h, if_pos k]
theorem sw3 (h : ¬ ¬ siteE s = 0) (k : (0 ≤ ti ∧ ti ≤ 256) ∧ 0 ≤ tm ∧ tm ≤ 4294967296) (q : ¬ (rs.length : Int) = 4 * s.rose) : sweepE s ti tm rs = 11 := by unfold sweepE; rw [if_neg h, if_neg (fun f => f k), if_pos q]
theorem sw4 {i : Nat} (h : ¬ ¬ siteE s = 0) (k : (0 ≤ ti ∧ ti ≤ 256) ∧ 0 ≤ tm ∧ tm ≤ 4294967296) (q : ¬ ¬ (rs.length : Int) = 4 * s.rose) (hi : i < rs.length) (hl : ¬ ((rs.getD i zRE).l.length : Int) = s.gates) : sweepE s ti tm rs = 11 := by
  unfold sweepE; rw [if_neg h, if_neg (fun f => f k), if_neg q, if_pos (fun f => hl (f _ (getD_mem (d := zRE) hi)))]
theorem sw5 (h : ¬ ¬ siteE s = 0) (k : (0 ≤ ti ∧ ti ≤ 256) ∧ 0 ≤ tm ∧ tm ≤ 4294967296) (q : ¬ ¬ (rs.length : Int) = 4 * s.rose) (hl : ∀ j, j < rs.length → ((rs.getD j zRE).l.length : Int) = s.gates) : sweepE s ti tm rs = rowsE rs := by
  unfold sweepE; rw [if_neg h, if_neg (fun f => f k), if_neg q, if_neg]
  intro f
  refine f fun x hx => ?_
  obtain ⟨j, hj, rfl⟩ := mem_getD (d := zRE) hx
  exact hl j hj
theorem rows_at {i m : Nat} (hz : ∀ k, k < i → rowE (rs.getD k zRE).l = 0) (hi : i < rs.length) (hz2 : ∀ k, k < m → echoE ((rs.getD i zRE).l.getD k zE) = 0) (hm : m < (rs.getD i zRE).l.length) (he : ¬ echoE ((rs.getD i zRE).l.getD m zE) = 0) : rowsE rs = echoE ((rs.getD i zRE).l.getD m zE) := by
  have e : rowE (rs.getD i zRE).l = echoE ((rs.getD i zRE).l.getD m zE) := firstE_at (f := fun k => echoE ((rs.getD i zRE).l.getD k zE)) hz2 he hm
  unfold rowsE
  rw [firstE_at (f := fun i => rowE (rs.getD i zRE).l) hz (by rw [e]; exact he) hi, e]
theorem rows_0 (hz : ∀ k, k < rs.length → rowE (rs.getD k zRE).l = 0) : rowsE rs = 0 := firstE_zero hz
theorem row_0 {i : Nat} (hz2 : ∀ k, k < (rs.getD i zRE).l.length → echoE ((rs.getD i zRE).l.getD k zE) = 0) : rowE (rs.getD i zRE).l = 0 := firstE_zero hz2
theorem all_step2 {f : Nat → Prop} {i : Nat} (hz : ∀ k, k < i → f k) (h : f i) : ∀ k, k < i + 1 → f k := fun k hk => by
  by_cases q : k = i
  · subst q; exact h
  · exact hz k (by omega)
theorem erow_at {w : World} {p : Option Addr} (h : ERows w p rs) {i : Nat} (hi : i < rs.length) : (rs.getD i zRE).l.length ≤ (rs.getD i zRE).c ∧ RO 14 echoC w (rs.getD i zRE).p (rs.getD i zRE).l := h.2 _ (getD_mem (d := zRE) hi)
end

def sweepC (s : Site) (ti tm : Int) (p : Option Addr) (n c : Nat) : List Value := [.string s.name, .int .i64 s.x, .int .i64 s.y, .int .i64 s.z, .int .i64 s.rose, .int .i64 s.gates, .int .i64 s.step, .int .i64 s.width, .int .i64 ti, .int .i64 tm, .slice p n c]

theorem site_r {s : Site} (h : siteE s = 0) : 1 ≤ s.rose ∧ s.rose ≤ 90 := by
  unfold siteE at h
  by_cases q : nameB s.name = true
  · rw [if_pos q] at h
    by_cases k : siteOk s
    · unfold siteOk at k; omega
    · rw [if_neg k] at h; exact absurd h (by decide)
  · rw [if_neg q] at h; exact absurd h (by decide)

set_option maxRecDepth 20000 in
theorem CheckSweep_c (s : Site) (ti tm : Int) (rs : List ERow) (p : Option Addr) (c : Nat) (w : World) (hn : rs.length ≤ 200) (hm : ∀ x ∈ rs, x.l.length ≤ 60) (hl : ERows w p rs) :
  Calls Tryz.prog 14 #[.agg (sweepC s ti tm p rs.length c).toArray] w fun e w' => e = .returned (.int .i64 (sweepE s ti tm rs)) ∧ St (bs w) [] w' := by
  refine enter (vs := [_]) (env := [(0,_)]) Tryz.func14 rfl rfl rfl rfl ?_
  refine VC.seq ?_
  refine VC.reg (VO.h rfl<|HO.box (C := #[_,_,_,_,_,_,_,_,_,_,_]) rfl rfl fun b1 => VO.l (LO.as (.r rfl)) rfl<|VO.nil ?_)
  refine VE.seqN ?_
  refine VC.seq ?_
  refine VC.seq ?_
  refine VC.reg (VO.l (LO.fa (r := 0) F62_0 (.r rfl) rfl) rfl<|VO.l (LO.lda (vs := [_,_,_,_,_,_,_,_]) A59 (.r rfl) (fun _ hw => cells_at hw 0 rfl ⟨_, rfl⟩) rfl) rfl<|VO.l (LO.call (xs := [_]) (vs := [_]) C53 ⟨(.r rfl), trivial⟩ (fun w _ => CheckSite_c s w)) rfl<|VO.l (LO.as (.r rfl)) rfl<|VO.nil ?_)
  refine VE.seqN ?_
  refine VC.seq ?_
  refine VC.reg (VO.l (LO.mv (.r rfl)) rfl<|VO.l (LO.ne (.r rfl) (.r rfl)) rfl<|VO.nil ?_)
  refine VE.seqN ?_
  refine VC.cond rfl (fun hS => ?_) (fun hS => ?_)
  ·
    refine VC.seq ?_
    refine VC.reg (VO.l (LO.mv (.r rfl)) rfl<|VO.l (LO.as (.r rfl)) rfl<|VO.nil ?_)
    refine VE.seqN ?_
    refine VC.ret (VE.thenR (VE.res (vs := [_]) rfl ⟨rfl, trivial⟩ (fun w hw => ?_)))
    refine ⟨?_, hw.nil⟩
    simp only [resV]
    first | rw [sw1 hS] | rw [sw2 hS (by omega)] | rw [sw3 hS (by omega) (by omega)] | rw [sw4 (i := i) hS (by omega) (by omega) (by omega) hLn] | (rw [sw5 hS (by omega) (by omega) hzz]; first | (rw [rows_at hz (by omega) hz2 (by omega) hEr]; done) | (rw [rows_0 fun k hk => hz k (by omega)]; done))
  ·
    have hs0 : siteE s = 0 := Classical.not_not.1 hS
    have hsr := site_r hs0
    refine VC.skip (VE.seqN ?_)
    refine VC.seq ?_
    refine VC.seq ?_
    refine VC.reg (VO.l (LO.fa (r := 8) F62_1 (.r rfl) rfl) rfl<|VO.l (LO.ld O3 (.r rfl) (fun _ hw => cells_at hw 0 rfl ⟨_, rfl⟩)) rfl<|VO.l (LO.call (xs := [_,_,_]) (vs := [_,_,_]) C54 ⟨(.r rfl), (.r rfl), (.r rfl), trivial⟩ (fun w _ => within_c _ _ _ w)) rfl<|VO.l (LO.not (.r rfl)) rfl<|VO.l (LO.mv (.r rfl)) rfl<|VO.lg rfl rfl (GD.f _) (fun hg => LO.fa (r := 9) F62_2 (.r rfl) rfl) rfl<|VO.lg rfl rfl (GD.f _) (fun hg => LO.ld O3 (.g hg rfl) (fun _ hw => cells_at hw 0 rfl ⟨_, rfl⟩)) rfl<|VO.lg rfl rfl (GD.f _) (fun hg => LO.call (xs := [_,_,_]) (vs := [_,_,_]) C54 ⟨(.g hg rfl), (.r rfl), (.r rfl), trivial⟩ (fun w _ => within_c _ _ _ w)) rfl<|VO.lg rfl rfl (GD.f _) (fun hg => LO.not (.g hg rfl)) rfl<|VO.l (LO.pkO (.r rfl) (.r rfl) rfl rfl) rfl<|VO.nil ?_)
    refine VE.seqN ?_
    refine VC.cond rfl (fun h26 => ?_) (fun h26 => ?_)
    ·
      refine VC.seq ?_
      refine VC.reg (VO.l (LO.as (.r rfl)) rfl<|VO.nil ?_)
      refine VE.seqN ?_
      refine VC.ret (VE.thenR (VE.res (vs := [_]) rfl ⟨rfl, trivial⟩ (fun w hw => ?_)))
      refine ⟨?_, hw.nil⟩
      simp only [resV]
      first | rw [sw1 hS] | rw [sw2 hS (by omega)] | rw [sw3 hS (by omega) (by omega)] | rw [sw4 (i := i) hS (by omega) (by omega) (by omega) hLn] | (rw [sw5 hS (by omega) (by omega) hzz]; first | (rw [rows_at hz (by omega) hz2 (by omega) hEr]; done) | (rw [rows_0 fun k hk => hz k (by omega)]; done))
    ·
      refine VC.skip (VE.seqN ?_)
      refine VC.seq ?_
      refine VC.seq ?_
      refine VC.reg (VO.l (LO.fa (r := 10) F62_3 (.r rfl) rfl) rfl<|VO.l (LO.ld O60 (.r rfl) (fun _ hw => cells_at hw 0 rfl ⟨_, rfl⟩)) rfl<|VO.l (LO.len S60 (.r rfl) rfl) rfl<|VO.l (LO.fa (r := 0) F62_0 (.r rfl) rfl) rfl<|VO.l (LO.fa (r := 4) F59_4 (.r rfl) rfl) rfl<|VO.l (LO.ld O3 (.r rfl) (fun _ hw => cells_at hw 0 rfl ⟨_, rfl⟩)) rfl<|VO.l (LO.mul (.r rfl) (.r rfl) (wi (by omega) (by omega))) rfl<|VO.l (LO.ne (.r rfl) (.r rfl)) rfl<|VO.nil ?_)
      refine VE.seqN ?_
      refine VC.cond rfl (fun h34 => ?_) (fun h34 => ?_)
      ·
        refine VC.seq ?_
        refine VC.reg (VO.l (LO.as (.r rfl)) rfl<|VO.nil ?_)
        refine VE.seqN ?_
        refine VC.ret (VE.thenR (VE.res (vs := [_]) rfl ⟨rfl, trivial⟩ (fun w hw => ?_)))
        refine ⟨?_, hw.nil⟩
        simp only [resV]
        first | rw [sw1 hS] | rw [sw2 hS (by omega)] | rw [sw3 hS (by omega) (by omega)] | rw [sw4 (i := i) hS (by omega) (by omega) (by omega) hLn] | (rw [sw5 hS (by omega) (by omega) hzz]; first | (rw [rows_at hz (by omega) hz2 (by omega) hEr]; done) | (rw [rows_0 fun k hk => hz k (by omega)]; done))
      ·
        refine VC.skip (VE.seqN ?_)
        refine VC.seq ?_
        refine VC.seq ?_
        refine VC.reg (VO.l (LO.fa (r := 10) F62_3 (.r rfl) rfl) rfl<|VO.l (LO.ld O60 (.r rfl) (fun _ hw => cells_at hw 0 rfl ⟨_, rfl⟩)) rfl<|VO.l (LO.len S60 (.r rfl) rfl) rfl<|VO.l (LO.mv (.r rfl)) rfl<|VO.nil ?_)
        refine VE.seqN ?_
        refine VC.block ?_
        refine VC.loopK (α := Nat) 0 (fun gx => [(38, .int .i64 (gx : Nat))]) [(1,_), (36,_), (37,_)] (fun gx => []) (fun gx => gx ≤ rs.length ∧ ∀ k, k < gx → ((rs.getD k zRE).l.length : Int) = s.gates) (fun gx => rs.length - gx) 0 (by exact ⟨Nat.zero_le _, fun k hk => by omega⟩) (.cons rfl (.cons rfl (.cons rfl (.cons rfl .nil)))) (fun _ h => h) ?_
        rintro i ⟨hi, hz⟩
        refine VC.seq ?_
        refine VC.reg (VO.l (LO.lt (.r rfl) (.r rfl)) rfl<|VO.nil ?_)
        refine VE.seqN ?_
        refine VC.seq ?_
        refine VC.cond rfl (fun h4 => ?_) (fun h4 => ?_)
        ·
          refine VC.skip (VE.seqN ?_)
          refine VC.seq ?_
          refine VC.block ?_
          refine VC.seq ?_
          have hrow := erow_at hl (i := i) (by omega)
          have hr60 := hm _ (getD_mem (d := zRE) (show i < rs.length by omega))
          refine VC.reg (VO.l (LO.ixs S60 N41 hl.1.sm (.r rfl) (.r rfl) rfl (by omega)) rfl<|VO.l (LO.ld O41 (.r rfl) (fun w hw => cells_part (off := 0) ((hl.1.at zRE (j := i) (by omega)) w hw) ⟨_, rfl⟩)) rfl<|VO.l (LO.as (.r rfl)) rfl<|VO.nil ?_)
          refine VE.seqN ?_
          refine VC.seq ?_
          refine VC.reg (VO.l (LO.mv (.r rfl)) rfl<|VO.l (LO.len S41 (.r rfl) rfl) rfl<|VO.l (LO.fa (r := 0) F62_0 (.r rfl) rfl) rfl<|VO.l (LO.fa (r := 5) F59_5 (.r rfl) rfl) rfl<|VO.l (LO.ld O3 (.r rfl) (fun _ hw => cells_at hw 0 rfl ⟨_, rfl⟩)) rfl<|VO.l (LO.ne (.r rfl) (.r rfl)) rfl<|VO.nil ?_)
          refine VE.seqN ?_
          refine VC.cond rfl (fun hLn => ?_) (fun hLn => ?_)
          ·
            refine VC.seq ?_
            refine VC.reg (VO.l (LO.as (.r rfl)) rfl<|VO.nil ?_)
            refine VE.seqN ?_
            refine VC.ret (VE.inR (VE.thenR (VE.thenR (VE.inR (VE.thenR (VE.res (vs := [_]) rfl ⟨rfl, trivial⟩ (fun w hw => ?_)))))))
            refine ⟨?_, hw.nil⟩
            simp only [resV]
            first | rw [sw1 hS] | rw [sw2 hS (by omega)] | rw [sw3 hS (by omega) (by omega)] | rw [sw4 (i := i) hS (by omega) (by omega) (by omega) hLn] | (rw [sw5 hS (by omega) (by omega) hzz]; first | (rw [rows_at hz (by omega) hz2 (by omega) hEr]; done) | (rw [rows_0 fun k hk => hz k (by omega)]; done))
          ·
            refine VC.skip (VE.inN (VE.seqN ?_))
            refine VC.reg (VO.l (LO.add (.r rfl) (.r rfl) (wi (by omega) (by omega))) rfl<|VO.l (LO.mv (.r rfl)) rfl<|VO.nil ?_)
            refine VE.thenN fun a w ha hw => ⟨i + 1, ⟨by omega, all_step2 (f := fun k => ((rs.getD k zRE).l.length : Int) = s.gates) hz (Classical.not_not.1 hLn)⟩, (by omega), ha.sub (.cons rfl (.cons rfl (.cons rfl (.cons rfl .nil)))), hw⟩
        ·
          refine VC.exit (VE.thenX (VE.thenX (VE.inX (VE.seqN ?_))))
          refine VC.seq ?_
          refine VC.seq ?_
          have hir : i = rs.length := by omega
          subst hir
          have hzz := hz
          clear hz
          refine VC.reg (VO.l (LO.fa (r := 10) F62_3 (.r rfl) rfl) rfl<|VO.l (LO.ld O60 (.r rfl) (fun _ hw => cells_at hw 0 rfl ⟨_, rfl⟩)) rfl<|VO.l (LO.len S60 (.r rfl) rfl) rfl<|VO.l (LO.mv (.r rfl)) rfl<|VO.nil ?_)
          refine VE.seqN ?_
          refine VC.block ?_
          refine VC.loopK (α := Nat) 0 (fun gx => [(52, .int .i64 (gx : Nat))]) [(50,_), (51,_)] (fun gx => []) (fun gx => gx ≤ rs.length ∧ ∀ k, k < gx → rowE (rs.getD k zRE).l = 0) (fun gx => rs.length - gx) 0 (by exact ⟨Nat.zero_le _, fun k hk => by omega⟩) (.cons rfl (.cons rfl (.cons rfl .nil))) (fun _ h => h) ?_
          rintro i ⟨hi, hz⟩
          refine VC.seq ?_
          refine VC.reg (VO.l (LO.lt (.r rfl) (.r rfl)) rfl<|VO.nil ?_)
          refine VE.seqN ?_
          refine VC.seq ?_
          refine VC.cond rfl (fun h6 => ?_) (fun h6 => ?_)
          ·
            refine VC.skip (VE.seqN ?_)
            refine VC.seq ?_
            refine VC.block ?_
            refine VC.seq ?_
            have hrow := erow_at hl (i := i) (by omega)
            have hr60 := hm _ (getD_mem (d := zRE) (show i < rs.length by omega))
            refine VC.reg (VO.l (LO.ixs S60 N41 hl.1.sm (.r rfl) (.r rfl) rfl (by omega)) rfl<|VO.l (LO.ld O41 (.r rfl) (fun w hw => cells_part (off := 0) ((hl.1.at zRE (j := i) (by omega)) w hw) ⟨_, rfl⟩)) rfl<|VO.l (LO.as (.r rfl)) rfl<|VO.nil ?_)
            refine VE.seqN ?_
            refine VC.seq ?_
            refine VC.reg (VO.l (LO.mv (.r rfl)) rfl<|VO.l (LO.len S41 (.r rfl) rfl) rfl<|VO.l (LO.mv (.r rfl)) rfl<|VO.nil ?_)
            refine VE.seqN ?_
            refine VC.block ?_
            refine VC.loopK (α := Nat) 0 (fun gx => [(58, .int .i64 (gx : Nat))]) [(50,_), (51,_), (52,_), (56,_), (57,_)] (fun gx => []) (fun gx => gx ≤ (rs.getD i zRE).l.length ∧ ∀ k, k < gx → echoE ((rs.getD i zRE).l.getD k zE) = 0) (fun gx => (rs.getD i zRE).l.length - gx) 0 (by exact ⟨Nat.zero_le _, fun k hk => by omega⟩) (.cons rfl (.cons rfl (.cons rfl (.cons rfl (.cons rfl (.cons rfl .nil)))))) (fun _ h => h) ?_
            rintro m ⟨hm2, hz2⟩
            refine VC.seq ?_
            refine VC.reg (VO.l (LO.lt (.r rfl) (.r rfl)) rfl<|VO.nil ?_)
            refine VE.seqN ?_
            refine VC.seq ?_
            refine VC.cond rfl (fun h7 => ?_) (fun h7 => ?_)
            ·
              refine VC.skip (VE.seqN ?_)
              refine VC.seq ?_
              refine VC.block ?_
              refine VC.seq ?_
              refine VC.reg (VO.l (LO.ixs S41 N76 hrow.2.sm (.r rfl) (.r rfl) rfl (by omega)) rfl<|VO.l (LO.lda (vs := [_,_,_,_,_,_,_,_,_,_,_,_,_,_]) A76 (.r rfl) (fun w hw => cells_part (off := 0) ((hrow.2.at zE (j := m) (by omega)) w hw) ⟨_, rfl⟩) rfl) rfl<|VO.h rfl<|HO.alloc (C := #[_,_,_,_,_,_,_,_,_,_,_,_,_,_]) Z76 rfl fun b2 => VO.h0<|HO.st 0 (vs := [_,_,_,_,_,_,_,_,_,_,_,_,_,_]) (C' := [_,_,_,_,_,_,_,_,_,_,_,_,_,_]) (L' := [_,_]) N76 rfl rfl rfl rfl rfl rfl rfl rfl<|VO.nil ?_)
              refine VE.seqN ?_
              refine VC.seq ?_
              refine VC.reg (VO.l (LO.lda (vs := [_,_,_,_,_,_,_,_,_,_,_,_,_,_]) A76 (.r rfl) (fun _ hw => cells_at hw 0 rfl ⟨_, rfl⟩) rfl) rfl<|VO.l (LO.call (xs := [_]) (vs := [_]) C55 ⟨(.r rfl), trivial⟩ (fun w _ => echoP_c ((rs.getD i zRE).l.getD m zE) w)) rfl<|VO.l (LO.as (.r rfl)) rfl<|VO.nil ?_)
              refine VE.seqN ?_
              refine VC.seq ?_
              refine VC.reg (VO.l (LO.mv (.r rfl)) rfl<|VO.l (LO.ne (.r rfl) (.r rfl)) rfl<|VO.nil ?_)
              refine VE.seqN ?_
              refine VC.cond rfl (fun hEr => ?_) (fun hEr => ?_)
              ·
                refine VC.seq ?_
                refine VC.reg (VO.l (LO.mv (.r rfl)) rfl<|VO.l (LO.as (.r rfl)) rfl<|VO.nil ?_)
                refine VE.seqN ?_
                refine VC.ret (VE.inR (VE.thenR (VE.thenR (VE.inR (VE.inR (VE.thenR (VE.thenR (VE.inR (VE.thenR (VE.res (vs := [_]) rfl ⟨rfl, trivial⟩ (fun w hw => ?_)))))))))))
                refine ⟨?_, hw.nil⟩
                simp only [resV]
                first | rw [sw1 hS] | rw [sw2 hS (by omega)] | rw [sw3 hS (by omega) (by omega)] | rw [sw4 (i := i) hS (by omega) (by omega) (by omega) hLn] | (rw [sw5 hS (by omega) (by omega) hzz]; first | (rw [rows_at hz (by omega) hz2 (by omega) hEr]; done) | (rw [rows_0 fun k hk => hz k (by omega)]; done))
              ·
                refine VC.skip (VE.inN (VE.seqN ?_))
                refine VC.reg (VO.l (LO.add (.r rfl) (.r rfl) (wi (by omega) (by omega))) rfl<|VO.l (LO.mv (.r rfl)) rfl<|VO.nil ?_)
                refine VE.thenN fun a w ha hw => ⟨m + 1, ⟨by omega, all_step2 (f := fun k => echoE ((rs.getD i zRE).l.getD k zE) = 0) hz2 (Classical.not_not.1 hEr)⟩, (by omega), ha.sub (.cons rfl (.cons rfl (.cons rfl (.cons rfl (.cons rfl (.cons rfl .nil)))))), hw.sel [1] rfl⟩
            ·
              refine VC.exit (VE.thenX (VE.thenX (VE.inX (VE.inN (VE.seqN ?_)))))
              refine VC.reg (VO.l (LO.add (.r rfl) (.r rfl) (wi (by omega) (by omega))) rfl<|VO.l (LO.mv (.r rfl)) rfl<|VO.nil ?_)
              refine VE.thenN fun a w ha hw => ⟨i + 1, ⟨by omega, all_step2 (f := fun k => rowE (rs.getD k zRE).l = 0) hz (row_0 fun k hk => hz2 k (by omega))⟩, (by omega), ha.sub (.cons rfl (.cons rfl (.cons rfl .nil))), hw⟩
          ·
            refine VC.exit (VE.thenX (VE.thenX (VE.inX (VE.seqN ?_))))
            refine VC.seq ?_
            refine VC.reg (VO.l (LO.as (.r rfl)) rfl<|VO.nil ?_)
            refine VE.seqN ?_
            refine VC.ret (VE.res (vs := [_]) rfl ⟨rfl, trivial⟩ (fun w hw => ?_))
            refine ⟨?_, hw.nil⟩
            simp only [resV]
            first | rw [sw1 hS] | rw [sw2 hS (by omega)] | rw [sw3 hS (by omega) (by omega)] | rw [sw4 (i := i) hS (by omega) (by omega) (by omega) hLn] | (rw [sw5 hS (by omega) (by omega) hzz]; first | (rw [rows_at hz (by omega) hz2 (by omega) hEr]; done) | (rw [rows_0 fun k hk => hz k (by omega)]; done))

end Go.Proofs.YtffbohecdocajaaGreat

namespace Go.Proofs.YtffbohecdocajaaGreat
open Go.SL Go.Proofs Go.Pulse
set_option linter.unusedVariables false

theorem S187 : IsSlice Tryz.prog 187 25 := Tryz.underlying187
theorem I25 : EInfo Tryz.prog 25 2 16 (.agg #[.int .i64 0, .int .i64 0]) := ⟨by kernel_rfl, by kernel_rfl, by unfold ZeroOf; kernel_rfl, rfl, by decide⟩


theorem LO.eqSl {P : Program} {β : Bs} {env : Env} {L : List Res} {d : Option Nat} {ty : TypeId} {pos : String} {aft : Array Edge} {g : Option (Nat × Bool)} {T T2 : TypeId} {x y : Operand} {p : Option Addr} {n c : Nat} (hT : ∃ E, P.underlying T = some (.slice E)) (hx : OV env x (.slice p n c)) (hy : OV env y (.slice none 0 0)) :
    LO P β env L ⟨d, .binOp .eql T x y T2, ty, pos, aft, g⟩ (.bool p.isNone) :=
  .of_run fun a w h hw => ⟨w, by
    obtain ⟨E, hE⟩ := hT
    have key : (Op.equalIn Op.maxDepth T (.slice p n c) (.slice none 0 0)).run P w = .ok p.isNone w := by
      show (Op.equalIn (9999 + 1) T (.slice p n c) (.slice none 0 0)).run P w = _
      unfold Op.equalIn
      rw [Sem.run_bind, run_underlying hE]
      cases p <;> rfl
    simp only [execOp, h x (by simp [Op.operands]) _ hx, h y (by simp [Op.operands]) _ hy, eqGuard, binOp, Op.equal, Sem.run_bind, Sem.run_pure, Result.andThen_ok, key, Bool.not_true, Bool.false_eq_true, if_false], hw⟩
theorem RO_none3 {α : Type} {z : Nat} {f : α → List Value} {w : World} {p : Option Addr} {l : List α} (h : RO z f w p l) (hp : p.isNone = true) : l = [] := by
  have := Go.SL.Rows.nil h (by cases p; rfl; cases hp)
  simpa using this
/-- A set as it lies. -/
structure SpY where
  l : List Span
  p : Option Addr
  c : Nat
def zSY : SpY := ⟨[], none, 0⟩

/-- What the union of some spans is. -/
structure UnP (l u : List Span) : Prop where
  c : CanS u
  m : ∀ z, memH u z ↔ memH l z
  n : u.length ≤ l.length
/-- What two sets have in common. -/
structure MeP (s t u : List Span) : Prop where
  c : CanS u
  m : ∀ z, memH u z ↔ memH s z ∧ memH t z
/-- Numbers are small. -/
def smS (l : List Span) : Prop := ∀ s, s ∈ l → (-1000000000 ≤ s.lo ∧ s.lo ≤ 1000000000) ∧ -1000000000 ≤ s.hi ∧ s.hi ≤ 1000000000
theorem eq_of_at {a b : List Span} (hl : a.length = b.length) (h : ∀ k, k < a.length → a.getD k zS = b.getD k zS) : a = b := by
  refine List.ext_getElem hl fun k h1 h2 => ?_
  have := h k h1
  rw [List.getD_eq_getElem?_getD, List.getElem?_eq_getElem h1, List.getD_eq_getElem?_getD, List.getElem?_eq_getElem h2] at this
  exact this
theorem span_ne {a b : Span} (h : ¬ ¬ ([Value.int .i64 a.lo, .int .i64 a.hi] : List Value) = [.int .i64 b.lo, .int .i64 b.hi]) : a = b := by
  have e := Classical.not_not.1 h
  obtain ⟨a1, a2⟩ := a
  obtain ⟨b1, b2⟩ := b
  simp at e
  rw [e.1, e.2]

set_option maxRecDepth 20000 in
theorem common_c (a b : Span) (w : World) :
  Calls Tryz.prog 122 #[spanV a, spanV b] w fun e w' => e = .returned (.tuple #[spanV (comS a b), .bool (decide ((comS a b).lo ≤ (comS a b).hi))]) ∧ St (bs w) [] w' := by
  refine enter (vs := [_,_]) (env := [(0,_), (1,_)]) Tryz.func122 rfl rfl rfl rfl ?_
  refine VC.seq ?_
  refine VC.reg (VO.h rfl<|HO.box (C := #[_,_]) rfl rfl fun b1 => VO.h rfl<|HO.box (C := #[_,_]) rfl rfl fun b2 => VO.h rfl<|HO.alloc (C := #[_,_]) Z25 rfl fun b3 => VO.l (LO.as (.r rfl)) rfl<|VO.nil ?_)
  refine VE.seqN ?_
  refine VC.seq ?_
  refine VC.reg (VO.l (LO.fa (r := 0) F25_0 (.r rfl) rfl) rfl<|VO.l (LO.ld O3 (.r rfl) (fun _ hw => cells_at hw 2 rfl ⟨_, rfl⟩)) rfl<|VO.l (LO.fa (r := 0) F25_0 (.r rfl) rfl) rfl<|VO.l (LO.ld O3 (.r rfl) (fun _ hw => cells_at hw 1 rfl ⟨_, rfl⟩)) rfl<|VO.l (LO.max (.r rfl) (.r rfl)) rfl<|VO.l (LO.fa (r := 1) F25_1 (.r rfl) rfl) rfl<|VO.l (LO.ld O3 (.r rfl) (fun _ hw => cells_at hw 2 rfl ⟨_, rfl⟩)) rfl<|VO.l (LO.fa (r := 1) F25_1 (.r rfl) rfl) rfl<|VO.l (LO.ld O3 (.r rfl) (fun _ hw => cells_at hw 1 rfl ⟨_, rfl⟩)) rfl<|VO.l (LO.min (.r rfl) (.r rfl)) rfl<|VO.l (LO.bd (ps := [(_,_), (_,_)]) (vs := [(_,_), (_,_)]) (C := [_,_]) B25  ⟨(.r rfl), (.r rfl), trivial⟩ rfl ⟨_, [_], [_,_], rfl, rfl, rfl, rfl, ⟨_, [_], [_,_], rfl, rfl, rfl, rfl, rfl⟩⟩) rfl<|VO.h rfl<|HO.alloc (C := #[_,_]) Z25 rfl fun b4 => VO.h0<|HO.st 0 (vs := [_,_]) (C' := [_,_]) (L' := [_,_,_,_]) N25 rfl rfl rfl rfl rfl rfl rfl rfl<|VO.nil ?_)
  refine VE.seqN ?_
  refine VC.seq ?_
  refine VC.drawH [[0,1,2,3], [0,2,3]] [some 0, some 1, some 1, some 1, some 1, some 1, none, some 1] mixed (by kernel_rfl) rfl (LX.l (fun _ hJ => LO.lda (vs := [_,_]) A25 (.r rfl) (fun _ hw => cells_at (hJ _ hw) 0 rfl ⟨_, rfl⟩) rfl) rfl<|LX.l (fun _ hJ => LO.fa (r := 0) F25_0 (.r rfl) rfl) rfl<|LX.l (fun _ hJ => LO.ld O3 (.r rfl) (fun _ hw => cells_at (hJ _ hw) 0 rfl ⟨_, rfl⟩)) rfl<|LX.l (fun _ hJ => LO.fa (r := 1) F25_1 (.r rfl) rfl) rfl<|LX.l (fun _ hJ => LO.ld O3 (.r rfl) (fun _ hw => cells_at (hJ _ hw) 0 rfl ⟨_, rfl⟩)) rfl<|LX.l (fun _ hJ => LO.le (.r rfl) (.r rfl)) rfl<|LX.s<|LX.l (fun _ hJ => LO.as (.r rfl)) rfl<|LX.nil) (HX.s<|HX.s<|HX.s<|HX.s<|HX.s<|HX.s<|HX.h0<|HO.st 1 (vs := [_,_]) (C' := [_,_]) (L' := [_,_,_,_]) N25 rfl rfl rfl rfl rfl rfl rfl rfl<|⟨fun _ hw => hw.sel [0,2,3] rfl, HX.s<|HX.nil ?_⟩)
  refine VE.seqN ?_
  refine VC.ret (VE.res (vs := [_,_]) rfl ⟨RV.agg (vs := [_,_]) A25 rfl (cells_blk 1 rfl ⟨_, rfl⟩) rfl, rfl, trivial⟩ (fun w hw => ?_))
  exact ⟨rfl, hw.nil⟩

set_option maxRecDepth 20000 in
theorem Clone_s (l : List Span) (p : Option Addr) (c : Nat) (w : World) (hn : l.length < 1000000000000) (hl : Spans w p l) :
  Calls Tryz.prog 123 #[.slice p l.length c] w fun e w' => ∃ x : Option Addr × Nat, True ∧ e = .returned (.slice x.1 l.length x.2) ∧ St (bs w) [own 25 2 x.1 x.2 (l.map spanC)] w' := by
  refine enter (vs := [_]) (env := [(0,_)]) Tryz.func123 rfl rfl rfl rfl ?_
  refine VC.seq ?_
  refine VC.reg (VO.l (LO.as (.r rfl)) rfl<|VO.nil ?_)
  refine VE.seqN ?_
  refine VC.seq ?_
  refine VC.seq ?_
  refine VC.reg (VO.l (LO.mv (.r rfl)) rfl<|VO.l (LO.eqSl ⟨_, Tryz.underlying187⟩ (.r rfl) (.r rfl)) rfl<|VO.nil ?_)
  refine VE.seqN ?_
  refine VC.cond rfl (fun h4 => ?_) (fun h4 => ?_)
  ·
    have h0 := RO_none3 hl h4
    refine VC.seq ?_
    refine VC.reg (VO.l (LO.as (.r rfl)) rfl<|VO.nil ?_)
    refine VE.seqN ?_
    refine VC.ret (VE.thenR (VE.res (vs := [_]) rfl ⟨rfl, trivial⟩ (fun w hw => ?_)))
    first | exact ⟨(none, 0), trivial, by rw [h0]; rfl, by rw [h0]; exact hw.nil.ownNil 25 2⟩ | exact ⟨(p2, c2), trivial, rfl, hw.sel [0] rfl⟩
  ·
    refine VC.skip (VE.seqN ?_)
    refine VC.seq ?_
    refine VC.reg (VO.h rfl<|HO.bs0 S187 N25 fun b1 => VO.l (LO.mv (.r rfl)) rfl<|VO.h rfl<|HO.appN0 (f := spanC) (m := l) 0 (fun R => [R]) S187 S187 I25 (.r rfl) (.r rfl) rfl (fun w hw => hl.keep w hw) (fun _ => rfl) (fun _ => rfl) rfl rfl (fun _ => rfl) rfl (by omega) fun p2 c2 _ => VO.h rfl<|HO.lo (LO.as (.r rfl))<|VO.nil ?_)
    refine VE.seqN ?_
    refine VC.ret (VE.res (vs := [_]) rfl ⟨rfl, trivial⟩ (fun w hw => ?_))
    first | exact ⟨(none, 0), trivial, by rw [h0]; rfl, by rw [h0]; exact hw.nil.ownNil 25 2⟩ | exact ⟨(p2, c2), trivial, rfl, hw.sel [0] rfl⟩

set_option maxRecDepth 20000 in
theorem EqualS_c (la lb : List Span) (p q : Option Addr) (c d : Nat) (w : World) (hn : la.length < 1000000000000) (hn2 : lb.length < 1000000000000) (ha : Spans w p la) (hb : Spans w q lb) :
  Calls Tryz.prog 130 #[.slice p la.length c, .slice q lb.length d] w fun e w' => e = .returned (.bool (decide (la = lb))) ∧ St (bs w) [] w' := by
  refine enter (vs := [_,_]) (env := [(0,_), (1,_)]) Tryz.func130 rfl rfl rfl rfl ?_
  refine VC.seq ?_
  refine VC.reg (VO.l (LO.as (.r rfl)) rfl<|VO.nil ?_)
  refine VE.seqN ?_
  refine VC.seq ?_
  refine VC.seq ?_
  refine VC.reg (VO.l (LO.mv (.r rfl)) rfl<|VO.l (LO.len S187 (.r rfl) rfl) rfl<|VO.l (LO.mv (.r rfl)) rfl<|VO.l (LO.len S187 (.r rfl) rfl) rfl<|VO.l (LO.ne (.r rfl) (.r rfl)) rfl<|VO.nil ?_)
  refine VE.seqN ?_
  refine VC.cond rfl (fun h10 => ?_) (fun h10 => ?_)
  ·
    refine VC.seq ?_
    refine VC.reg (VO.l (LO.as (.r rfl)) rfl<|VO.nil ?_)
    refine VE.seqN ?_
    refine VC.ret (VE.thenR (VE.res (vs := [_]) rfl ⟨rfl, trivial⟩ (fun w hw => ?_)))
    first | (rw [decide_eq_false (fun q => h24 (by rw [q]))]; exact ⟨rfl, hw.nil⟩) | (rw [decide_eq_false (fun q => h10 (congrArg (fun l : List Span => (l.length : Int)) q))]; exact ⟨rfl, hw.nil⟩) | (rw [decide_eq_true (eq_of_at (by omega) (fun k hk => hz k (by omega)))]; exact ⟨rfl, hw.nil⟩)
  ·
    refine VC.skip (VE.seqN ?_)
    refine VC.seq ?_
    refine VC.seq ?_
    refine VC.reg (VO.l (LO.mv (.r rfl)) rfl<|VO.l (LO.len S187 (.r rfl) rfl) rfl<|VO.l (LO.mv (.r rfl)) rfl<|VO.nil ?_)
    refine VE.seqN ?_
    refine VC.block ?_
    refine VC.loopK (α := Nat) 0 (fun gx => [(13, .int .i64 (gx : Nat))]) [(0,_), (1,_), (12,_)] (fun gx => []) (fun gx => gx ≤ la.length ∧ ∀ k, k < gx → la.getD k zS = lb.getD k zS) (fun gx => la.length - gx) 0 (by exact ⟨Nat.zero_le _, fun k hk => by omega⟩) (.cons rfl (.cons rfl (.cons rfl (.cons rfl .nil)))) (fun _ h => h) ?_
    rintro i ⟨hi, hz⟩
    refine VC.seq ?_
    refine VC.reg (VO.l (LO.lt (.r rfl) (.r rfl)) rfl<|VO.nil ?_)
    refine VE.seqN ?_
    refine VC.seq ?_
    refine VC.cond rfl (fun h14 => ?_) (fun h14 => ?_)
    ·
      refine VC.skip (VE.seqN ?_)
      refine VC.seq ?_
      refine VC.block ?_
      refine VC.seq ?_
      refine VC.reg (VO.l (LO.mv (.r rfl)) rfl<|VO.l (LO.as (.r rfl)) rfl<|VO.nil ?_)
      refine VE.seqN ?_
      refine VC.seq ?_
      refine VC.draw mixed (LL.l (LO.mv (.r rfl)) rfl<|LL.l (LO.mv (.r rfl)) rfl<|LL.l (LO.ixs S187 N25 ha.sm (.r rfl) (.r rfl) rfl (by omega)) rfl<|LL.l (LO.lda (vs := [_,_]) A25 (.r rfl) (fun w hw => cells_part (off := 0) ((ha.at zS (j := i) (by omega)) w hw) ⟨_, rfl⟩) rfl) rfl<|LL.l (LO.mv (.r rfl)) rfl<|LL.l (LO.mv (.r rfl)) rfl<|LL.l (LO.ixs S187 N25 hb.sm (.r rfl) (.r rfl) rfl (by omega)) rfl<|LL.l (LO.lda (vs := [_,_]) A25 (.r rfl) (fun w hw => cells_part (off := 0) ((hb.at zS (j := i) (by omega)) w hw) ⟨_, rfl⟩) rfl) rfl<|LL.l (LO.neA («as» := [_,_]) (bs := [_,_]) EA25 (.r rfl) (.r rfl) rfl rfl) rfl<|LL.nil) (by kernel_rfl) ?_
      refine VE.seqN ?_
      refine VC.cond rfl (fun h24 => ?_) (fun h24 => ?_)
      ·
        refine VC.seq ?_
        refine VC.reg (VO.l (LO.as (.r rfl)) rfl<|VO.nil ?_)
        refine VE.seqN ?_
        refine VC.ret (VE.inR (VE.thenR (VE.thenR (VE.inR (VE.thenR (VE.res (vs := [_]) rfl ⟨rfl, trivial⟩ (fun w hw => ?_)))))))
        first | (rw [decide_eq_false (fun q => h24 (by rw [q]))]; exact ⟨rfl, hw.nil⟩) | (rw [decide_eq_false (fun q => h10 (congrArg (fun l : List Span => (l.length : Int)) q))]; exact ⟨rfl, hw.nil⟩) | (rw [decide_eq_true (eq_of_at (by omega) (fun k hk => hz k (by omega)))]; exact ⟨rfl, hw.nil⟩)
      ·
        refine VC.skip (VE.inN (VE.seqN ?_))
        refine VC.reg (VO.l (LO.add (.r rfl) (.r rfl) (wi (by omega) (by omega))) rfl<|VO.l (LO.mv (.r rfl)) rfl<|VO.nil ?_)
        refine VE.thenN fun a w ha hw => ⟨i + 1, ⟨by omega, all_step2 (f := fun k => la.getD k zS = lb.getD k zS) hz (by first | exact span_ne h24 | exact span_ne (by simpa using h24))⟩, (by omega), ha.sub (.cons rfl (.cons rfl (.cons rfl (.cons rfl .nil)))), hw⟩
    ·
      refine VC.exit (VE.thenX (VE.thenX (VE.inX (VE.seqN ?_))))
      refine VC.seq ?_
      refine VC.reg (VO.l (LO.as (.r rfl)) rfl<|VO.nil ?_)
      refine VE.seqN ?_
      refine VC.ret (VE.res (vs := [_]) rfl ⟨rfl, trivial⟩ (fun w hw => ?_))
      first | (rw [decide_eq_false (fun q => h24 (by rw [q]))]; exact ⟨rfl, hw.nil⟩) | (rw [decide_eq_false (fun q => h10 (congrArg (fun l : List Span => (l.length : Int)) q))]; exact ⟨rfl, hw.nil⟩) | (rw [decide_eq_true (eq_of_at (by omega) (fun k hk => hz k (by omega)))]; exact ⟨rfl, hw.nil⟩)

end Go.Proofs.YtffbohecdocajaaGreat

namespace Go.SL
set_option linter.unusedVariables false
set_option linter.unusedSimpArgs false
open Go.RowKit Go.Sort
/-- The row of an owned slice of elements of some cells is turned in place; behind it new blocks may lie. -/
theorem own_putF {w w' : World} {E z cap b n : Nat} {L M : List (List Value)} {os : Array Obj} (h : (own E z (some ⟨b, 0, none⟩) cap L).inv w) (hb : b < w.heap.size) (hm : M.length = L.length) (hf : M.flatten.length = L.flatten.length) (hz : ∀ r ∈ M, r.length = z)
    (hw : w' = grow (putRow id (Sort.ahead w n) b 0 M.flatten.toArray) os) : St ⟨w, (own E z (some ⟨b, 0, none⟩) cap L).fp⟩ [own E z (some ⟨b, 0, none⟩) cap M] w' := by
  obtain ⟨h1, h2, h3, h4⟩ := h
  obtain ⟨g1, g2, C, spare, g3, g4, g5⟩ := h4 _ rfl
  have hsz : (putRow id (Sort.ahead w n) b 0 M.flatten.toArray).heap.size = w.heap.size := by rw [size_putRow]; rfl
  have hlen : L.flatten.length ≤ C.size := by
    have : C.toList.length = C.size := Array.length_toList
    rw [← this, g4]; simp
  have hnew : w'.heap[b]? = some (.cells (putCells id 0 M.flatten.toArray C) E (0,0)) := by
    rw [hw, heap_grow_old _ _ (by rw [hsz]; exact hb)]
    have : (Sort.ahead w n).heap = w.heap := rfl
    simp only [putRow, mapBlock, this, Array.getElem?_modify, g3, if_true, Option.map_some, onCells]
  have hC : (putCells id 0 M.flatten.toArray C).toList = M.flatten ++ spare := by
    refine List.ext_getElem? fun k => ?_
    have e1 : (putCells id 0 M.flatten.toArray C).toList[k]? = C.toList[k]?.map fun x => if k < M.flatten.length then (M.flatten.toArray[k]!) else x := by
      unfold putCells
      rw [Array.getElem?_toList, Array.getElem?_mapIdx, ← Array.getElem?_toList]
      simp
    rw [e1, g4]
    by_cases hk : k < M.flatten.length
    · rw [List.getElem?_append_left (by omega), List.getElem?_append_left hk, List.getElem?_eq_getElem hk, List.getElem?_eq_getElem (show k < L.flatten.length by omega)]
      simp only [Option.map_some, if_pos hk]
      rw [getElem!_pos _ _ (by simpa using hk)]
      simp
    · rw [List.getElem?_append_right (by omega), List.getElem?_append_right (by omega)]
      rw [hf] at hk ⊢
      cases spare[k - L.flatten.length]? with
      | none => rfl
      | some v => simp only [Option.map_some]; rw [if_neg hk]
  have hfr : ∀ k, k < w.heap.size → k ≠ b → w'.heap[k]? = w.heap[k]? := by
    intro k hk hne
    rw [hw, heap_grow_old _ _ (by rw [hsz]; exact hk)]
    have : (Sort.ahead w n).heap = w.heap := rfl
    simp only [putRow, mapBlock, this, Array.getElem?_modify]
    rw [if_neg (Ne.symm hne)]
  refine ⟨by rw [hw]; rfl, by rw [hw]; rfl, by rw [hw]; rfl, by rw [hw, size_grow, hsz]; exact Nat.le_add_right _ _, ?_, ?_, ?_, ?_⟩
  · intro k hk hO
    exact hfr k hk (fun e => hO ⟨by simp, e⟩)
  · intro i r hr
    cases i with
    | zero =>
      cases hr
      refine ⟨by rw [hm]; exact h1, hz, fun q => (by cases q), fun a q => ?_⟩
      cases q
      refine ⟨rfl, rfl,_, spare, hnew, hC, ?_⟩
      rw [← g5]; simp [putCells]
    | succ i => simp at hr
  · intro i r hr k hk
    cases i with
    | zero =>
      cases hr
      have e : k = b := hk.2
      subst e
      refine ⟨.inl ⟨by simp, rfl⟩, ?_⟩
      rw [hw, size_grow, hsz]; exact Nat.lt_of_lt_of_le hb (Nat.le_add_right _ _)
    | succ i => simp at hr
  · intro i j r s hij hr hs
    cases i with
    | zero => cases j with | zero => exact absurd rfl hij | succ j => simp at hs
    | succ i => simp at hr
theorem holds_ownF {w : World} {E z cap : Nat} {a : Addr} {L : List (List Value)} (h : (own E z (some a) cap L).inv w) : Holds id w a.block 0 L.flatten.toArray ∧ a = ⟨a.block, 0, none⟩ := by
  obtain ⟨h1, h2, h3, h4⟩ := h
  obtain ⟨g1, g2, C, spare, g3, g4, g5⟩ := h4 a rfl
  have ea : a = ⟨a.block, 0, none⟩ := by cases a; simp_all
  refine ⟨fun j hj => ?_, ea⟩
  rw [List.size_toArray] at hj
  refine ⟨?_, frozen_of_row w a.block _ C E g3⟩
  have : C.toList[0 + j]? = some L.flatten[j] := by
    rw [g4, Nat.zero_add, List.getElem?_append_left hj, List.getElem?_eq_getElem hj]
  simp only [World.cell?, g3, Option.isSome_none, Bool.false_eq_true, if_false]
  rw [← Array.getElem?_toList, this]
  congr 2
  rw [getElem!_pos _ _ (by simpa using hj)]
  simp
section
variable {α : Type} [Inhabited α]
theorem flatK_list (enc : α → List Value) (k : Nat) (hk : ∀ x, (enc x).length = k) (d : Array α) : flatK enc k d = (d.toList.map enc).flatten.toArray := by
  have key : ∀ (l : List α) (t : Nat), t < l.length * k → (l.map enc).flatten[t]? = ((l[t / k]?).bind fun x => (enc x)[t % k]?) := fun l => by
    induction l with
    | nil => intro t ht; simp at ht
    | cons x l ih =>
      intro t ht
      have k0 : 0 < k := by rcases Nat.eq_zero_or_pos k with h | h; · subst h; simp at ht
                            · exact h
      simp only [List.map_cons, List.flatten_cons]
      by_cases h : t < k
      · rw [List.getElem?_append_left (by rw [hk]; exact h), Nat.div_eq_of_lt h, Nat.mod_eq_of_lt h]; rfl
      · rw [List.getElem?_append_right (by rw [hk]; omega), hk, ih (t - k) (by simp [Nat.add_mul] at ht; omega)]
        obtain ⟨u, rfl⟩ : ∃ u, t = u + k := ⟨t - k, by omega⟩
        rw [Nat.add_sub_cancel, Nat.add_div_right _ k0, Nat.add_mod_right]; rfl
  have hl : ∀ l : List α, (l.map enc).flatten.length = l.length * k := fun l => by
    induction l with
    | nil => simp
    | cons x l ih => simp only [List.map_cons, List.flatten_cons, List.length_append, hk, ih, List.length_cons, Nat.add_mul, Nat.one_mul]; omega
  refine ext_get! (by rw [size_flatK]; exact (List.size_toArray.trans (by rw [hl, Array.length_toList])).symm) fun t ht => ?_
  rw [size_flatK] at ht
  rw [get_flatK _ _ _ _ ht]
  have k0 : 0 < k := by rcases Nat.eq_zero_or_pos k with h | h; · subst h; simp at ht
                        · exact h
  have hd : t / k < d.size := Nat.div_lt_of_lt_mul (by rw [Nat.mul_comm]; exact ht)
  have e := key d.toList t (by rw [Array.length_toList]; exact ht)
  rw [List.getElem?_eq_getElem (l := d.toList) (i := t / k) (by rw [Array.length_toList]; exact hd)] at e
  simp only [Option.bind_some, Array.getElem_toList] at e
  have ht2 : t < (d.toList.map enc).flatten.length := by rw [hl, Array.length_toList]; exact ht
  have a1 : (d.toList.map enc).flatten.toArray[t]! = (d.toList.map enc).flatten[t] := by
    generalize (d.toList.map enc).flatten = X at ht2
    rw [getElem!_pos X.toArray t (by simpa using ht2)]; simp
  have a2 : d[t / k]! = d[t / k] := getElem!_pos d (t / k) hd
  have a3 : (enc d[t / k])[t % k]! = (enc d[t / k])[t % k]'(by rw [hk]; exact Nat.mod_lt _ k0) := getElem!_pos _ _ _
  rw [a1, a2, a3]
  rw [List.getElem?_eq_getElem ht2, List.getElem?_eq_getElem (by rw [hk]; exact Nat.mod_lt _ k0)] at e
  exact (Option.some.inj e).symm
end
end Go.SL
namespace Go.Proofs.YtffbohecdocajaaGreat
open Go.SL Go.Proofs Go.Pulse Go.Sort
set_option linter.unusedVariables false
/-- A span that begins at a small number. -/
abbrev SpB : Type := { s : Span // -1000000000 ≤ s.lo ∧ s.lo ≤ 1000000000 }
instance : Inhabited SpB := ⟨⟨zS, by decide⟩⟩
def encB (s : SpB) : List Value := [.int .i64 s.1.lo, .int .i64 s.1.hi]
def cfB (x y : SpB) : Int := x.1.lo - y.1.lo
set_option maxHeartbeats 1000000 in
/-- The closure that compares: two blocks are laid. -/
theorem cmp125 (x y : SpB) (W : World) : Calls Tryz.prog 125 #[.agg (encB x).toArray, .agg (encB y).toArray] W fun e w' => e = .returned (.int .i64 (cfB x y)) ∧ ∃ q os', w' = grow (W.drewN q) os' := by
  obtain ⟨⟨x1, x2⟩, hx⟩ := x
  obtain ⟨⟨y1, y2⟩, hy⟩ := y
  show Calls Tryz.prog 125 #[.agg #[.int .i64 x1, .int .i64 x2], .agg #[.int .i64 y1, .int .i64 y2]] W fun e w' => e = .returned (.int .i64 (x1 - y1)) ∧ _
  replace hx : -1000000000 ≤ x1 ∧ x1 ≤ 1000000000 := hx
  replace hy : -1000000000 ≤ y1 ∧ y1 ≤ 1000000000 := hy
  have e1 : IntKind.i64.wrap (x1 - y1) = x1 - y1 := by simp [IntKind.wrap, IntKind.bits, IntKind.signed]; omega
  generalize hd : x1 - y1 = d at *
  go_enter Tryz.func125, Tryz.ntmps125
  go_wp2
  go_ret
  exact ⟨rfl, 0,_, by rw [alloc_eq_grow, alloc_eq_grow, grow_grow]; rfl⟩
end Go.Proofs.YtffbohecdocajaaGreat

namespace Go.Proofs
open Go.Shelf
def Tryz.pdqCmpA_ren : Go.Shelf.Ren := ⟨fun | 14 => 195 | 20 => 242 | 21 => 243 | 22 => 244 | 23 => 245 | 24 => 246 | 25 => 247 | 26 => 248 | 27 => 249 | 46 => 278 | 47 => 279 | 48 => 280 | 49 => 281 | 50 => 282 | 15 => 196 | 57 => 300 | 28 => 250 | 29 => 251 | n => n, fun | 24 => 25 | 22 => 45 | 3 => 3 | 25 => 324 | 4 => 4 | 0 => 0 | 46 => 496 | 45 => 495 | 50 => 279 | 66 => 526 | 39 => 396 | 55 => 503 | 70 => 530 | 76 => 548 | 77 => 457 | 53 => 32 | 5 => 5 | 9 => 9 | n => n, fun | n => n⟩
theorem Tryz.pdqCmpA : Go.Proofs.SlLaysF0.n14 Tryz.prog Tryz.pdqCmpA_ren := {
  mixed := by kernel_rfl
  f14 := ⟨Tryz.f195.name, by decide, Tryz.func195.trans (congrArg some (by kernel_rfl))⟩
  f15 := Tryz.func196.trans (congrArg some (by kernel_rfl))
  f20 := ⟨Tryz.f242.name, by decide, Tryz.func242.trans (congrArg some (by kernel_rfl))⟩
  f21 := ⟨Tryz.f243.name, by decide, Tryz.func243.trans (congrArg some (by kernel_rfl))⟩
  f22 := ⟨Tryz.f244.name, by decide, Tryz.func244.trans (congrArg some (by kernel_rfl))⟩
  f23 := ⟨Tryz.f245.name, by decide, Tryz.func245.trans (congrArg some (by kernel_rfl))⟩
  f24 := ⟨Tryz.f246.name, by decide, Tryz.func246.trans (congrArg some (by kernel_rfl))⟩
  f25 := ⟨Tryz.f247.name, by decide, Tryz.func247.trans (congrArg some (by kernel_rfl))⟩
  f26 := ⟨Tryz.f248.name, by decide, Tryz.func248.trans (congrArg some (by kernel_rfl))⟩
  f27 := ⟨Tryz.f249.name, by decide, Tryz.func249.trans (congrArg some (by kernel_rfl))⟩
  f28 := Tryz.func250.trans (congrArg some (by kernel_rfl))
  f29 := Tryz.func251.trans (congrArg some (by kernel_rfl))
  f46 := ⟨Tryz.f278.name, by decide, Tryz.func278.trans (congrArg some (by kernel_rfl))⟩
  f47 := Tryz.func279.trans (congrArg some (by kernel_rfl))
  f48 := Tryz.func280.trans (congrArg some (by kernel_rfl))
  f49 := ⟨Tryz.f281.name, by decide, Tryz.func281.trans (congrArg some (by kernel_rfl))⟩
  f50 := ⟨Tryz.f282.name, by decide, Tryz.func282.trans (congrArg some (by kernel_rfl))⟩
  f57 := ⟨Tryz.f300.name, by decide, Tryz.func300.trans (congrArg some (by kernel_rfl))⟩
  t0 := Tryz.underlying0
  a0 := Tryz.isAgg0
  z0 := Tryz.sizeOf0
  v0 := Tryz.zeroValue0
  t3 := Tryz.underlying3
  a3 := Tryz.isAgg3
  z3 := Tryz.sizeOf3
  v3 := Tryz.zeroValue3
  t4 := Tryz.underlying4
  a4 := Tryz.isAgg4
  z4 := Tryz.sizeOf4
  v4 := Tryz.zeroValue4
  t5 := Tryz.underlying5
  a5 := Tryz.isAgg5
  z5 := Tryz.sizeOf5
  v5 := Tryz.zeroValue5
  t9 := Tryz.underlying9
  a9 := Tryz.isAgg9
  z9 := Tryz.sizeOf9
  v9 := Tryz.zeroValue9
  t22 := Tryz.underlying45
  a22 := Tryz.isAgg45
  z22 := Tryz.sizeOf45
  v22 := Tryz.zeroValue45
  t25 := Tryz.underlying324
  a25 := Tryz.isAgg324
  z25 := Tryz.sizeOf324
  v25 := Tryz.zeroValue324
  t39 := Tryz.underlying396
  a39 := Tryz.isAgg396
  z39 := Tryz.sizeOf396
  v39 := Tryz.zeroValue396
  t45 := Tryz.underlying495
  a45 := Tryz.isAgg495
  z45 := Tryz.sizeOf495
  v45 := Tryz.zeroValue495
  t46 := Tryz.underlying496
  a46 := Tryz.isAgg496
  z46 := Tryz.sizeOf496
  v46 := Tryz.zeroValue496
  t50 := Tryz.underlying279
  a50 := Tryz.isAgg279
  z50 := Tryz.sizeOf279
  v50 := Tryz.zeroValue279
  t53 := Tryz.underlying32
  a53 := Tryz.isAgg32
  z53 := Tryz.sizeOf32
  v53 := Tryz.zeroValue32
  t55 := Tryz.underlying503
  a55 := Tryz.isAgg503
  z55 := Tryz.sizeOf503
  v55 := Tryz.zeroValue503
  t66 := Tryz.underlying526
  a66 := Tryz.isAgg526
  z66 := Tryz.sizeOf526
  v66 := Tryz.zeroValue526
  t70 := Tryz.underlying530
  a70 := Tryz.isAgg530
  z70 := Tryz.sizeOf530
  v70 := Tryz.zeroValue530
  t76 := Tryz.underlying548
  a76 := Tryz.isAgg548
  z76 := Tryz.sizeOf548
  v76 := Tryz.zeroValue548
  t77 := Tryz.underlying457
  a77 := Tryz.isAgg457
  z77 := Tryz.sizeOf457
  v77 := Tryz.zeroValue457 }
end Go.Proofs

namespace Go.Proofs.YtffbohecdocajaaGreat
open Go.SL Go.Proofs Go.Pulse Go.Sort Go.Lib
set_option linter.unusedVariables false
theorem ltB (x y : SpB) : ltOf cfB x y = decide (x.1.lo < y.1.lo) := by
  unfold ltOf cfB
  exact decide_eq_decide.2 (by omega)
theorem swoB : SWO (ltOf cfB) := ⟨fun x => by rw [ltB]; simp, fun x y z h k => by rw [ltB] at *; simp at *; omega, fun x y z h k => by rw [ltB] at *; simp at *; omega⟩
theorem encB_len (x : SpB) : (encB x).length = 2 := rfl
theorem encB_one (x : SpB) : ∀ v ∈ encB x, v.oneCell' = true := fun v hv => by
  simp [encB] at hv
  rcases hv with rfl | rfl <;> rfl
set_option maxHeartbeats 2000000 in
set_option maxRecDepth 100000 in
theorem SortF_some (blk cap : Nat) (d : Array SpB) (w : World) (hH : HoldsK encB 2 w blk 0 d) (hblk : blk < w.heap.size) (hsz : d.size < 4611686018427387904) :
    Calls Tryz.prog 124 #[.slice (some ⟨blk, 0, none⟩) d.size cap, .func (.func 125) #[] #[]] w fun e w' => e = .returned (.tuple #[]) ∧ ∃ n os, w' = sortWorldK encB 2 w blk 0 n (pdq (ltOf cfB) d 0 d.size (Lib.bitLen d.size) true true) os := by
  have eg : ∀ args w, (callFunc 125 args).run Tryz.prog w = .ok (.enter 125 args) w := enters_of Tryz.func125 (by kernel_rfl) rfl
  have hcmp : CmpLays Tryz.prog 125 #[] encB 2 cfB blk 0 d.size w := fun _ _ _ _ x y => cmp125 x y _
  have hlim : Lib.bitLen d.size < 4611686018427387904 := Nat.lt_of_le_of_lt (Lib.bitLen_le d.size 62 (by omega) (by omega)) (by omega)
  have hp := AnyQ.pdqsortCmpFunc_all Tryz.pdqCmpA 2 Tryz.isAgg25 Tryz.sizeOf25 encB cfB 125 #[] swoB blk 0 cap d w eg hcmp ⟨encB_len, encB_one, hH, hblk⟩ (d.size + 1) 0 d.size (Lib.bitLen d.size) d w (by omega) rfl (SWK.start hH) (Nat.zero_le _) (Nat.le_refl _) hsz hlim (Or.inl rfl)
  change Calls Tryz.prog 195 _ _ _ at hp
  have hl : Calls Tryz.prog 196 #[.int .u64 (d.size : Int)] w fun e w' => e = .returned (.int .i64 (Lib.bitLen d.size : Nat)) ∧ w' = w := by
    have h := Tryz.bits_Len (d.size : Int) w (by omega) (by omega)
    rwa [Int.toNat_natCast] at h
  have wr : IntKind.u64.wrap (d.size : Int) = d.size := by simp [IntKind.wrap, IntKind.bits, IntKind.signed]; omega
  clear hH hcmp
  go_enter Tryz.func124, Tryz.ntmps124
  go_wp2_with (first | (go_at_call 196; refine hl.mono ?_; rintro e w' ⟨rfl, rfl⟩) | (go_at_call 195; refine hp.mono ?_; rintro e w' ⟨rfl, n, os, rfl⟩))
  go_end0
  exact ⟨rfl, n, os, rfl⟩
set_option maxHeartbeats 2000000 in
theorem SortF_none (cap : Nat) (w : World) : Calls Tryz.prog 124 #[.slice none 0 cap, .func (.func 125) #[] #[]] w fun e w' => e = .returned (.tuple #[]) ∧ w' = w := by
  have hp := fun lim => AnyF.pdqsortCmpFunc_none Tryz.pdqCmpA none cap lim (.func (.func 125) #[] #[]) w
  change ∀ lim, Calls Tryz.prog 195 _ _ _ at hp
  have hl : Calls Tryz.prog 196 #[.int .u64 0] w fun e w' => e = .returned (.int .i64 (Lib.bitLen 0 : Nat)) ∧ w' = w := by
    have h := Tryz.bits_Len 0 w (by omega) (by omega)
    exact h
  go_enter Tryz.func124, Tryz.ntmps124
  go_wp2_with (first | (go_at_call 196; refine hl.mono ?_; rintro e w' ⟨rfl, rfl⟩) | (go_at_call 195; refine (hp _).mono ?_; rintro e w' ⟨rfl, rfl⟩))
  go_end0
  exact ⟨rfl, rfl⟩
theorem subB : ∀ {l : List Span} (h : smS l), ∃ d : List SpB, d.map (·.1) = l
  | [],_ => ⟨[], rfl⟩
  | x :: l, h => by
    obtain ⟨d, hd⟩ := subB (l := l) fun s hs => h s (List.mem_cons_of_mem _ hs)
    exact ⟨⟨x, (h x (List.mem_cons_self ..)).1⟩ :: d, by rw [List.map_cons, hd]⟩
theorem encB_map (d : List SpB) : d.map encB = (d.map (·.1)).map spanC := by rw [List.map_map]; rfl
/-- slices.SortFunc on a slice of spans that is owned. -/
theorem SortF_h {β : Bs} {L : List Res} {w : World} {p : Option Addr} {cap : Nat} {l : List Span} (i : Nat) (hw : St β L w) (hi : L[i]? = some (own 25 2 p cap (l.map spanC))) (hs : smS l) (hl : l.length < 4611686018427387904) :
    Calls Tryz.prog 124 #[.slice p l.length cap, .func (.func 125) #[] #[]] w fun e w' => ∃ x : List Span, (x.Perm l ∧ x.Pairwise fun a b => a.lo ≤ b.lo) ∧ e = .returned (.tuple #[]) ∧ St ⟨w, (own 25 2 p cap (l.map spanC)).fp⟩ [own 25 2 p cap (x.map spanC)] w' := by
  have hinv := hw.inv i _ hi
  have hrng := hw.rng i _ hi
  cases p with
  | none =>
    have h0 : l = [] := by simpa using (hinv.2.2.1 rfl).1
    subst h0
    refine (SortF_none cap w).mono fun e w' ⟨h1, h2⟩ => ⟨[], ⟨List.Perm.refl _, List.Pairwise.nil⟩, h1, ?_⟩
    subst h2
    exact St.one hinv (fun k hk => (hrng k hk).2)
  | some a =>
    obtain ⟨hH, ea⟩ := holds_ownF hinv
    have hb : a.block < w.heap.size := (hrng a.block ⟨by simp, rfl⟩).2
    obtain ⟨d, rfl⟩ := subB hs
    rw [← encB_map] at hH
    rw [ea] at hinv ⊢
    have hH2 : HoldsK encB 2 w a.block 0 d.toArray := by
      unfold HoldsK
      rw [flatK_list encB 2 encB_len]
      exact hH
    rw [List.length_map]
    refine (SortF_some a.block cap d.toArray w hH2 hb (by simpa using hl)).mono fun e w' ⟨h1, n, os, h2⟩ => ?_
    have hq := pdq_sorts (ltOf cfB) swoB d.toArray 0 d.toArray.size (Lib.bitLen d.toArray.size) true true (Nat.zero_le _) (Nat.le_refl _) (Or.inl rfl)
    generalize hm : pdq (ltOf cfB) d.toArray 0 d.toArray.size (Lib.bitLen d.toArray.size) true true = m at h2 hq
    obtain ⟨⟨q1, q2, q3⟩, q4⟩ := hq
    have hperm : m.toList.Perm d := by
      have e1 : m.extract 0 d.toArray.size = m := by rw [← q1]; simp
      have e2 : d.toArray.extract 0 d.toArray.size = d.toArray := by simp
      rw [e1, e2] at q3
      simpa using q3
    refine ⟨m.toList.map (·.1), ⟨hperm.map _, ?_⟩, h1, ?_⟩
    · refine List.pairwise_map.2 (List.pairwise_iff_getElem.2 fun i j hi hj hij => ?_)
      have := q4 i j (Nat.zero_le _) hij (by rw [← q1]; simpa using hj)
      rw [ltB, getElem!_pos m j (by simpa using hj), getElem!_pos m i (by simpa using hi)] at this
      have := of_decide_eq_false this
      simp only [Array.getElem_toList]
      omega
    · refine own_putF (os := os) (n := n) hinv hb (by simp [hperm.length_eq]) ?_ ?_ ?_
      · rw [List.map_map, List.map_map]
        have key : ∀ q : List SpB, (q.map (spanC ∘ fun x => x.1)).flatten.length = q.length * 2 := fun q => by
          induction q with
          | nil => rfl
          | cons x q ih => simp only [List.map_cons, List.flatten_cons, List.length_append, ih, List.length_cons]; show 2 + _ = _; omega
        rw [key, key, hperm.length_eq]
      · intro r hr
        obtain ⟨x,_, rfl⟩ := List.mem_map.1 hr
        rfl
      · rw [h2]
        unfold sortWorldK putRowK
        rw [flatK_list encB 2 encB_len, encB_map]
end Go.Proofs.YtffbohecdocajaaGreat

namespace Go.Proofs.YtffbohecdocajaaGreat
open Go.SL Go.Proofs Go.Pulse
set_option linter.unusedVariables false

theorem C123 : IsFn Tryz.prog 123 := ⟨_, Tryz.func123, by decide, rfl⟩
theorem C124 : IsFn Tryz.prog 124 := ⟨_, Tryz.func124, by decide, rfl⟩
theorem C59 : IsFn Tryz.prog 59 := ⟨_, Tryz.func59, by decide, rfl⟩
theorem C122 : IsFn Tryz.prog 122 := ⟨_, Tryz.func122, by decide, rfl⟩
theorem C199 : IsFn Tryz.prog 199 := ⟨_, Tryz.func199, by decide, rfl⟩
theorem C131 : IsFn Tryz.prog 131 := ⟨_, Tryz.func131, by decide, rfl⟩
theorem S183 : IsSlice Tryz.prog 183 187 := Tryz.underlying183
theorem N187 : (Tryz.prog.info? 187).map (·.size) = some 1 := by kernel_rfl
theorem O187 : IsOne Tryz.prog 187 := ⟨⟨_, Tryz.underlying187, rfl⟩, by kernel_rfl⟩


def bdS (B : Int) (l : List Span) : Prop := ∀ s, s ∈ l → (-B ≤ s.lo ∧ s.lo ≤ B) ∧ -B ≤ s.hi ∧ s.hi ≤ B
theorem bdS_at {B : Int} {l : List Span} (h : bdS B l) {i : Nat} (hi : i < l.length) : (-B ≤ (l.getD i zS).lo ∧ (l.getD i zS).lo ≤ B) ∧ -B ≤ (l.getD i zS).hi ∧ (l.getD i zS).hi ≤ B := h _ (getD_mem hi)
theorem bdS_mono {B C : Int} {l : List Span} (h : bdS B l) (hB : B ≤ C) : bdS C l := fun s hs => by have := h s hs; omega
theorem bdS_sub {B : Int} {l u : List Span} (h : bdS B l) (hu : CanS u) (hm : ∀ z, memH u z → memH l z) : bdS B u := fun s hs => by
  have hv := hu.v s hs
  obtain ⟨a, ha, a1, a2⟩ := hm (2 * s.lo) ⟨s, hs, by omega, by omega⟩
  obtain ⟨b, hb, b1, b2⟩ := hm (2 * s.hi) ⟨s, hs, by omega, by omega⟩
  have := h a ha
  have := h b hb
  omega
theorem bdS_smS {l : List Span} (h : bdS 1000000000 l) : smS l := h
theorem un_set {o : List Span} {j : Nat} {v : Int} : (o.map spanC).set j ((spanC (o.getD j zS)).take 1 ++ [Value.int .i64 v] ++ (spanC (o.getD j zS)).drop (1 + [Value.int .i64 v].length)) = (o.set j ⟨(o.getD j zS).lo, v⟩).map spanC := by
  rw [List.map_set]; rfl
theorem un_end {l m o : List Span} {n : Nat} (hp : m.Perm l) (h : UnI m o n) (hn : m.length ≤ n) (hn2 : n ≤ l.length) : UnP l o := ⟨h.c, fun z => by rw [h.me, List.take_of_length_le hn, memH_perm hp], by have := h.nn; omega⟩
theorem map_getS {α β : Type} {f : α → β} {l : List α} {j : Nat} {x : α} (h : l[j]? = some x) : (l.map f)[j]? = some (f x) := by rw [List.getElem?_map, h]; rfl
def setC (s : SpY) : List Value := [.slice s.p s.l.length s.c]
def knw (l : List SpY) (n : Nat) : List Nat := (List.range n).filter fun i => decide (0 < (l.getD i zSY).l.length)
theorem knw_1 {l : List SpY} {n : Nat} : knw l (n + 1) = if 0 < (l.getD n zSY).l.length then knw l n ++ [n] else knw l n := by
  unfold knw
  rw [List.range_succ, List.filter_append]
  by_cases h : 0 < (l.getD n zSY).l.length
  · rw [if_pos h, List.filter_cons_of_pos (by exact decide_eq_true h)]; rfl
  · rw [if_neg h, List.filter_cons_of_neg (by rw [decide_eq_false h]; decide)]; simp
def natC (n : Nat) : List Value := [.int .i64 (n : Nat)]
theorem knw_len {l : List SpY} {n : Nat} : (knw l n).length ≤ n := by
  have := List.length_filter_le (fun i => decide (0 < (l.getD i zSY).l.length)) (List.range n)
  simpa [knw] using this

theorem bdS_subv {B : Int} {l u : List Span} (h : bdS B l) (hu : valS u) (hm : ∀ z, memH u z → memH l z) : bdS B u := fun s hs => by
  have hv := hu s hs
  obtain ⟨a, ha, a1, a2⟩ := hm (2 * s.lo) ⟨s, hs, by omega, by omega⟩
  obtain ⟨b, hb, b1, b2⟩ := hm (2 * s.hi) ⟨s, hs, by omega, by omega⟩
  have := h a ha
  have := h b hb
  omega
theorem mapTake_1 {f : Span → Span} {l : List Span} {i : Nat} (hi : i < l.length) : (l.take i).map f ++ [f (l.getD i zS)] = (l.take (i + 1)).map f := by
  rw [List.take_succ_eq_append_getElem hi, List.map_append, List.getD_eq_getElem?_getD, List.getElem?_eq_getElem hi]; rfl
theorem widB {d : Int} {l : List Span} (hd : 0 ≤ d ∧ d ≤ 100000000) (h : bdS 100000000 l) : smS (l.map (widS d)) := fun s hs => by
  obtain ⟨q, hq, rfl⟩ := List.mem_map.1 hs
  have := h q hq
  show (_ ≤ q.lo - d ∧ q.lo - d ≤ _) ∧ _ ≤ q.hi + d ∧ q.hi + d ≤ _
  omega
theorem me_end {s t o u : List Span} {i k : Nat} (hI : MeI s t o i k) (hd : s.length ≤ i ∨ t.length ≤ k) (hU : UnP o u) : MeP s t u :=
  ⟨hU.c, fun z => by rw [hU.m, hI.done hd]⟩
/-- What is left of a set beside another one. -/
structure NeP (s t u : List Span) (d : Int) : Prop where
  c : CanS u
  sub : ∀ z, memH u z → memH s z
  sup : ∀ a b, memH s (2 * a) → memH t (2 * b) → -d ≤ a - b → a - b ≤ d → memH u (2 * a)
theorem ne_of {s t u y : List Span} {d : Int} (h1 : UnP (t.map (widS d)) y) (h2 : MeP s y u) : NeP s t u d :=
  ⟨h2.c, fun z h => ((h2.m z).1 h).1, fun a b ha hb k1 k2 => (h2.m _).2 ⟨ha, (h1.m _).2 (wid_mem hb k1 k2)⟩⟩

set_option maxRecDepth 20000 in
theorem united_c (l : List Span) (p : Option Addr) (c : Nat) (w : World) (hn : l.length < 1000000000000) (hs : smS l) (hv : valS l) (hl : Spans w p l) :
  Calls Tryz.prog 59 #[.slice p l.length c] w fun e w' => ∃ x : List Span × Option Addr × Nat, UnP l x.1 ∧ e = .returned (.slice x.2.1 x.1.length x.2.2) ∧ St (bs w) [own 25 2 x.2.1 x.2.2 (x.1.map spanC)] w' := by
  refine enter (vs := [_]) (env := [(0,_)]) Tryz.func59 rfl rfl rfl rfl ?_
  refine VC.seq ?_
  refine VC.reg (VO.l (LO.as (.r rfl)) rfl<|VO.nil ?_)
  refine VE.seqN ?_
  refine VC.seq ?_
  refine VC.reg (VO.l (LO.mv (.r rfl)) rfl<|VO.h rfl<|HO.callx (xs := [_]) (vs := [_]) C123 ⟨(.r rfl), trivial⟩ (fun w hw => Clone_s l p c w hn (hl.keep w hw)) fun x1 _ => VO.h rfl<|HO.lo (LO.as (.r rfl))<|VO.nil ?_)
  refine VE.seqN ?_
  refine VC.seq ?_
  refine VC.reg (VO.l (LO.mv (.r rfl)) rfl<|VO.h rfl<|HO.callh (first := []) (cap := []) (xs := [_,_]) (vs := [_,_]) 0 (fun R => [R]) rfl (.r rfl) C124 ⟨(.r rfl), (.r rfl), trivial⟩ (fun _ => rfl) (fun w hw => SortF_h 0 hw rfl hs (by omega)) fun m ⟨hperm, hpair⟩ => VO.nil ?_)
  refine VE.seqN ?_
  refine VC.seq ?_
  have hml := hperm.length_eq
  refine VC.reg (VO.l (LO.as (.r rfl)) rfl<|VO.nil ?_)
  refine VE.seqN ?_
  refine VC.seq ?_
  refine VC.seq ?_
  refine VC.reg (VO.l (LO.mv (.r rfl)) rfl<|VO.l (LO.len S187 (.r rfl) rfl) rfl<|VO.l (LO.mv (.r rfl)) rfl<|VO.nil ?_)
  refine VE.seqN ?_
  refine VC.block ?_
  refine VC.loopK (α := Nat × (List Span) × Nat × (Option Addr) × Nat) 1 (fun gx => [(4, .slice gx.2.2.2.1 gx.2.2.1 gx.2.2.2.2), (14, .int .i64 (gx.1 : Nat))]) [(12,_), (13,_)] (fun gx => [own 25 2 x1.1 x1.2 (m.map spanC), own 25 2 gx.2.2.2.1 gx.2.2.2.2 (gx.2.1.map spanC)]) (fun gx => gx.1 ≤ l.length ∧ gx.2.2.1 = gx.2.1.length ∧ UnI m gx.2.1 gx.1) (fun gx => l.length - gx.1) (0, [], 0, none, 0) (by exact ⟨Nat.zero_le _, rfl, UnI.zero m⟩) (.cons rfl (.cons rfl (.cons rfl (.cons rfl .nil)))) (fun _ h => ((h.ownNil 25 2)).sel [1,0] rfl) ?_
  rintro ⟨i, o, n, po, co⟩ ⟨hi, hno, hU⟩
  show VC _ _ _ _ _ ([(4, .slice po n co), (14, .int .i64 (i : Nat))] ++ _) ([own 25 2 x1.1 x1.2 (m.map spanC), own 25 2 po co (o.map spanC)] ++ _) _ _
  dsimp only at hi hno hU
  have hol := hU.nn
  refine VC.seq ?_
  refine VC.reg (VO.l (LO.lt (.r rfl) (.r rfl)) rfl<|VO.nil ?_)
  refine VE.seqN ?_
  refine VC.seq ?_
  refine VC.cond rfl (fun h1 => ?_) (fun h1 => ?_)
  ·
    refine VC.skip (VE.seqN ?_)
    refine VC.seq ?_
    refine VC.block ?_
    refine VC.seq ?_
    refine VC.reg (VO.l (LO.ixo S187 N25 (fun _ hw => (own_rows hw 0 rfl).some (by rw [List.length_map]; omega)) (.r rfl) (.r rfl) rfl (by omega)) rfl<|VO.l (LO.lda (vs := [_,_]) A25 (.r rfl) (fun w hw => cells_part (off := 0) (own_cell hw 0 rfl (getD_some (d := zS) (by omega))) ⟨_, rfl⟩) rfl) rfl<|VO.h rfl<|HO.alloc (C := #[_,_]) Z25 rfl fun b4 => VO.h0<|HO.st 0 (vs := [_,_]) (C' := [_,_]) (L' := [_,_,_]) N25 rfl rfl rfl rfl rfl rfl rfl rfl<|VO.nil ?_)
    refine VE.seqN ?_
    refine VC.seq ?_
    refine VC.reg (VO.l (LO.mv (.r rfl)) rfl<|VO.l (LO.len S187 (.r rfl) rfl) rfl<|VO.l (LO.as (.r rfl)) rfl<|VO.nil ?_)
    refine VE.seqN ?_
    refine VC.seq ?_
    refine VC.draw mixed (LL.l (LO.mv (.r rfl)) rfl<|LL.l (LO.gt (.r rfl) (.r rfl)) rfl<|LL.l (LO.mv (.r rfl)) rfl<|LL.lg rfl rfl (GD.t _) (fun hg => LO.fa (r := 0) F25_0 (.r rfl) rfl) rfl<|LL.lg rfl rfl (GD.t _) (fun hg => LO.ld O3 (.g hg rfl) (fun _ hw => cells_at hw 0 rfl ⟨_, rfl⟩)) rfl<|LL.lg rfl rfl (GD.t _) (fun hg => LO.mv (.r rfl)) rfl<|LL.lg rfl rfl (GD.t _) (fun hg => LO.mv (.r rfl)) rfl<|LL.lg rfl rfl (GD.t _) (fun hg => LO.sub (.g hg rfl) (.r rfl) (wi (by omega) (by omega))) rfl<|LL.lg rfl rfl (GD.t _) (fun hg => LO.ixo S187 N25 (fun _ hw => (own_rows hw 2 rfl).some (by rw [List.length_map]; first | omega | (have := of_decide_eq_true hg; omega))) (.g hg rfl) (.g hg rfl) (j := o.length - 1) (by have := of_decide_eq_true hg; omega) (by have := of_decide_eq_true hg; omega)) rfl<|LL.lg rfl rfl (GD.t _) (fun hg => LO.fa F25_1 (.g hg rfl) rfl) rfl<|LL.lg rfl rfl (GD.t _) (fun hg => LO.ld O3 (.g hg rfl) (fun w hw => cells_part (off := 1) (own_cell hw 2 rfl (getD_some (d := zS) (by first | omega | (have := of_decide_eq_true hg; omega)))) ⟨_, rfl⟩)) rfl<|LL.lg rfl rfl (GD.t _) (fun hg => LO.le (.g hg rfl) (.g hg rfl)) rfl<|LL.l (LO.pkA (.r rfl) rfl rfl (.r rfl)) rfl<|LL.nil) (by kernel_rfl) ?_
    refine VE.seqN ?_
    refine VC.cond rfl (fun h32 => ?_) (fun h32 => ?_)
    ·
      refine VC.drawH [[0,1,2], [0,1]] [some 0, some 0, some 0, some 0, some 0, some 0, some 0, some 0, some 0, some 0, some 0, some 0, some 0, some 0, none] mixed (by kernel_rfl) rfl (LX.l (fun _ hJ => LO.mv (.r rfl)) rfl<|LX.l (fun _ hJ => LO.mv (.r rfl)) rfl<|LX.l (fun _ hJ => LO.sub (.r rfl) (.r rfl) (wi (by omega) (by omega))) rfl<|LX.l (fun _ hJ => LO.mv (.r rfl)) rfl<|LX.l (fun _ hJ => LO.mv (.r rfl)) rfl<|LX.l (fun _ hJ => LO.sub (.r rfl) (.r rfl) (wi (by omega) (by omega))) rfl<|LX.l (fun _ hJ => LO.ixo S187 N25 (fun _ hw => (own_rows (hJ _ hw) 2 rfl).some (by rw [List.length_map]; first | omega | (have := of_decide_eq_true hg; omega))) (.r rfl) (.r rfl) (j := o.length - 1) (by omega) (by omega)) rfl<|LX.l (fun _ hJ => LO.fa F25_1 (.r rfl) rfl) rfl<|LX.l (fun _ hJ => LO.ld O3 (.r rfl) (fun w hw => cells_part (off := 1) (own_cell (hJ _ hw) 2 rfl (getD_some (d := zS) (by first | omega | (have := of_decide_eq_true hg; omega)))) ⟨_, rfl⟩)) rfl<|LX.l (fun _ hJ => LO.fa (r := 1) F25_1 (.r rfl) rfl) rfl<|LX.l (fun _ hJ => LO.ld O3 (.r rfl) (fun _ hw => cells_at (hJ _ hw) 0 rfl ⟨_, rfl⟩)) rfl<|LX.l (fun _ hJ => LO.max (.r rfl) (.r rfl)) rfl<|LX.l (fun _ hJ => LO.ixo S187 N25 (fun _ hw => (own_rows (hJ _ hw) 2 rfl).some (by rw [List.length_map]; first | omega | (have := of_decide_eq_true hg; omega))) (.r rfl) (.r rfl) (j := o.length - 1) (by omega) (by omega)) rfl<|LX.l (fun _ hJ => LO.fa F25_1 (.r rfl) rfl) rfl<|LX.s<|LX.nil) (HX.s<|HX.s<|HX.s<|HX.s<|HX.s<|HX.s<|HX.s<|HX.s<|HX.s<|HX.s<|HX.s<|HX.s<|HX.s<|HX.s<|HX.h0<|HO.sto 2 (fun R => [_,_, R]) (o := 1) (vs := [_]) N3 (.r rfl) (.r rfl) rfl (map_getS (getD_some (d := zS) (by omega))) rfl rfl (Nat.le_of_ble_eq_true rfl) rfl (fun _ => rfl)<|⟨fun _ hw => hw.sel [0,1] rfl, HX.nil ?_⟩)
      rw [un_set]
      refine VE.inN (VE.seqN ?_)
      refine VC.reg (VO.l (LO.add (.r rfl) (.r rfl) (wi (by omega) (by omega))) rfl<|VO.l (LO.mv (.r rfl)) rfl<|VO.nil ?_)
      refine VE.thenN fun a w ha hw => ⟨(i + 1, (o.set (o.length - 1) ⟨(o.getD (o.length - 1) zS).lo, max (o.getD (o.length - 1) zS).hi (m.getD i zS).hi⟩), n, po, co), ⟨by dsimp only; omega, by first | rfl | (dsimp only; rw [List.length_set]; exact hno), by have := hU.step (fun s hs => hv s (hperm.mem_iff.1 hs)) hpair (by omega); unfold unStep at this; first | (rw [if_pos ⟨by omega, h32.2⟩] at this; exact this) | (rw [if_neg (fun q => h32 ⟨by omega, q.2⟩)] at this; exact this)⟩, (by dsimp only; omega), ha.sub (.cons rfl (.cons rfl (.cons rfl (.cons rfl .nil)))), hw.sel [1,2] rfl⟩
    ·
      refine VC.reg (VO.l (LO.mv (.r rfl)) rfl<|VO.l (LO.lda (vs := [_,_]) A25 (.r rfl) (fun _ hw => cells_at hw 0 rfl ⟨_, rfl⟩) rfl) rfl<|VO.h rfl<|HO.bs (ps := [(_,_)]) (vs := [(_,_)]) (Z := [_,_]) (C := [_,_]) S187 Z25 N25 ⟨(.r rfl), trivial⟩ rfl rfl rfl rfl ⟨_, [_,_], [_,_], rfl, rfl, rfl, rfl, rfl⟩ fun b6 => VO.h rfl<|HO.appT ((m.getD i zS)) 3 0 (fun R => [_,_,_, R]) S187 S187 I25 (.r rfl) (.r rfl) rfl rfl rfl rfl rfl rfl rfl (fun _ => rfl) (by omega) (by omega) fun p3 c3 => VO.h rfl<|HO.lo (LO.as (.r rfl))<|VO.nil ?_)
      refine VE.inN (VE.seqN ?_)
      refine VC.reg (VO.l (LO.add (.r rfl) (.r rfl) (wi (by omega) (by omega))) rfl<|VO.l (LO.mv (.r rfl)) rfl<|VO.nil ?_)
      refine VE.thenN fun a w ha hw => ⟨(i + 1, o ++ [m.getD i zS], (o ++ [m.getD i zS]).length, p3, c3), ⟨by dsimp only; omega, by first | rfl | (dsimp only; rw [List.length_set]; exact hno), by have := hU.step (fun s hs => hv s (hperm.mem_iff.1 hs)) hpair (by omega); unfold unStep at this; first | (rw [if_pos ⟨by omega, h32.2⟩] at this; exact this) | (rw [if_neg (fun q => h32 ⟨by omega, q.2⟩)] at this; exact this)⟩, (by dsimp only; omega), ha.sub (.cons rfl (.cons rfl (.cons rfl (.cons rfl .nil)))), hw.sel [2,3] rfl⟩
  ·
    refine VC.exit (VE.thenX (VE.thenX (VE.inX (VE.seqN ?_))))
    refine VC.seq ?_
    refine VC.reg (VO.l (LO.mv (.r rfl)) rfl<|VO.l (LO.as (.r rfl)) rfl<|VO.nil ?_)
    refine VE.seqN ?_
    refine VC.ret (VE.res (vs := [_]) rfl ⟨rfl, trivial⟩ (fun w hw => ?_))
    exact ⟨(o, po, co), un_end hperm hU (by omega) (by omega), by subst hno; rfl, hw.sel [1] rfl⟩

set_option maxRecDepth 20000 in
theorem wide_c (l : List Span) (d : Int) (p : Option Addr) (c : Nat) (w : World) (hn : l.length < 1000000000) (hd : 0 ≤ d ∧ d ≤ 100000000) (hs : bdS 100000000 l) (hv : valS l) (hl : Spans w p l) :
  Calls Tryz.prog 199 #[.slice p l.length c, .int .i64 d] w fun e w' => ∃ x : List Span × Option Addr × Nat, UnP (l.map (widS d)) x.1 ∧ e = .returned (.slice x.2.1 x.1.length x.2.2) ∧ St (bs w) [own 25 2 x.2.1 x.2.2 (x.1.map spanC)] w' := by
  refine enter (vs := [_,_]) (env := [(0,_), (1,_)]) Tryz.func199 rfl rfl rfl rfl ?_
  refine VC.seq ?_
  refine VC.reg (VO.l (LO.as (.r rfl)) rfl<|VO.nil ?_)
  refine VE.seqN ?_
  refine VC.seq ?_
  refine VC.reg (VO.l (LO.as (.r rfl)) rfl<|VO.nil ?_)
  refine VE.seqN ?_
  refine VC.seq ?_
  refine VC.seq ?_
  refine VC.reg (VO.l (LO.mv (.r rfl)) rfl<|VO.l (LO.len S187 (.r rfl) rfl) rfl<|VO.l (LO.mv (.r rfl)) rfl<|VO.nil ?_)
  refine VE.seqN ?_
  refine VC.block ?_
  refine VC.loopK (α := Nat × (List Span) × (Option Addr) × Nat) 0 (fun gx => [(5, .slice gx.2.2.1 gx.2.1.length gx.2.2.2), (10, .int .i64 (gx.1 : Nat))]) [(1,_), (8,_), (9,_)] (fun gx => [own 25 2 gx.2.2.1 gx.2.2.2 (gx.2.1.map spanC)]) (fun gx => gx.1 ≤ l.length ∧ gx.2.1 = (l.take gx.1).map (widS d)) (fun gx => l.length - gx.1) (0, [], none, 0) (by exact ⟨Nat.zero_le _, rfl⟩) (.cons rfl (.cons rfl (.cons rfl (.cons rfl (.cons rfl .nil))))) (fun _ h => (h.ownNil 25 2)) ?_
  rintro ⟨i, o, po, co⟩ ⟨hi, hO⟩
  show VC _ _ _ _ _ ([(5, .slice po o.length co), (10, .int .i64 (i : Nat))] ++ _) ([own 25 2 po co (o.map spanC)] ++ _) _ _
  dsimp only at hi hO
  have hol : o.length = i := by rw [hO, List.length_map, List.length_take]; omega
  refine VC.seq ?_
  refine VC.reg (VO.l (LO.lt (.r rfl) (.r rfl)) rfl<|VO.nil ?_)
  refine VE.seqN ?_
  refine VC.seq ?_
  refine VC.cond rfl (fun h1 => ?_) (fun h1 => ?_)
  ·
    refine VC.skip (VE.seqN ?_)
    refine VC.seq ?_
    refine VC.block ?_
    refine VC.seq ?_
    refine VC.reg (VO.l (LO.ixs S187 N25 hl.sm (.r rfl) (.r rfl) rfl (by omega)) rfl<|VO.l (LO.lda (vs := [_,_]) A25 (.r rfl) (fun w hw => cells_part (off := 0) ((hl.at zS (j := i) (by omega)) w hw) ⟨_, rfl⟩) rfl) rfl<|VO.h rfl<|HO.alloc (C := #[_,_]) Z25 rfl fun b2 => VO.h0<|HO.st 0 (vs := [_,_]) (C' := [_,_]) (L' := [_,_]) N25 rfl rfl rfl rfl rfl rfl rfl rfl<|VO.nil ?_)
    refine VE.seqN ?_
    have hbd := bdS_at hs (i := i) (by omega)
    refine VC.reg (VO.l (LO.mv (.r rfl)) rfl<|VO.l (LO.fa (r := 0) F25_0 (.r rfl) rfl) rfl<|VO.l (LO.ld O3 (.r rfl) (fun _ hw => cells_at hw 0 rfl ⟨_, rfl⟩)) rfl<|VO.l (LO.mv (.r rfl)) rfl<|VO.l (LO.sub (.r rfl) (.r rfl) (wi (by omega) (by omega))) rfl<|VO.l (LO.fa (r := 1) F25_1 (.r rfl) rfl) rfl<|VO.l (LO.ld O3 (.r rfl) (fun _ hw => cells_at hw 0 rfl ⟨_, rfl⟩)) rfl<|VO.l (LO.mv (.r rfl)) rfl<|VO.l (LO.add (.r rfl) (.r rfl) (wi (by omega) (by omega))) rfl<|VO.l (LO.bd (ps := [(_,_), (_,_)]) (vs := [(_,_), (_,_)]) (C := [_,_]) B25  ⟨(.r rfl), (.r rfl), trivial⟩ rfl ⟨_, [_], [_,_], rfl, rfl, rfl, rfl, ⟨_, [_], [_,_], rfl, rfl, rfl, rfl, rfl⟩⟩) rfl<|VO.h rfl<|HO.bs (ps := [(_,_)]) (vs := [(_,_)]) (Z := [_,_]) (C := [_,_]) S187 Z25 N25 ⟨(.r rfl), trivial⟩ rfl rfl rfl rfl ⟨_, [_,_], [_,_], rfl, rfl, rfl, rfl, rfl⟩ fun b4 => VO.h rfl<|HO.appT ((widS d (l.getD i zS))) 2 0 (fun R => [_,_, R]) S187 S187 I25 (.r rfl) (.r rfl) rfl rfl rfl rfl rfl rfl rfl (fun _ => rfl) rfl (by omega) fun p11 c11 => VO.h rfl<|HO.lo (LO.as (.r rfl))<|VO.nil ?_)
    refine VE.inN (VE.seqN ?_)
    refine VC.reg (VO.l (LO.add (.r rfl) (.r rfl) (wi (by omega) (by omega))) rfl<|VO.l (LO.mv (.r rfl)) rfl<|VO.nil ?_)
    refine VE.thenN fun a w ha hw => ⟨(i + 1, o ++ [widS d (l.getD i zS)], p11, c11), ⟨by dsimp only; omega, by dsimp only; rw [hO, mapTake_1 (by omega)]⟩, (by dsimp only; omega), ha.sub (.cons rfl (.cons rfl (.cons rfl (.cons rfl (.cons rfl .nil))))), hw.sel [2] rfl⟩
  ·
    refine VC.exit (VE.thenX (VE.thenX (VE.inX (VE.seqN ?_))))
    refine VC.seq ?_
    have hE : o = l.map (widS d) := by rw [hO, List.take_of_length_le (by omega)]
    have hol : o.length = l.length := by rw [hE, List.length_map]
    refine VC.reg (VO.l (LO.mv (.r rfl)) rfl<|VO.h rfl<|HO.callx (xs := [_]) (vs := [_]) C59 ⟨(.r rfl), trivial⟩ (fun w hw => united_c o po co w (by omega) (by rw [hE]; exact widB hd hs) (by rw [hE]; exact wid_val hd.1 hv) (RO.of_own hw 0 rfl)) fun y hy => VO.l (LO.as (.r rfl)) rfl<|VO.nil ?_)
    refine VE.seqN ?_
    refine VC.ret (VE.res (vs := [_]) rfl ⟨rfl, trivial⟩ (fun w hw => ?_))
    exact ⟨y, by rw [hE] at hy; exact hy, rfl, hw.sel [0] rfl⟩

set_option maxRecDepth 20000 in
theorem meet_c (s t : List Span) (ps pt : Option Addr) (cs ct : Nat) (w : World) (hn : s.length < 1000000000) (hn2 : t.length < 1000000000) (hcs : CanS s) (hct : CanS t) (hb : smS s) (hs : Spans w ps s) (ht : Spans w pt t) :
  Calls Tryz.prog 131 #[.slice ps s.length cs, .slice pt t.length ct] w fun e w' => ∃ x : List Span × Option Addr × Nat, MeP s t x.1 ∧ e = .returned (.slice x.2.1 x.1.length x.2.2) ∧ St (bs w) [own 25 2 x.2.1 x.2.2 (x.1.map spanC)] w' := by
  refine enter (vs := [_,_]) (env := [(0,_), (1,_)]) Tryz.func131 rfl rfl rfl rfl ?_
  refine VC.seq ?_
  refine VC.reg (VO.l (LO.as (.r rfl)) rfl<|VO.nil ?_)
  refine VE.seqN ?_
  refine VC.seq ?_
  refine VC.reg (VO.l (LO.as (.r rfl)) rfl<|VO.nil ?_)
  refine VE.seqN ?_
  refine VC.seq ?_
  refine VC.seq ?_
  refine VC.reg (VO.l (LO.as (.r rfl)) rfl<|VO.l (LO.as (.r rfl)) rfl<|VO.nil ?_)
  refine VE.seqN ?_
  refine VC.block ?_
  refine VC.loopK (α := Nat × Nat × (List Span) × (Option Addr) × Nat) 0 (fun gx => [(5, .slice gx.2.2.2.1 gx.2.2.1.length gx.2.2.2.2), (6, .int .i64 (gx.1 : Nat)), (7, .int .i64 (gx.2.1 : Nat))]) [(0,_), (1,_)] (fun gx => [own 25 2 gx.2.2.2.1 gx.2.2.2.2 (gx.2.2.1.map spanC)]) (fun gx => MeI s t gx.2.2.1 gx.1 gx.2.1) (fun gx => s.length - gx.1 + (t.length - gx.2.1)) (0,0, [], none, 0) (by exact MeI.zero) (.cons rfl (.cons rfl (.cons rfl (.cons rfl (.cons rfl .nil))))) (fun _ h => (h.ownNil 25 2)) ?_
  rintro ⟨i, k, o, po, co⟩ hM
  show VC _ _ _ _ _ ([(5, .slice po o.length co), (6, .int .i64 (i : Nat)), (7, .int .i64 (k : Nat))] ++ _) ([own 25 2 po co (o.map spanC)] ++ _) _ _
  dsimp only at hM
  have hik := And.intro hM.hi hM.hk
  have hnn := hM.nn
  refine VC.seq ?_
  refine VC.seq ?_
  refine VC.reg (VO.l (LO.mv (.r rfl)) rfl<|VO.l (LO.mv (.r rfl)) rfl<|VO.l (LO.len S187 (.r rfl) rfl) rfl<|VO.l (LO.lt (.r rfl) (.r rfl)) rfl<|VO.l (LO.mv (.r rfl)) rfl<|VO.lg rfl rfl (GD.t _) (fun hg => LO.mv (.r rfl)) rfl<|VO.lg rfl rfl (GD.t _) (fun hg => LO.mv (.r rfl)) rfl<|VO.lg rfl rfl (GD.t _) (fun hg => LO.len S187 (.g hg rfl) rfl) rfl<|VO.lg rfl rfl (GD.t _) (fun hg => LO.lt (.g hg rfl) (.g hg rfl)) rfl<|VO.l (LO.pkA (.r rfl) rfl rfl (.r rfl)) rfl<|VO.nil ?_)
  refine VE.seqN ?_
  refine VC.cond rfl (fun h19 => ?_) (fun h19 => ?_)
  ·
    refine VC.skip (VE.seqN ?_)
    refine VC.block ?_
    refine VC.seq ?_
    refine VC.seq ?_
    refine VC.drawH [[0], [0], [0]] [some 1, some 1, some 1, some 1, some 1, some 1, some 1, some 1, some 1, some 1, some 1, some 2, none, none, some 2] mixed (by kernel_rfl) rfl (LX.l (fun _ hJ => LO.mv (.r rfl)) rfl<|LX.l (fun _ hJ => LO.mv (.r rfl)) rfl<|LX.l (fun _ hJ => LO.ixs S187 N25 hs.sm (.r rfl) (.r rfl) rfl (by omega)) rfl<|LX.l (fun _ hJ => LO.lda (vs := [_,_]) A25 (.r rfl) (fun w hw => cells_part (off := 0) ((hs.at zS (j := i) (by omega)) w (hJ _ hw)) ⟨_, rfl⟩) rfl) rfl<|LX.l (fun _ hJ => LO.mv (.r rfl)) rfl<|LX.l (fun _ hJ => LO.mv (.r rfl)) rfl<|LX.l (fun _ hJ => LO.ixs S187 N25 ht.sm (.r rfl) (.r rfl) rfl (by omega)) rfl<|LX.l (fun _ hJ => LO.lda (vs := [_,_]) A25 (.r rfl) (fun w hw => cells_part (off := 0) ((ht.at zS (j := k) (by omega)) w (hJ _ hw)) ⟨_, rfl⟩) rfl) rfl<|LX.l (fun _ hJ => LO.call (xs := [_,_]) (vs := [_,_]) C122 ⟨(.r rfl), (.r rfl), trivial⟩ (fun w _ => common_c _ _ w)) rfl<|LX.l (fun _ hJ => LO.mv (.r rfl)) rfl<|LX.l (fun _ hJ => LO.ex (.r rfl) rfl) rfl<|LX.l (fun _ hJ => LO.ex (.r rfl) rfl) rfl<|LX.s<|LX.s<|LX.l (fun _ hJ => LO.as (.r rfl)) rfl<|LX.nil) (HX.s<|HX.s<|HX.s<|HX.s<|HX.s<|HX.s<|HX.s<|HX.s<|HX.s<|HX.s<|HX.s<|HX.s<|HX.h rfl<|HO.alloc (C := #[_,_]) Z25 rfl fun b4 => ⟨fun _ hw => hw.sel [1] rfl, HX.h0<|HO.st 0 (vs := [_,_]) (C' := [_,_]) (L' := [_,_]) N25 rfl rfl rfl rfl rfl rfl rfl rfl<|⟨fun _ hw => hw.sel [1] rfl, HX.s<|HX.nil ?_⟩⟩)
    refine VE.seqN ?_
    refine VC.seq ?_
    refine VC.reg (VO.l (LO.mv (.r rfl)) rfl<|VO.nil ?_)
    refine VE.seqN ?_
    refine VC.cond rfl (fun h32 => ?_) (fun h32 => ?_)
    ·
      refine VC.reg (VO.l (LO.mv (.r rfl)) rfl<|VO.l (LO.lda (vs := [_,_]) A25 (.r rfl) (fun _ hw => cells_at hw 0 rfl ⟨_, rfl⟩) rfl) rfl<|VO.h rfl<|HO.bs (ps := [(_,_)]) (vs := [(_,_)]) (Z := [_,_]) (C := [_,_]) S187 Z25 N25 ⟨(.r rfl), trivial⟩ rfl rfl rfl rfl ⟨_, [_,_], [_,_], rfl, rfl, rfl, rfl, rfl⟩ fun b6 => VO.h rfl<|HO.appT ((comS (s.getD i zS) (t.getD k zS))) 2 0 (fun R => [_,_, R]) S187 S187 I25 (.r rfl) (.r rfl) rfl rfl rfl rfl rfl rfl rfl (fun _ => rfl) rfl (by omega) fun p3 c3 => VO.h rfl<|HO.lo (LO.as (.r rfl))<|VO.nil ?_)
      refine VE.seqN ?_
      refine VC.seq ?_
      refine VC.draw mixed (LL.l (LO.mv (.r rfl)) rfl<|LL.l (LO.mv (.r rfl)) rfl<|LL.l (LO.ixs S187 N25 hs.sm (.r rfl) (.r rfl) rfl (by omega)) rfl<|LL.l (LO.fa F25_1 (.r rfl) rfl) rfl<|LL.l (LO.ld O3 (.r rfl) (fun w hw => cells_part (off := 1) ((hs.at zS (j := i) (by omega)) w hw) ⟨_, rfl⟩)) rfl<|LL.l (LO.mv (.r rfl)) rfl<|LL.l (LO.mv (.r rfl)) rfl<|LL.l (LO.ixs S187 N25 ht.sm (.r rfl) (.r rfl) rfl (by omega)) rfl<|LL.l (LO.fa F25_1 (.r rfl) rfl) rfl<|LL.l (LO.ld O3 (.r rfl) (fun w hw => cells_part (off := 1) ((ht.at zS (j := k) (by omega)) w hw) ⟨_, rfl⟩)) rfl<|LL.l (LO.lt (.r rfl) (.r rfl)) rfl<|LL.nil) (by kernel_rfl) ?_
      refine VE.seqN ?_
      refine VC.cond rfl (fun h47 => ?_) (fun h47 => ?_)
      ·
        refine VC.reg (VO.l (LO.mv (.r rfl)) rfl<|VO.l (LO.add (.r rfl) (.r rfl) (wi (by omega) (by omega))) rfl<|VO.l (LO.as (.r rfl)) rfl<|VO.nil ?_)
        refine VE.inN ?_
        refine VE.thenN fun a w ha hw => ⟨(i + 1, k, o ++ [comS (s.getD i zS) (t.getD k zS)], p3, c3), (by have := hM.step hcs hct (by omega) (by omega); unfold meOut at this; (first | rw [if_pos h32] at this | rw [if_neg h32] at this); first | (simp only [if_pos h47] at this; exact this) | (simp only [if_neg h47] at this; exact this)), (by dsimp only; omega), ha.sub (.cons rfl (.cons rfl (.cons rfl (.cons rfl (.cons rfl .nil))))), hw.sel [2] rfl⟩
      ·
        refine VC.reg (VO.l (LO.mv (.r rfl)) rfl<|VO.l (LO.add (.r rfl) (.r rfl) (wi (by omega) (by omega))) rfl<|VO.l (LO.as (.r rfl)) rfl<|VO.nil ?_)
        refine VE.inN ?_
        refine VE.thenN fun a w ha hw => ⟨(i, k + 1, o ++ [comS (s.getD i zS) (t.getD k zS)], p3, c3), (by have := hM.step hcs hct (by omega) (by omega); unfold meOut at this; (first | rw [if_pos h32] at this | rw [if_neg h32] at this); first | (simp only [if_pos h47] at this; exact this) | (simp only [if_neg h47] at this; exact this)), (by dsimp only; omega), ha.sub (.cons rfl (.cons rfl (.cons rfl (.cons rfl (.cons rfl .nil))))), hw.sel [2] rfl⟩
    ·
      refine VC.skip (VE.seqN ?_)
      refine VC.seq ?_
      refine VC.draw mixed (LL.l (LO.mv (.r rfl)) rfl<|LL.l (LO.mv (.r rfl)) rfl<|LL.l (LO.ixs S187 N25 hs.sm (.r rfl) (.r rfl) rfl (by omega)) rfl<|LL.l (LO.fa F25_1 (.r rfl) rfl) rfl<|LL.l (LO.ld O3 (.r rfl) (fun w hw => cells_part (off := 1) ((hs.at zS (j := i) (by omega)) w hw) ⟨_, rfl⟩)) rfl<|LL.l (LO.mv (.r rfl)) rfl<|LL.l (LO.mv (.r rfl)) rfl<|LL.l (LO.ixs S187 N25 ht.sm (.r rfl) (.r rfl) rfl (by omega)) rfl<|LL.l (LO.fa F25_1 (.r rfl) rfl) rfl<|LL.l (LO.ld O3 (.r rfl) (fun w hw => cells_part (off := 1) ((ht.at zS (j := k) (by omega)) w hw) ⟨_, rfl⟩)) rfl<|LL.l (LO.lt (.r rfl) (.r rfl)) rfl<|LL.nil) (by kernel_rfl) ?_
      refine VE.seqN ?_
      refine VC.cond rfl (fun h47 => ?_) (fun h47 => ?_)
      ·
        refine VC.reg (VO.l (LO.mv (.r rfl)) rfl<|VO.l (LO.add (.r rfl) (.r rfl) (wi (by omega) (by omega))) rfl<|VO.l (LO.as (.r rfl)) rfl<|VO.nil ?_)
        refine VE.inN ?_
        refine VE.thenN fun a w ha hw => ⟨(i + 1, k, o, po, co), (by have := hM.step hcs hct (by omega) (by omega); unfold meOut at this; (first | rw [if_pos h32] at this | rw [if_neg h32] at this); first | (simp only [if_pos h47] at this; exact this) | (simp only [if_neg h47] at this; exact this)), (by dsimp only; omega), ha.sub (.cons rfl (.cons rfl (.cons rfl (.cons rfl (.cons rfl .nil))))), hw.sel [1] rfl⟩
      ·
        refine VC.reg (VO.l (LO.mv (.r rfl)) rfl<|VO.l (LO.add (.r rfl) (.r rfl) (wi (by omega) (by omega))) rfl<|VO.l (LO.as (.r rfl)) rfl<|VO.nil ?_)
        refine VE.inN ?_
        refine VE.thenN fun a w ha hw => ⟨(i, k + 1, o, po, co), (by have := hM.step hcs hct (by omega) (by omega); unfold meOut at this; (first | rw [if_pos h32] at this | rw [if_neg h32] at this); first | (simp only [if_pos h47] at this; exact this) | (simp only [if_neg h47] at this; exact this)), (by dsimp only; omega), ha.sub (.cons rfl (.cons rfl (.cons rfl (.cons rfl (.cons rfl .nil))))), hw.sel [1] rfl⟩
  ·
    refine VC.exit (VE.thenX (VE.thenX (VE.inX (VE.seqN ?_))))
    refine VC.seq ?_
    have hE : s.length ≤ i ∨ t.length ≤ k := by omega
    refine VC.reg (VO.l (LO.mv (.r rfl)) rfl<|VO.h rfl<|HO.callx (xs := [_]) (vs := [_]) C59 ⟨(.r rfl), trivial⟩ (fun w hw => united_c o po co w (by omega) (bdS_subv hb hM.v fun z h => (hM.sub z h).1) hM.v (RO.of_own hw 0 rfl)) fun y hy => VO.l (LO.as (.r rfl)) rfl<|VO.nil ?_)
    refine VE.seqN ?_
    refine VC.ret (VE.res (vs := [_]) rfl ⟨rfl, trivial⟩ (fun w hw => ?_))
    exact ⟨y, me_end hM hE hy, rfl, hw.sel [0] rfl⟩

set_option maxRecDepth 20000 in
theorem near_c (s t : List Span) (d : Int) (ps pt : Option Addr) (cs ct : Nat) (w : World) (hn : s.length < 100000000) (hn2 : t.length < 100000000) (hd : 0 ≤ d ∧ d ≤ 100000000) (hcs : CanS s) (hct : CanS t) (hb : bdS 100000000 s) (hb2 : bdS 100000000 t) (hs : Spans w ps s) (ht : Spans w pt t) :
  Calls Tryz.prog 129 #[.slice ps s.length cs, .slice pt t.length ct, .int .i64 d] w fun e w' => ∃ x : List Span × Option Addr × Nat, NeP s t x.1 d ∧ e = .returned (.slice x.2.1 x.1.length x.2.2) ∧ St (bs w) [own 25 2 x.2.1 x.2.2 (x.1.map spanC)] w' := by
  refine enter (vs := [_,_,_]) (env := [(0,_), (1,_), (2,_)]) Tryz.func129 rfl rfl rfl rfl ?_
  refine VC.seq ?_
  refine VC.reg (VO.l (LO.as (.r rfl)) rfl<|VO.nil ?_)
  refine VE.seqN ?_
  refine VC.seq ?_
  refine VC.reg (VO.l (LO.mv (.r rfl)) rfl<|VO.l (LO.mv (.r rfl)) rfl<|VO.l (LO.mv (.r rfl)) rfl<|VO.h rfl<|HO.callx (xs := [_,_]) (vs := [_,_]) C199 ⟨(.r rfl), (.r rfl), trivial⟩ (fun w hw => wide_c t d pt ct w (by omega) hd hb2 hct.v (ht.keep w hw)) fun y hy => VO.h rfl<|HO.callx (xs := [_,_]) (vs := [_,_]) C131 ⟨(.r rfl), (.r rfl), trivial⟩ (fun w hw => meet_c s y.1 ps y.2.1 cs y.2.2 w (by omega) (by have := hy.n; rw [List.length_map] at this; omega) hcs hy.c (bdS_mono hb (by decide)) (hs.keep w hw) (RO.of_own hw 0 rfl)) fun z hz => VO.h rfl<|HO.lo (LO.as (.r rfl))<|VO.nil ?_)
  refine VE.seqN ?_
  refine VC.ret (VE.res (vs := [_]) rfl ⟨rfl, trivial⟩ (fun w hw => ?_))
  exact ⟨z, ne_of hy hz, rfl, hw.sel [0] rfl⟩

set_option maxRecDepth 20000 in
theorem known_c (l : List SpY) (p : Option Addr) (c : Nat) (w : World) (hn : l.length < 1000000000) (hl : RO 1 setC w p l) :
  Calls Tryz.prog 128 #[.slice p l.length c] w fun e w' => ∃ x : Option Addr × Nat, True ∧ e = .returned (.slice x.1 (knw l l.length).length x.2) ∧ St (bs w) [own 3 1 x.1 x.2 ((knw l l.length).map natC)] w' := by
  refine enter (vs := [_]) (env := [(0,_)]) Tryz.func128 rfl rfl rfl rfl ?_
  refine VC.seq ?_
  refine VC.reg (VO.l (LO.as (.r rfl)) rfl<|VO.nil ?_)
  refine VE.seqN ?_
  refine VC.seq ?_
  refine VC.reg (VO.l (LO.as (.r rfl)) rfl<|VO.nil ?_)
  refine VE.seqN ?_
  refine VC.seq ?_
  refine VC.seq ?_
  refine VC.reg (VO.l (LO.mv (.r rfl)) rfl<|VO.l (LO.len S183 (.r rfl) rfl) rfl<|VO.l (LO.mv (.r rfl)) rfl<|VO.nil ?_)
  refine VE.seqN ?_
  refine VC.block ?_
  refine VC.loopK (α := Nat × (List Nat) × (Option Addr) × Nat) 0 (fun gx => [(3, .slice gx.2.2.1 gx.2.1.length gx.2.2.2), (8, .int .i64 (gx.1 : Nat))]) [(6,_), (7,_)] (fun gx => [own 3 1 gx.2.2.1 gx.2.2.2 (gx.2.1.map natC)]) (fun gx => gx.1 ≤ l.length ∧ gx.2.1 = knw l gx.1) (fun gx => l.length - gx.1) (0, [], none, 0) (by exact ⟨Nat.zero_le _, rfl⟩) (.cons rfl (.cons rfl (.cons rfl (.cons rfl .nil)))) (fun _ h => (h.ownNil 3 1)) ?_
  rintro ⟨i, o, po, co⟩ ⟨hi, hO⟩
  show VC _ _ _ _ _ ([(3, .slice po o.length co), (8, .int .i64 (i : Nat))] ++ _) ([own 3 1 po co (o.map natC)] ++ _) _ _
  dsimp only at hi hO
  have hol : o.length ≤ i := by rw [hO]; exact knw_len
  refine VC.seq ?_
  refine VC.reg (VO.l (LO.lt (.r rfl) (.r rfl)) rfl<|VO.nil ?_)
  refine VE.seqN ?_
  refine VC.seq ?_
  refine VC.cond rfl (fun h1 => ?_) (fun h1 => ?_)
  ·
    refine VC.skip (VE.seqN ?_)
    refine VC.seq ?_
    refine VC.block ?_
    refine VC.seq ?_
    refine VC.reg (VO.l (LO.mv (.r rfl)) rfl<|VO.l (LO.ixs S183 N187 hl.sm (.r rfl) (.r rfl) rfl (by omega)) rfl<|VO.l (LO.ld O187 (.r rfl) (fun w hw => cells_part (off := 0) ((hl.at zSY (j := i) (by omega)) w hw) ⟨_, rfl⟩)) rfl<|VO.l (LO.as (.r rfl)) rfl<|VO.l (LO.as (.r rfl)) rfl<|VO.nil ?_)
    refine VE.seqN ?_
    refine VC.seq ?_
    refine VC.reg (VO.l (LO.mv (.r rfl)) rfl<|VO.l (LO.len S187 (.r rfl) rfl) rfl<|VO.l (LO.gt (.r rfl) (.r rfl)) rfl<|VO.nil ?_)
    refine VE.seqN ?_
    refine VC.cond rfl (fun h15 => ?_) (fun h15 => ?_)
    ·
      refine VC.reg (VO.l (LO.mv (.r rfl)) rfl<|VO.l (LO.mv (.r rfl)) rfl<|VO.h rfl<|HO.bs (ps := [(_,_)]) (vs := [(_,_)]) (Z := [_]) (C := [_]) S112 Z3 N3 ⟨(.r rfl), trivial⟩ rfl rfl rfl rfl ⟨_, [_], [_], rfl, rfl, rfl, rfl, rfl⟩ fun b2 => VO.h rfl<|HO.appT (i) 1 0 (fun R => [_, R]) S112 S112 I3 (.r rfl) (.r rfl) rfl rfl rfl rfl rfl rfl rfl (fun _ => rfl) rfl (by omega) fun p3 c3 => VO.h rfl<|HO.lo (LO.as (.r rfl))<|VO.nil ?_)
      refine VE.inN (VE.seqN ?_)
      refine VC.reg (VO.l (LO.add (.r rfl) (.r rfl) (wi (by omega) (by omega))) rfl<|VO.l (LO.mv (.r rfl)) rfl<|VO.nil ?_)
      refine VE.thenN fun a w ha hw => ⟨(i + 1, o ++ [i], p3, c3), ⟨by dsimp only; omega, by dsimp only; rw [knw_1, hO]; first | rw [if_pos (by omega)] | rw [if_neg (by omega)]⟩, (by dsimp only; omega), ha.sub (.cons rfl (.cons rfl (.cons rfl (.cons rfl .nil)))), hw.sel [1] rfl⟩
    ·
      refine VC.skip (VE.inN (VE.seqN ?_))
      refine VC.reg (VO.l (LO.add (.r rfl) (.r rfl) (wi (by omega) (by omega))) rfl<|VO.l (LO.mv (.r rfl)) rfl<|VO.nil ?_)
      refine VE.thenN fun a w ha hw => ⟨(i + 1, o, po, co), ⟨by dsimp only; omega, by dsimp only; rw [knw_1, hO]; first | rw [if_pos (by omega)] | rw [if_neg (by omega)]⟩, (by dsimp only; omega), ha.sub (.cons rfl (.cons rfl (.cons rfl (.cons rfl .nil)))), hw⟩
  ·
    refine VC.exit (VE.thenX (VE.thenX (VE.inX (VE.seqN ?_))))
    refine VC.seq ?_
    refine VC.reg (VO.l (LO.mv (.r rfl)) rfl<|VO.l (LO.as (.r rfl)) rfl<|VO.nil ?_)
    refine VE.seqN ?_
    refine VC.ret (VE.res (vs := [_]) rfl ⟨rfl, trivial⟩ (fun w hw => ?_))
    have e : i = l.length := by omega
    subst e
    subst hO
    exact ⟨(po, co), trivial, rfl, hw.sel [0] rfl⟩

end Go.Proofs.YtffbohecdocajaaGreat

namespace Go.Proofs.YtffbohecdocajaaGreat
open Go.SL Go.Proofs Go.Pulse
set_option linter.unusedVariables false

theorem C240 : IsFn Tryz.prog 240 := ⟨_, Tryz.func240, by decide, rfl⟩
theorem B319 : Builds Tryz.prog 319 [(0,1), (1,2)] [.int .i64 0, .int .i64 0, .int .i64 0] := Builds.mk fun _ => by kernel_rfl
theorem Z315 : ZeroOf Tryz.prog 315 (.slice none 0 0) := by unfold ZeroOf; kernel_rfl
theorem C194 : IsFn Tryz.prog 194 := ⟨_, Tryz.func194, by decide, rfl⟩
theorem Z319 : ZeroOf Tryz.prog 319 (.agg #[.int .i64 0, .int .i64 0, .int .i64 0]) := by unfold ZeroOf; kernel_rfl
theorem N319 : (Tryz.prog.info? 319).map (·.size) = some 3 := by kernel_rfl
theorem O315 : IsOne Tryz.prog 315 := ⟨⟨_, Tryz.underlying315, rfl⟩, by kernel_rfl⟩
theorem A319 : IsAgg Tryz.prog 319 3 := ⟨⟨_, Tryz.underlying319, rfl⟩, by kernel_rfl⟩
theorem S315 : IsSlice Tryz.prog 315 319 := Tryz.underlying315
theorem I319 : EInfo Tryz.prog 319 3 24 (.agg #[.int .i64 0, .int .i64 0, .int .i64 0]) := ⟨by kernel_rfl, by kernel_rfl, by unfold ZeroOf; kernel_rfl, rfl, by decide⟩
theorem N315 : (Tryz.prog.info? 315).map (·.size) = some 1 := by kernel_rfl
theorem F319_0 : FieldAt Tryz.prog 319 0 0 := ⟨_,_, Tryz.underlying319, rfl, rfl, 0, by kernel_rfl⟩


/-- A number of whole turns, with its speeds. -/
structure Opt where
  wh : Int
  s : Span
def zO : Opt := ⟨0, zs⟩
def optC (o : Opt) : List Value := [.int .i64 o.wh, .int .i64 o.s.lo, .int .i64 o.s.hi]
def optV (o : Opt) : List Value := [.agg #[.int .i64 o.wh, .int .i64 o.s.lo, .int .i64 o.s.hi]]
def stpS (x : Echo) (wh : Nat) : Span := if wh = 0 then x.s0 else x.s1
def opS (t : Train) (x : Echo) (wh : Nat) (most k : Int) : Span := comS (spdV t (wh : Nat) (stpS x wh) k) ⟨-most, most⟩
def opOf (t : Train) (x : Echo) (wh : Nat) (most k : Int) : Option Opt := if (opS t x wh most k).lo ≤ (opS t x wh most k).hi then some ⟨k, opS t x wh most k⟩ else none
def optN (t : Train) (x : Echo) (wh : Nat) (most k : Int) : List Opt := (List.range (k + 64).toNat).filterMap fun i : Nat => opOf t x wh most ((i : Int) - 64)
section
variable {t : Train} {x : Echo} {wh : Nat} {most k : Int}
theorem opt_1 (hk : -64 ≤ k) : optN t x wh most (k + 1) = optN t x wh most k ++ (opOf t x wh most k).toList := by
  unfold optN
  rw [show (k + 1 + 64).toNat = (k + 64).toNat + 1 by omega, List.range_succ, List.filterMap_append]
  congr 1
  rw [List.filterMap_cons, show (((k + 64).toNat : Nat) : Int) - 64 = k by omega]
  cases opOf t x wh most k <;> rfl
theorem opt_y (hk : -64 ≤ k) (h : (opS t x wh most k).lo ≤ (opS t x wh most k).hi) : optN t x wh most (k + 1) = optN t x wh most k ++ [⟨k, opS t x wh most k⟩] := by
  rw [opt_1 hk, opOf, if_pos h]; rfl
theorem opt_n (hk : -64 ≤ k) (h : ¬ (opS t x wh most k).lo ≤ (opS t x wh most k).hi) : optN t x wh most (k + 1) = optN t x wh most k := by
  rw [opt_1 hk, opOf, if_neg h]; exact List.append_nil _
theorem opt_pre (hk : -64 ≤ k) : ∀ n : Nat, ∃ r, optN t x wh most (k + n) = optN t x wh most k ++ r
  | 0 => ⟨[], by rw [List.append_nil]; congr 1; omega⟩
  | n + 1 => by
    obtain ⟨r, hr⟩ := opt_pre hk n
    refine ⟨r ++ (opOf t x wh most (k + n)).toList, ?_⟩
    rw [show k + ((n + 1 : Nat) : Int) = k + n + 1 by omega, opt_1 (by omega), hr, List.append_assoc]
theorem opt_at (hk : -64 ≤ k) (hk2 : k ≤ 64) (h : (opS t x wh most k).lo ≤ (opS t x wh most k).hi) : ((optN t x wh most 65).map optV)[(optN t x wh most k).length]? = some (optV ⟨k, opS t x wh most k⟩) := by
  obtain ⟨r, hr⟩ := opt_pre (t := t) (x := x) (wh := wh) (most := most) (k := k + 1) (by omega) (64 - k).toNat
  rw [show k + 1 + ((64 - k).toNat : Int) = 65 by omega, opt_y hk h] at hr
  rw [hr, List.getElem?_map, List.append_assoc, List.getElem?_append_right (Nat.le_refl _), Nat.sub_self]; rfl
theorem opt_le (hk : -64 ≤ k) (hk2 : k ≤ 65) : (optN t x wh most k).length ≤ ((optN t x wh most 65).map optV).length := by
  obtain ⟨r, hr⟩ := opt_pre (t := t) (x := x) (wh := wh) (most := most) hk (65 - k).toNat
  rw [show k + ((65 - k).toNat : Int) = 65 by omega] at hr
  rw [hr, List.length_map, List.length_append]; omega
theorem opt_le1 (hk : -64 ≤ k) (hk2 : k ≤ 64) (h : (opS t x wh most k).lo ≤ (opS t x wh most k).hi) : (optN t x wh most k).length + 1 ≤ ((optN t x wh most 65).map optV).length := by
  have := opt_le (t := t) (x := x) (wh := wh) (most := most) (k := k + 1) (by omega) (by omega)
  rw [opt_y hk h, List.length_append] at this
  exact this
theorem opt_len : (optN t x wh most 65).length ≤ 129 := by
  have := List.length_filterMap_le (fun i : Nat => opOf t x wh most ((i : Int) - 64)) (List.range (65 + 64 : Int).toNat)
  rw [List.length_range] at this
  exact this
theorem opt_row {l : List Opt} {n : Nat} {vs : List Value} (h : (l.map optV)[n]? = some vs) : ∃ o, vs = optV o ∧ l[n]? = some o := by
  rw [List.getElem?_map] at h
  cases q : l[n]? with
  | none => rw [q] at h; cases h
  | some v => rw [q] at h; cases h; exact ⟨v, rfl, rfl⟩
end
def trnC (t : Train) : List Value := [.int .i64 t.lam, .int .i64 t.kind, .int .i64 t.first, .int .i64 t.second, .int .i64 t.count]
/-- What the options are found by. -/
structure OptC (t : Train) (x : Echo) (wh : Nat) (most : Int) (q : Nat × Nat × Nat × Nat) (w : World) : Prop where
  t : Cells w ⟨q.1,0, none⟩ (trnC t)
  wh : Cells w ⟨q.2.1,0, none⟩ [.int .i64 (wh : Nat)]
  x : Cells w ⟨q.2.2.1,0, none⟩ (echoC x)
  m : Cells w ⟨q.2.2.2,0, none⟩ [.int .i64 most]

def lstB (t : Train) (x : Echo) (wh : Nat) (most : Int) : Bool := !(decide (0 < (optN t x wh most 65).length) && (decide (((optN t x wh most 65).getD 0 zO).wh = -64) || decide (((optN t x wh most 65).getD ((optN t x wh most 65).length - 1) zO).wh = 64)))
def lstV (t : Train) (x : Echo) (wh : Nat) (most : Int) : List Opt := if lstB t x wh most = true then optN t x wh most 65 else []
section
variable {t : Train} {x : Echo} {wh : Nat} {most : Int} {l : List Opt}
theorem lst_n (h : 0 < (optN t x wh most 65).length ∧ (((optN t x wh most 65).getD 0 zO).wh = -64 ∨ ((optN t x wh most 65).getD ((optN t x wh most 65).length - 1) zO).wh = 64)) : lstB t x wh most = false ∧ lstV t x wh most = [] := by
  have e : lstB t x wh most = false := by
    unfold lstB
    rw [Bool.not_eq_false', Bool.and_eq_true, Bool.or_eq_true, decide_eq_true_iff, decide_eq_true_iff, decide_eq_true_iff]; exact h
  exact ⟨e, by unfold lstV; rw [e]; rfl⟩
theorem lst_y (h : ¬ (0 < (optN t x wh most 65).length ∧ (((optN t x wh most 65).getD 0 zO).wh = -64 ∨ ((optN t x wh most 65).getD ((optN t x wh most 65).length - 1) zO).wh = 64))) : lstB t x wh most = true ∧ lstV t x wh most = optN t x wh most 65 := by
  have e : lstB t x wh most = true := by
    unfold lstB
    rw [Bool.not_eq_true', ← Bool.not_eq_true, Bool.and_eq_true, Bool.or_eq_true, decide_eq_true_iff, decide_eq_true_iff, decide_eq_true_iff]; exact h
  exact ⟨e, by unfold lstV; rw [e]; rfl⟩
end

set_option maxRecDepth 20000 in
theorem options_c (t : Train) (x : Echo) (wh most : Int) (w : World) :
  Calls Tryz.prog 194 #[trainV t, echoV x, .int .i64 wh, .int .i64 most] w fun e w' => ∃ q : Nat × Nat × Nat × Nat, True ∧ e = .returned (.func (.func 240) #[] #[.pointer (some ⟨q.1,0, none⟩), .pointer (some ⟨q.2.1,0, none⟩), .pointer (some ⟨q.2.2.1,0, none⟩), .pointer (some ⟨q.2.2.2,0, none⟩)]) ∧ St (bs w) [blk q.2.2.2 (.cells #[.int .i64 most] 3), blk q.2.1 (.cells #[.int .i64 wh] 3), blk q.2.2.1 (.cells (echoC x).toArray 76), blk q.1 (.cells (trnC t).toArray 23)] w' := by
  refine enter (vs := [_,_,_,_]) (env := [(0,_), (1,_), (2,_), (3,_)]) Tryz.func194 rfl rfl rfl rfl ?_
  refine VC.seq ?_
  refine VC.reg (VO.h rfl<|HO.box (C := #[_,_,_,_,_]) rfl rfl fun b1 => VO.h rfl<|HO.box (C := #[_,_,_,_,_,_,_,_,_,_,_,_,_,_]) rfl rfl fun b2 => VO.h rfl<|HO.box (C := #[_]) rfl rfl fun b3 => VO.h rfl<|HO.box (C := #[_]) rfl rfl fun b4 => VO.l (LO.as (.r rfl)) rfl<|VO.nil ?_)
  refine VE.seqN ?_
  refine VC.seq ?_
  refine VC.reg (VO.h rfl<|HO.lo (LO.mf (cap := [_,_,_,_]) ⟨(.r rfl), (.r rfl), (.r rfl), (.r rfl), trivial⟩)<|VO.h rfl<|HO.lo (LO.as (.r rfl))<|VO.nil ?_)
  refine VE.seqN ?_
  refine VC.ret (VE.res (vs := [_]) rfl ⟨rfl, trivial⟩ (fun w hw => ?_))
  exact ⟨(b1, b3, b2, b4), trivial, rfl, hw⟩

set_option maxRecDepth 20000 in
theorem opts0_seq (t : Train) (x : Echo) (most : Int) (q : Nat × Nat × Nat × Nat) (hm : 1 ≤ most ∧ most ≤ 60000) :
  SeqC Tryz.prog 240 [.pointer (some ⟨q.1,0, none⟩), .pointer (some ⟨q.2.1,0, none⟩), .pointer (some ⟨q.2.2.1,0, none⟩), .pointer (some ⟨q.2.2.2,0, none⟩)] (OptC t x 0 most q) ((optN t x 0 most 65).map optV) := by
  intro l0 J Jx w r hCap hyl hJJ hi0 hf0
  refine enterO (vs := [_,_,_,_,_]) (env := [(0,_), (1,_), (2,_), (3,_), (4,_)]) (St.one hi0 hf0) Tryz.func240 rfl rfl rfl rfl ?_
  refine VC.seq ?_
  refine VC.reg (VO.l (LO.as (.r rfl)) rfl<|VO.nil ?_)
  refine VE.seqN ?_
  refine VC.block ?_
  refine VC.loopK (α := Int × Res) 1 (fun x_ => [(6, .int .i64 x_.1)]) [(0,_), (1,_), (2,_), (3,_), (4,_)] (fun x_ => [x_.2]) (fun x_ => (-64 ≤ x_.1 ∧ x_.1 ≤ 65) ∧ J (optN t x 0 most x_.1).length x_.2) (fun x_ => (65 - x_.1).toNat) (-64, r) (by exact ⟨by omega, hJJ⟩) (.cons rfl (.cons rfl (.cons rfl (.cons rfl (.cons rfl (.cons rfl .nil)))))) (fun _ h => h) ?_
  rintro ⟨k, r⟩ ⟨hi, hJJ⟩
  show VC _ _ _ _ _ ([(6, .int .i64 k)] ++ _) ([r] ++ _) _ _
  refine VC.seq ?_
  refine VC.seq ?_
  refine VC.reg (VO.l (LO.mv (.r rfl)) rfl<|VO.l (LO.le (.r rfl) (.r rfl)) rfl<|VO.nil ?_)
  refine VE.seqN ?_
  refine VC.cond rfl (fun h1 => ?_) (fun h1 => ?_)
  ·
    refine VC.skip (VE.seqN ?_)
    refine VC.seq ?_
    refine VC.block ?_
    refine VC.seq ?_
    refine VC.drawH [[0], [0], [0]] [some 1, some 1, some 1, some 1, some 1, some 1, some 1, some 1, some 1, some 1, some 2, none, none, some 2] mixed (by kernel_rfl) rfl (LX.l (fun _ hJ => LO.lda (vs := [_,_,_,_,_]) A23 (.r rfl) (fun _ hw => sub_cells (off := 0) (hCap _ _ _ hJJ (St.inv (hJ _ hw) 0 _ rfl)).t ⟨_, rfl⟩) rfl) rfl<|LX.l (fun _ hJ => LO.ld O3 (.r rfl) (fun _ hw => sub_cells (off := 0) (hCap _ _ _ hJJ (St.inv (hJ _ hw) 0 _ rfl)).wh ⟨_, rfl⟩)) rfl<|LX.l (fun _ hJ => LO.ld O3 (.r rfl) (fun _ hw => sub_cells (off := 0) (hCap _ _ _ hJJ (St.inv (hJ _ hw) 0 _ rfl)).wh ⟨_, rfl⟩)) rfl<|LX.l (fun _ hJ => LO.fa (r := 3) F76_2 (.r rfl) rfl) rfl<|LX.l (fun _ hJ => LO.ixa (j := 0) (r := 3) Tryz.underlying74 N25 (.r rfl) (.r rfl) rfl (by decide) rfl) rfl<|LX.l (fun _ hJ => LO.lda (vs := [_,_]) A25 (.r rfl) (fun _ hw => sub_cells (off := 3) (hCap _ _ _ hJJ (St.inv (hJ _ hw) 0 _ rfl)).x ⟨_, rfl⟩) rfl) rfl<|LX.l (fun _ hJ => LO.mv (.r rfl)) rfl<|LX.l (fun _ hJ => LO.call (xs := [_,_,_,_]) (vs := [_,_,_,_]) C241 ⟨(.r rfl), (.r rfl), (.r rfl), (.r rfl), trivial⟩ (fun w _ => Speed_c t 0 x.s0 k w)) rfl<|LX.l (fun _ hJ => LO.mv (.r rfl)) rfl<|LX.l (fun _ hJ => LO.ex (.r rfl) rfl) rfl<|LX.l (fun _ hJ => LO.ex (.r rfl) rfl) rfl<|LX.s<|LX.s<|LX.l (fun _ hJ => LO.as (.r rfl)) rfl<|LX.nil) (HX.s<|HX.s<|HX.s<|HX.s<|HX.s<|HX.s<|HX.s<|HX.s<|HX.s<|HX.s<|HX.s<|HX.h rfl<|HO.alloc (C := #[_,_]) Z25 rfl fun b4 => ⟨fun _ hw => hw.sel [1] rfl, HX.h0<|HO.st 0 (vs := [_,_]) (C' := [_,_]) (L' := [_,_]) N25 rfl rfl rfl rfl rfl rfl rfl rfl<|⟨fun _ hw => hw.sel [1] rfl, HX.s<|HX.nil ?_⟩⟩)
    refine VE.seqN ?_
    refine VC.seq ?_
    refine VC.reg (VO.l (LO.lda (vs := [_,_]) A25 (.r rfl) (fun _ hw => cells_at hw 0 rfl ⟨_, rfl⟩) rfl) rfl<|VO.l (LO.ld O3 (.r rfl) (fun _ hw => sub_cells (off := 0) (hCap _ _ _ hJJ (St.inv hw 1 _ rfl)).m ⟨_, rfl⟩)) rfl<|VO.l (LO.neg (.r rfl) (wi (by omega) (by omega))) rfl<|VO.l (LO.ld O3 (.r rfl) (fun _ hw => sub_cells (off := 0) (hCap _ _ _ hJJ (St.inv hw 1 _ rfl)).m ⟨_, rfl⟩)) rfl<|VO.l (LO.bd (ps := [(_,_), (_,_)]) (vs := [(_,_), (_,_)]) (C := [_,_]) B25  ⟨(.r rfl), (.r rfl), trivial⟩ rfl ⟨_, [_], [_,_], rfl, rfl, rfl, rfl, ⟨_, [_], [_,_], rfl, rfl, rfl, rfl, rfl⟩⟩) rfl<|VO.l (LO.call (xs := [_,_]) (vs := [_,_]) C122 ⟨(.r rfl), (.r rfl), trivial⟩ (fun w _ => common_c (spdV t 0 x.s0 k) ⟨-most, most⟩ w)) rfl<|VO.l (LO.mv (.r rfl)) rfl<|VO.l (LO.ex (.r rfl) rfl) rfl<|VO.l (LO.ex (.r rfl) rfl) rfl<|VO.h rfl<|HO.alloc (C := #[_,_]) Z25 rfl fun b6 => VO.h0<|HO.st 0 (vs := [_,_]) (C' := [_,_]) (L' := [_,_,_]) N25 rfl rfl rfl rfl rfl rfl rfl rfl<|VO.l (LO.as (.r rfl)) rfl<|VO.nil ?_)
    refine VE.seqN ?_
    refine VC.seq ?_
    refine VC.reg (VO.l (LO.mv (.r rfl)) rfl<|VO.l (LO.mv (.r rfl)) rfl<|VO.lg rfl rfl (GD.t _) (fun hg => LO.mv (.r rfl)) rfl<|VO.lg rfl rfl (GD.t _) (fun hg => LO.mv (.r rfl)) rfl<|VO.lg rfl rfl (GD.t _) (fun hg => LO.lda (vs := [_,_]) A25 (.r rfl) (fun _ hw => cells_at hw 0 rfl ⟨_, rfl⟩) rfl) rfl<|VO.lg rfl rfl (GD.t _) (fun hg => LO.bd (ps := [(_,_), (_,_)]) (vs := [(_,_), (_,_)]) (C := [_,_,_]) B319  ⟨(.g hg rfl), (.g hg rfl), trivial⟩ rfl ⟨_, [_], [_,_,_], rfl, rfl, rfl, rfl, ⟨_, [_,_], [_,_,_], rfl, rfl, rfl, rfl, rfl⟩⟩) rfl<|VO.bc (x := 36) rfl (fun hg5_1 => VO.gT rfl rfl (congrArg Value.bool hg5_1) rfl<|HO.yield 2 (r := r) (vs := [_]) (post := fun b r' => if b = true then J ((optN t x 0 most k).length + 1) r' else Jx ((optN t x 0 most k).length + 1) r') (.g hg5_1 rfl) ⟨.g hg5_1 rfl, trivial⟩ rfl (fun w2 hi hr hs => hyl _ _ (opt_at (by omega) (by omega) (of_decide_eq_true hg5_1)) r w2 hJJ hi hr hs) fun bb1 r1 hp => VO.gT rfl rfl (congrArg Value.bool hg5_1) rfl<|HO.lo (LO.not (.r rfl))<|VO.h rfl<|HO.lo (LO.pkT (.r rfl) hg5_1 (.r rfl))<|VO.nil ?_) (fun hg5_1 => VO.gF rfl rfl hg5_1 rfl<|VO.gF rfl rfl hg5_1 rfl<|VO.h rfl<|HO.lo (LO.pkF (.r rfl) hg5_1 (.r rfl))<|VO.nil ?_))
    ·
      refine VE.seqN ?_
      refine VC.cond rfl (fun h4 => ?_) (fun h4 => ?_)
      ·
        rw [if_neg h4] at hp
        have hE : J ((optN t x 0 most 65).map optV).length r1 ∨ ∃ m, m ≤ ((optN t x 0 most 65).map optV).length ∧ Jx m r1 := .inr ⟨_, opt_le1 (by omega) (by omega) (of_decide_eq_true hg5_1), hp⟩
        refine VC.ret (VE.inR (VE.thenR (VE.thenR (VE.inR (VE.res (vs := []) rfl trivial (fun w hw => ?_))))))
        first | exact ⟨rfl, seq_end hE hw⟩ | exact ⟨rfl, seq_end hE (hw.sel [1] rfl)⟩ | exact ⟨rfl, seq_end hE (hw.sel [2] rfl)⟩
      ·
        try rw [if_pos (by simpa using h4)] at hp
        refine VC.skip (VE.inN (VE.seqN ?_))
        refine VC.reg (VO.l (LO.mv (.r rfl)) rfl<|VO.l (LO.add (.r rfl) (.r rfl) (wi (by omega) (by omega))) rfl<|VO.l (LO.as (.r rfl)) rfl<|VO.nil ?_)
        refine VE.thenN fun a w ha hw => ⟨(k + 1,_), ⟨by omega, by first | (rw [opt_y (by omega) (of_decide_eq_true hg5_1), List.length_append]; exact hp) | (rw [opt_n (by omega) (of_decide_eq_false hg5_1)]; exact hJJ)⟩, by omega, ha.sub (.cons rfl (.cons rfl (.cons rfl (.cons rfl (.cons rfl (.cons rfl .nil)))))), hw.sel [2] rfl⟩
    ·
      refine VE.seqN ?_
      refine VC.cond rfl (fun h4 => ?_) (fun h4 => ?_)
      ·
        (exfalso; exact absurd h4 (by decide))
      ·
        try rw [if_pos (by simpa using h4)] at hp
        refine VC.skip (VE.inN (VE.seqN ?_))
        refine VC.reg (VO.l (LO.mv (.r rfl)) rfl<|VO.l (LO.add (.r rfl) (.r rfl) (wi (by omega) (by omega))) rfl<|VO.l (LO.as (.r rfl)) rfl<|VO.nil ?_)
        refine VE.thenN fun a w ha hw => ⟨(k + 1,_), ⟨by omega, by first | (rw [opt_y (by omega) (of_decide_eq_true hg5_1), List.length_append]; exact hp) | (rw [opt_n (by omega) (of_decide_eq_false hg5_1)]; exact hJJ)⟩, by omega, ha.sub (.cons rfl (.cons rfl (.cons rfl (.cons rfl (.cons rfl (.cons rfl .nil)))))), hw.sel [2] rfl⟩
  ·
    have hE : J ((optN t x 0 most 65).map optV).length r ∨ ∃ m, m ≤ ((optN t x 0 most 65).map optV).length ∧ Jx m r := .inl (by rw [List.length_map, ← show k = 65 by omega]; exact hJJ)
    refine VC.exit (VE.thenX (VE.thenX (VE.inX (VE.resN (vs := []) rfl trivial (fun w hw => ?_)))))
    first | exact ⟨rfl, seq_end hE hw⟩ | exact ⟨rfl, seq_end hE (hw.sel [1] rfl)⟩ | exact ⟨rfl, seq_end hE (hw.sel [2] rfl)⟩

set_option maxRecDepth 20000 in
theorem opts1_seq (t : Train) (x : Echo) (most : Int) (q : Nat × Nat × Nat × Nat) (hm : 1 ≤ most ∧ most ≤ 60000) :
  SeqC Tryz.prog 240 [.pointer (some ⟨q.1,0, none⟩), .pointer (some ⟨q.2.1,0, none⟩), .pointer (some ⟨q.2.2.1,0, none⟩), .pointer (some ⟨q.2.2.2,0, none⟩)] (OptC t x 1 most q) ((optN t x 1 most 65).map optV) := by
  intro l0 J Jx w r hCap hyl hJJ hi0 hf0
  refine enterO (vs := [_,_,_,_,_]) (env := [(0,_), (1,_), (2,_), (3,_), (4,_)]) (St.one hi0 hf0) Tryz.func240 rfl rfl rfl rfl ?_
  refine VC.seq ?_
  refine VC.reg (VO.l (LO.as (.r rfl)) rfl<|VO.nil ?_)
  refine VE.seqN ?_
  refine VC.block ?_
  refine VC.loopK (α := Int × Res) 1 (fun x_ => [(6, .int .i64 x_.1)]) [(0,_), (1,_), (2,_), (3,_), (4,_)] (fun x_ => [x_.2]) (fun x_ => (-64 ≤ x_.1 ∧ x_.1 ≤ 65) ∧ J (optN t x 1 most x_.1).length x_.2) (fun x_ => (65 - x_.1).toNat) (-64, r) (by exact ⟨by omega, hJJ⟩) (.cons rfl (.cons rfl (.cons rfl (.cons rfl (.cons rfl (.cons rfl .nil)))))) (fun _ h => h) ?_
  rintro ⟨k, r⟩ ⟨hi, hJJ⟩
  show VC _ _ _ _ _ ([(6, .int .i64 k)] ++ _) ([r] ++ _) _ _
  refine VC.seq ?_
  refine VC.seq ?_
  refine VC.reg (VO.l (LO.mv (.r rfl)) rfl<|VO.l (LO.le (.r rfl) (.r rfl)) rfl<|VO.nil ?_)
  refine VE.seqN ?_
  refine VC.cond rfl (fun h1 => ?_) (fun h1 => ?_)
  ·
    refine VC.skip (VE.seqN ?_)
    refine VC.seq ?_
    refine VC.block ?_
    refine VC.seq ?_
    refine VC.drawH [[0], [0], [0]] [some 1, some 1, some 1, some 1, some 1, some 1, some 1, some 1, some 1, some 1, some 2, none, none, some 2] mixed (by kernel_rfl) rfl (LX.l (fun _ hJ => LO.lda (vs := [_,_,_,_,_]) A23 (.r rfl) (fun _ hw => sub_cells (off := 0) (hCap _ _ _ hJJ (St.inv (hJ _ hw) 0 _ rfl)).t ⟨_, rfl⟩) rfl) rfl<|LX.l (fun _ hJ => LO.ld O3 (.r rfl) (fun _ hw => sub_cells (off := 0) (hCap _ _ _ hJJ (St.inv (hJ _ hw) 0 _ rfl)).wh ⟨_, rfl⟩)) rfl<|LX.l (fun _ hJ => LO.ld O3 (.r rfl) (fun _ hw => sub_cells (off := 0) (hCap _ _ _ hJJ (St.inv (hJ _ hw) 0 _ rfl)).wh ⟨_, rfl⟩)) rfl<|LX.l (fun _ hJ => LO.fa (r := 3) F76_2 (.r rfl) rfl) rfl<|LX.l (fun _ hJ => LO.ixa (j := 1) (r := 5) Tryz.underlying74 N25 (.r rfl) (.r rfl) rfl (by decide) rfl) rfl<|LX.l (fun _ hJ => LO.lda (vs := [_,_]) A25 (.r rfl) (fun _ hw => sub_cells (off := 5) (hCap _ _ _ hJJ (St.inv (hJ _ hw) 0 _ rfl)).x ⟨_, rfl⟩) rfl) rfl<|LX.l (fun _ hJ => LO.mv (.r rfl)) rfl<|LX.l (fun _ hJ => LO.call (xs := [_,_,_,_]) (vs := [_,_,_,_]) C241 ⟨(.r rfl), (.r rfl), (.r rfl), (.r rfl), trivial⟩ (fun w _ => Speed_c t 1 x.s1 k w)) rfl<|LX.l (fun _ hJ => LO.mv (.r rfl)) rfl<|LX.l (fun _ hJ => LO.ex (.r rfl) rfl) rfl<|LX.l (fun _ hJ => LO.ex (.r rfl) rfl) rfl<|LX.s<|LX.s<|LX.l (fun _ hJ => LO.as (.r rfl)) rfl<|LX.nil) (HX.s<|HX.s<|HX.s<|HX.s<|HX.s<|HX.s<|HX.s<|HX.s<|HX.s<|HX.s<|HX.s<|HX.h rfl<|HO.alloc (C := #[_,_]) Z25 rfl fun b4 => ⟨fun _ hw => hw.sel [1] rfl, HX.h0<|HO.st 0 (vs := [_,_]) (C' := [_,_]) (L' := [_,_]) N25 rfl rfl rfl rfl rfl rfl rfl rfl<|⟨fun _ hw => hw.sel [1] rfl, HX.s<|HX.nil ?_⟩⟩)
    refine VE.seqN ?_
    refine VC.seq ?_
    refine VC.reg (VO.l (LO.lda (vs := [_,_]) A25 (.r rfl) (fun _ hw => cells_at hw 0 rfl ⟨_, rfl⟩) rfl) rfl<|VO.l (LO.ld O3 (.r rfl) (fun _ hw => sub_cells (off := 0) (hCap _ _ _ hJJ (St.inv hw 1 _ rfl)).m ⟨_, rfl⟩)) rfl<|VO.l (LO.neg (.r rfl) (wi (by omega) (by omega))) rfl<|VO.l (LO.ld O3 (.r rfl) (fun _ hw => sub_cells (off := 0) (hCap _ _ _ hJJ (St.inv hw 1 _ rfl)).m ⟨_, rfl⟩)) rfl<|VO.l (LO.bd (ps := [(_,_), (_,_)]) (vs := [(_,_), (_,_)]) (C := [_,_]) B25  ⟨(.r rfl), (.r rfl), trivial⟩ rfl ⟨_, [_], [_,_], rfl, rfl, rfl, rfl, ⟨_, [_], [_,_], rfl, rfl, rfl, rfl, rfl⟩⟩) rfl<|VO.l (LO.call (xs := [_,_]) (vs := [_,_]) C122 ⟨(.r rfl), (.r rfl), trivial⟩ (fun w _ => common_c (spdV t 1 x.s1 k) ⟨-most, most⟩ w)) rfl<|VO.l (LO.mv (.r rfl)) rfl<|VO.l (LO.ex (.r rfl) rfl) rfl<|VO.l (LO.ex (.r rfl) rfl) rfl<|VO.h rfl<|HO.alloc (C := #[_,_]) Z25 rfl fun b6 => VO.h0<|HO.st 0 (vs := [_,_]) (C' := [_,_]) (L' := [_,_,_]) N25 rfl rfl rfl rfl rfl rfl rfl rfl<|VO.l (LO.as (.r rfl)) rfl<|VO.nil ?_)
    refine VE.seqN ?_
    refine VC.seq ?_
    refine VC.reg (VO.l (LO.mv (.r rfl)) rfl<|VO.l (LO.mv (.r rfl)) rfl<|VO.lg rfl rfl (GD.t _) (fun hg => LO.mv (.r rfl)) rfl<|VO.lg rfl rfl (GD.t _) (fun hg => LO.mv (.r rfl)) rfl<|VO.lg rfl rfl (GD.t _) (fun hg => LO.lda (vs := [_,_]) A25 (.r rfl) (fun _ hw => cells_at hw 0 rfl ⟨_, rfl⟩) rfl) rfl<|VO.lg rfl rfl (GD.t _) (fun hg => LO.bd (ps := [(_,_), (_,_)]) (vs := [(_,_), (_,_)]) (C := [_,_,_]) B319  ⟨(.g hg rfl), (.g hg rfl), trivial⟩ rfl ⟨_, [_], [_,_,_], rfl, rfl, rfl, rfl, ⟨_, [_,_], [_,_,_], rfl, rfl, rfl, rfl, rfl⟩⟩) rfl<|VO.bc (x := 36) rfl (fun hg5_1 => VO.gT rfl rfl (congrArg Value.bool hg5_1) rfl<|HO.yield 2 (r := r) (vs := [_]) (post := fun b r' => if b = true then J ((optN t x 1 most k).length + 1) r' else Jx ((optN t x 1 most k).length + 1) r') (.g hg5_1 rfl) ⟨.g hg5_1 rfl, trivial⟩ rfl (fun w2 hi hr hs => hyl _ _ (opt_at (by omega) (by omega) (of_decide_eq_true hg5_1)) r w2 hJJ hi hr hs) fun bb1 r1 hp => VO.gT rfl rfl (congrArg Value.bool hg5_1) rfl<|HO.lo (LO.not (.r rfl))<|VO.h rfl<|HO.lo (LO.pkT (.r rfl) hg5_1 (.r rfl))<|VO.nil ?_) (fun hg5_1 => VO.gF rfl rfl hg5_1 rfl<|VO.gF rfl rfl hg5_1 rfl<|VO.h rfl<|HO.lo (LO.pkF (.r rfl) hg5_1 (.r rfl))<|VO.nil ?_))
    ·
      refine VE.seqN ?_
      refine VC.cond rfl (fun h4 => ?_) (fun h4 => ?_)
      ·
        rw [if_neg h4] at hp
        have hE : J ((optN t x 1 most 65).map optV).length r1 ∨ ∃ m, m ≤ ((optN t x 1 most 65).map optV).length ∧ Jx m r1 := .inr ⟨_, opt_le1 (by omega) (by omega) (of_decide_eq_true hg5_1), hp⟩
        refine VC.ret (VE.inR (VE.thenR (VE.thenR (VE.inR (VE.res (vs := []) rfl trivial (fun w hw => ?_))))))
        first | exact ⟨rfl, seq_end hE hw⟩ | exact ⟨rfl, seq_end hE (hw.sel [1] rfl)⟩ | exact ⟨rfl, seq_end hE (hw.sel [2] rfl)⟩
      ·
        try rw [if_pos (by simpa using h4)] at hp
        refine VC.skip (VE.inN (VE.seqN ?_))
        refine VC.reg (VO.l (LO.mv (.r rfl)) rfl<|VO.l (LO.add (.r rfl) (.r rfl) (wi (by omega) (by omega))) rfl<|VO.l (LO.as (.r rfl)) rfl<|VO.nil ?_)
        refine VE.thenN fun a w ha hw => ⟨(k + 1,_), ⟨by omega, by first | (rw [opt_y (by omega) (of_decide_eq_true hg5_1), List.length_append]; exact hp) | (rw [opt_n (by omega) (of_decide_eq_false hg5_1)]; exact hJJ)⟩, by omega, ha.sub (.cons rfl (.cons rfl (.cons rfl (.cons rfl (.cons rfl (.cons rfl .nil)))))), hw.sel [2] rfl⟩
    ·
      refine VE.seqN ?_
      refine VC.cond rfl (fun h4 => ?_) (fun h4 => ?_)
      ·
        (exfalso; exact absurd h4 (by decide))
      ·
        try rw [if_pos (by simpa using h4)] at hp
        refine VC.skip (VE.inN (VE.seqN ?_))
        refine VC.reg (VO.l (LO.mv (.r rfl)) rfl<|VO.l (LO.add (.r rfl) (.r rfl) (wi (by omega) (by omega))) rfl<|VO.l (LO.as (.r rfl)) rfl<|VO.nil ?_)
        refine VE.thenN fun a w ha hw => ⟨(k + 1,_), ⟨by omega, by first | (rw [opt_y (by omega) (of_decide_eq_true hg5_1), List.length_append]; exact hp) | (rw [opt_n (by omega) (of_decide_eq_false hg5_1)]; exact hJJ)⟩, by omega, ha.sub (.cons rfl (.cons rfl (.cons rfl (.cons rfl (.cons rfl (.cons rfl .nil)))))), hw.sel [2] rfl⟩
  ·
    have hE : J ((optN t x 1 most 65).map optV).length r ∨ ∃ m, m ≤ ((optN t x 1 most 65).map optV).length ∧ Jx m r := .inl (by rw [List.length_map, ← show k = 65 by omega]; exact hJJ)
    refine VC.exit (VE.thenX (VE.thenX (VE.inX (VE.resN (vs := []) rfl trivial (fun w hw => ?_)))))
    first | exact ⟨rfl, seq_end hE hw⟩ | exact ⟨rfl, seq_end hE (hw.sel [1] rfl)⟩ | exact ⟨rfl, seq_end hE (hw.sel [2] rfl)⟩

set_option maxRecDepth 20000 in
theorem list0_c (t : Train) (x : Echo) (most : Int) (hm : 1 ≤ most ∧ most ≤ 60000) (w : World) :
  Calls Tryz.prog 121 #[trainV t, echoV x, .int .i64 0, .int .i64 most] w fun e w' => ∃ y : Option Addr × Nat, True ∧ e = .returned (.tuple #[.slice y.1 (lstV t x 0 most).length y.2, .bool (lstB t x 0 most)]) ∧ St (bs w) [own 319 3 y.1 y.2 ((lstV t x 0 most).map optC)] w' := by
  refine enter (vs := [_,_,_,_]) (env := [(0,_), (1,_), (2,_), (3,_)]) Tryz.func121 rfl rfl rfl rfl ?_
  refine VC.seq ?_
  refine VC.dm0 ?_
  refine VC.reg (VO.h rfl<|HO.box (C := #[_,_,_,_,_]) rfl rfl fun b2 => VO.h rfl<|HO.box (C := #[_,_,_,_,_,_,_,_,_,_,_,_,_,_]) rfl rfl fun b3 => VO.l (LO.as (.r rfl)) rfl<|VO.l (LO.as (.r rfl)) rfl<|VO.nil ?_)
  refine VE.seqN ?_
  refine VC.seq ?_
  refine VC.reg (VO.h rfl<|HO.alloc (C := #[_]) Z315 rfl fun b4 => VO.nil ?_)
  refine VE.seqN ?_
  refine VC.seq ?_
  refine VC.seq ?_
  refine VC.res (fun _ h => h.ownNil 319 3) ?_
  show VC _ _ _ _ _ _ [_,_,_,_,_] _ _
  refine VC.reg (VO.l (LO.lda (vs := [_,_,_,_,_]) A23 (.r rfl) (fun _ hw => cells_at hw 3 rfl ⟨_, rfl⟩) rfl) rfl<|VO.l (LO.lda (vs := [_,_,_,_,_,_,_,_,_,_,_,_,_,_]) A76 (.r rfl) (fun _ hw => cells_at hw 2 rfl ⟨_, rfl⟩) rfl) rfl<|VO.l (LO.mv (.r rfl)) rfl<|VO.l (LO.mv (.r rfl)) rfl<|VO.h rfl<|HO.callx (xs := [_,_,_,_]) (vs := [_,_,_,_]) C194 ⟨(.r rfl), (.r rfl), (.r rfl), (.r rfl), trivial⟩ (fun w _ => options_c t x 0 most w) fun q _ => VO.nil ?_)
  refine VE.seqN ?_
  refine VC.block ?_
  refine VC.rangeFuncN (α := (List Opt) × (Option Addr) × Nat) (γ := Nat) [_,_,_,_,_,_] (fun gx => [own 319 3 gx.2.1 gx.2.2 (gx.1.map optC), blk b4 (.cells #[.slice gx.2.1 gx.1.length gx.2.2] 315)]) (fun n_ gx => gx.1 = (optN t x 0 most 65).take n_) (fun _ _ _ => False) ([], none, 0) (fun vs y_ => [blk y_ (.cells (vs.getD 0 (.bool false)).cells 319)]) (fun vs y_ => [(11, .pointer (some ⟨y_, 0, none⟩)), (10, .pointer (some ⟨b4,0, none⟩))]) rfl C240 (opts0_seq t x most q hm) (selK [4,5,0,1,2,3,6,7,8] rfl rfl) (rfl) (fun vs hv => by obtain ⟨n,_, rfl⟩ := List.mem_map.1 hv; rfl) (by decide) (fun n x2 w2 _ h h3 => ⟨cells_inv (h 5 _ rfl), cells_inv (h 3 _ rfl), cells_inv (h 4 _ rfl), cells_inv (h 2 _ rfl)⟩) ?_ ?_ ?_ (fun _ _ _ _ _ h => h.elim)
  ·
    rintro n_ ⟨o, po, co⟩ vs__ l_ T w1 hI hxs hst
    obtain ⟨o1, rfl, ho1⟩ := opt_row hxs
    dsimp only at hI
    have hlen : o.length ≤ 129 := by rw [hI, List.length_take]; exact Nat.le_trans (Nat.min_le_right _ _) opt_len
    show VC _ _ _ _ _ _ ([own 319 3 po co (o.map optC), blk b4 (.cells #[.slice po o.length co] 315),_,_,_,_,_,_] ++ T) _ _
    refine VC.reg (VO.h rfl<|HO.alloc (C := #[_,_,_]) Z319 rfl fun b19 => VO.h0<|HO.st 0 (vs := [_,_,_]) (C' := [_,_,_]) N319 rfl rfl rfl rfl rfl rfl rfl rfl<|VO.nil ?_)
    exact fun a w ha hw => ⟨rfl, b19, ha.sub (.cons rfl (.cons rfl .nil)), selKT (L := [_,_,_,_,_,_,_,_,_]) (L1 := [_,_,_,_,_,_,_,_,_]) (L2 := []) (X := T) [0,1,2,3,4,5,6,7,8] rfl rfl rfl w hw⟩
  ·
    rintro n_ ⟨o, po, co⟩ vs__ b21 l_ T w1 hI hxs hst
    obtain ⟨o1, rfl, ho1⟩ := opt_row hxs
    dsimp only at hI
    have hlen : o.length ≤ 129 := by rw [hI, List.length_take]; exact Nat.le_trans (Nat.min_le_right _ _) opt_len
    show VC _ _ _ _ _ _ ([blk b21 (.cells #[.int .i64 o1.wh, .int .i64 o1.s.lo, .int .i64 o1.s.hi] 319), own 319 3 po co (o.map optC), blk b4 (.cells #[.slice po o.length co] 315),_,_,_,_,_,_] ++ T) _ _
    refine VC.block ?_
    refine VC.reg (VO.l (LO.ld O315 (.r rfl) (fun _ hw => cells_at hw 2 rfl ⟨_, rfl⟩)) rfl<|VO.l (LO.lda (vs := [_,_,_]) A319 (.r rfl) (fun _ hw => cells_at hw 0 rfl ⟨_, rfl⟩) rfl) rfl<|VO.h rfl<|HO.bs (ps := [(_,_)]) (vs := [(_,_)]) (Z := [_,_,_]) (C := [_,_,_]) S315 Z319 N319 ⟨(.r rfl), trivial⟩ rfl rfl rfl rfl ⟨_, [_,_,_], [_,_,_], rfl, rfl, rfl, rfl, rfl⟩ fun b30 => VO.h rfl<|HO.appT (o1) 2 0 (fun R => [_,_, R,_,_,_,_,_,_,_] ++ T) S315 S315 I319 (.r rfl) (.r rfl) rfl rfl rfl rfl rfl rfl rfl (fun _ => rfl) rfl (by omega) fun p3 c3 => VO.h0<|HO.st 3 (vs := [_]) (C' := [_]) N315 rfl rfl rfl rfl rfl rfl rfl rfl<|VO.nil ?_)
    refine VE.inN ?_
    exact fun a w ha hw => ⟨(o ++ [o1], p3, c3), (by dsimp only at hI ⊢; rw [hI, take_at ho1]), selKT (L := [_,_,_,_,_,_,_,_,_,_]) (L1 := [_,_,_,_,_,_,_,_]) (L2 := []) (X := T) [2,3,4,5,6,7,8,9] rfl rfl rfl w hw⟩
  ·
    rintro D_ ⟨o, po, co⟩ hI
    dsimp only at hI
    rw [List.length_map, List.take_length] at hI
    have hlen : o.length ≤ 129 := by rw [hI]; exact opt_len
    show VE _ _ _ _ [own 319 3 po co (o.map optC), blk b4 (.cells #[.slice po o.length co] 315),_,_,_,_,_,_,_] _ _
    refine VE.inN (VE.seqN ?_)
    refine VC.seq ?_
    refine VC.seq ?_
    refine VC.reg (VO.l (LO.ld O315 (.r rfl) (fun _ hw => cells_at hw 1 rfl ⟨_, rfl⟩)) rfl<|VO.l (LO.len S315 (.r rfl) rfl) rfl<|VO.l (LO.as (.r rfl)) rfl<|VO.nil ?_)
    refine VE.seqN ?_
    refine VC.seq ?_
    refine VC.reg (VO.l (LO.mv (.r rfl)) rfl<|VO.l (LO.gt (.r rfl) (.r rfl)) rfl<|VO.l (LO.mv (.r rfl)) rfl<|VO.lg rfl rfl (GD.t _) (fun hg => LO.ld O315 (.r rfl) (fun _ hw => cells_at hw 1 rfl ⟨_, rfl⟩)) rfl<|VO.lg rfl rfl (GD.t _) (fun hg => LO.ixo S315 N319 (fun _ hw => (own_rows hw 0 rfl).some (by rw [List.length_map])) (.g hg rfl) (.r rfl) (j := 0) rfl (by first | (have := of_decide_eq_true hg; omega) | (have := of_decide_eq_true (and_l hg); omega))) rfl<|VO.lg rfl rfl (GD.t _) (fun hg => LO.fa F319_0 (.g hg rfl) rfl) rfl<|VO.lg rfl rfl (GD.t _) (fun hg => LO.ld O3 (.g hg rfl) (fun w hw => cells_part (off := 0) (own_cell hw 0 rfl (getD_some (d := zO) (i := 0) (by first | (have := of_decide_eq_true hg; omega) | (have := of_decide_eq_true (and_l hg); omega)))) ⟨_, rfl⟩)) rfl<|VO.lg rfl rfl (GD.t _) (fun hg => LO.eq (.g hg rfl) (.r rfl)) rfl<|VO.lg rfl rfl (GD.t _) (fun hg => LO.mv (.g hg rfl)) rfl<|VO.lg rfl rfl (GD.nf _ _) (fun hg => LO.ld O315 (.r rfl) (fun _ hw => cells_at hw 1 rfl ⟨_, rfl⟩)) rfl<|VO.lg rfl rfl (GD.nf _ _) (fun hg => LO.mv (.r rfl)) rfl<|VO.lg rfl rfl (GD.nf _ _) (fun hg => LO.sub (.g hg rfl) (.r rfl) (wi (by omega) (by omega))) rfl<|VO.lg rfl rfl (GD.nf _ _) (fun hg => LO.ixo S315 N319 (fun _ hw => (own_rows hw 0 rfl).some (by rw [List.length_map])) (.g hg rfl) (.g hg rfl) (j := o.length - 1) (by first | (have := of_decide_eq_true hg; omega) | (have := of_decide_eq_true (and_l hg); omega)) (by first | (have := of_decide_eq_true hg; omega) | (have := of_decide_eq_true (and_l hg); omega))) rfl<|VO.lg rfl rfl (GD.nf _ _) (fun hg => LO.fa F319_0 (.g hg rfl) rfl) rfl<|VO.lg rfl rfl (GD.nf _ _) (fun hg => LO.ld O3 (.g hg rfl) (fun w hw => cells_part (off := 0) (own_cell hw 0 rfl (getD_some (d := zO) (i := o.length - 1) (by first | (have := of_decide_eq_true hg; omega) | (have := of_decide_eq_true (and_l hg); omega)))) ⟨_, rfl⟩)) rfl<|VO.lg rfl rfl (GD.nf _ _) (fun hg => LO.eq (.g hg rfl) (.r rfl)) rfl<|VO.lg rfl rfl (GD.t _) (fun hg => LO.pkO (.g hg rfl) (.r rfl) rfl (and_e hg)) rfl<|VO.l (LO.pkA (.r rfl) rfl rfl (.r rfl)) rfl<|VO.nil ?_)
    refine VE.seqN ?_
    refine VC.cond rfl (fun h42 => ?_) (fun h42 => ?_)
    ·
      refine VC.seq ?_
      refine VC.reg (VO.l (LO.as (.r rfl)) rfl<|VO.l (LO.as (.r rfl)) rfl<|VO.nil ?_)
      refine VE.seqN ?_
      refine VC.ret (VE.thenR (VE.resDm (vs := [_,_]) (A := [_,_,_,_,_,_,_,_]) rfl (selK [8,0,1,2,3,4,5,6,7] rfl rfl) ⟨rfl, rfl, trivial⟩ (fun w hw => ?_)))
      subst hI
      first | exact ⟨(none, 0), trivial, by rw [(lst_n (by omega)).1, (lst_n (by omega)).2]; rfl, by rw [(lst_n (by omega)).2]; exact hw.nil.ownNil 319 3⟩ | exact ⟨(po, co), trivial, by rw [(lst_y (by omega)).1, (lst_y (by omega)).2]; rfl, by rw [(lst_y (by omega)).2]; exact hw.sel [0] rfl⟩
    ·
      refine VC.skip (VE.seqN ?_)
      refine VC.seq ?_
      refine VC.reg (VO.l (LO.ld O315 (.r rfl) (fun _ hw => cells_at hw 1 rfl ⟨_, rfl⟩)) rfl<|VO.l (LO.as (.r rfl)) rfl<|VO.l (LO.as (.r rfl)) rfl<|VO.nil ?_)
      refine VE.seqN ?_
      refine VC.ret (VE.resDm (vs := [_,_]) (A := [_,_,_,_,_,_,_,_]) rfl (selK [8,0,1,2,3,4,5,6,7] rfl rfl) ⟨rfl, rfl, trivial⟩ (fun w hw => ?_))
      subst hI
      first | exact ⟨(none, 0), trivial, by rw [(lst_n (by omega)).1, (lst_n (by omega)).2]; rfl, by rw [(lst_n (by omega)).2]; exact hw.nil.ownNil 319 3⟩ | exact ⟨(po, co), trivial, by rw [(lst_y (by omega)).1, (lst_y (by omega)).2]; rfl, by rw [(lst_y (by omega)).2]; exact hw.sel [0] rfl⟩

set_option maxRecDepth 20000 in
theorem list1_c (t : Train) (x : Echo) (most : Int) (hm : 1 ≤ most ∧ most ≤ 60000) (w : World) :
  Calls Tryz.prog 121 #[trainV t, echoV x, .int .i64 1, .int .i64 most] w fun e w' => ∃ y : Option Addr × Nat, True ∧ e = .returned (.tuple #[.slice y.1 (lstV t x 1 most).length y.2, .bool (lstB t x 1 most)]) ∧ St (bs w) [own 319 3 y.1 y.2 ((lstV t x 1 most).map optC)] w' := by
  refine enter (vs := [_,_,_,_]) (env := [(0,_), (1,_), (2,_), (3,_)]) Tryz.func121 rfl rfl rfl rfl ?_
  refine VC.seq ?_
  refine VC.dm0 ?_
  refine VC.reg (VO.h rfl<|HO.box (C := #[_,_,_,_,_]) rfl rfl fun b2 => VO.h rfl<|HO.box (C := #[_,_,_,_,_,_,_,_,_,_,_,_,_,_]) rfl rfl fun b3 => VO.l (LO.as (.r rfl)) rfl<|VO.l (LO.as (.r rfl)) rfl<|VO.nil ?_)
  refine VE.seqN ?_
  refine VC.seq ?_
  refine VC.reg (VO.h rfl<|HO.alloc (C := #[_]) Z315 rfl fun b4 => VO.nil ?_)
  refine VE.seqN ?_
  refine VC.seq ?_
  refine VC.seq ?_
  refine VC.res (fun _ h => h.ownNil 319 3) ?_
  show VC _ _ _ _ _ _ [_,_,_,_,_] _ _
  refine VC.reg (VO.l (LO.lda (vs := [_,_,_,_,_]) A23 (.r rfl) (fun _ hw => cells_at hw 3 rfl ⟨_, rfl⟩) rfl) rfl<|VO.l (LO.lda (vs := [_,_,_,_,_,_,_,_,_,_,_,_,_,_]) A76 (.r rfl) (fun _ hw => cells_at hw 2 rfl ⟨_, rfl⟩) rfl) rfl<|VO.l (LO.mv (.r rfl)) rfl<|VO.l (LO.mv (.r rfl)) rfl<|VO.h rfl<|HO.callx (xs := [_,_,_,_]) (vs := [_,_,_,_]) C194 ⟨(.r rfl), (.r rfl), (.r rfl), (.r rfl), trivial⟩ (fun w _ => options_c t x 1 most w) fun q _ => VO.nil ?_)
  refine VE.seqN ?_
  refine VC.block ?_
  refine VC.rangeFuncN (α := (List Opt) × (Option Addr) × Nat) (γ := Nat) [_,_,_,_,_,_] (fun gx => [own 319 3 gx.2.1 gx.2.2 (gx.1.map optC), blk b4 (.cells #[.slice gx.2.1 gx.1.length gx.2.2] 315)]) (fun n_ gx => gx.1 = (optN t x 1 most 65).take n_) (fun _ _ _ => False) ([], none, 0) (fun vs y_ => [blk y_ (.cells (vs.getD 0 (.bool false)).cells 319)]) (fun vs y_ => [(11, .pointer (some ⟨y_, 0, none⟩)), (10, .pointer (some ⟨b4,0, none⟩))]) rfl C240 (opts1_seq t x most q hm) (selK [4,5,0,1,2,3,6,7,8] rfl rfl) (rfl) (fun vs hv => by obtain ⟨n,_, rfl⟩ := List.mem_map.1 hv; rfl) (by decide) (fun n x2 w2 _ h h3 => ⟨cells_inv (h 5 _ rfl), cells_inv (h 3 _ rfl), cells_inv (h 4 _ rfl), cells_inv (h 2 _ rfl)⟩) ?_ ?_ ?_ (fun _ _ _ _ _ h => h.elim)
  ·
    rintro n_ ⟨o, po, co⟩ vs__ l_ T w1 hI hxs hst
    obtain ⟨o1, rfl, ho1⟩ := opt_row hxs
    dsimp only at hI
    have hlen : o.length ≤ 129 := by rw [hI, List.length_take]; exact Nat.le_trans (Nat.min_le_right _ _) opt_len
    show VC _ _ _ _ _ _ ([own 319 3 po co (o.map optC), blk b4 (.cells #[.slice po o.length co] 315),_,_,_,_,_,_] ++ T) _ _
    refine VC.reg (VO.h rfl<|HO.alloc (C := #[_,_,_]) Z319 rfl fun b19 => VO.h0<|HO.st 0 (vs := [_,_,_]) (C' := [_,_,_]) N319 rfl rfl rfl rfl rfl rfl rfl rfl<|VO.nil ?_)
    exact fun a w ha hw => ⟨rfl, b19, ha.sub (.cons rfl (.cons rfl .nil)), selKT (L := [_,_,_,_,_,_,_,_,_]) (L1 := [_,_,_,_,_,_,_,_,_]) (L2 := []) (X := T) [0,1,2,3,4,5,6,7,8] rfl rfl rfl w hw⟩
  ·
    rintro n_ ⟨o, po, co⟩ vs__ b21 l_ T w1 hI hxs hst
    obtain ⟨o1, rfl, ho1⟩ := opt_row hxs
    dsimp only at hI
    have hlen : o.length ≤ 129 := by rw [hI, List.length_take]; exact Nat.le_trans (Nat.min_le_right _ _) opt_len
    show VC _ _ _ _ _ _ ([blk b21 (.cells #[.int .i64 o1.wh, .int .i64 o1.s.lo, .int .i64 o1.s.hi] 319), own 319 3 po co (o.map optC), blk b4 (.cells #[.slice po o.length co] 315),_,_,_,_,_,_] ++ T) _ _
    refine VC.block ?_
    refine VC.reg (VO.l (LO.ld O315 (.r rfl) (fun _ hw => cells_at hw 2 rfl ⟨_, rfl⟩)) rfl<|VO.l (LO.lda (vs := [_,_,_]) A319 (.r rfl) (fun _ hw => cells_at hw 0 rfl ⟨_, rfl⟩) rfl) rfl<|VO.h rfl<|HO.bs (ps := [(_,_)]) (vs := [(_,_)]) (Z := [_,_,_]) (C := [_,_,_]) S315 Z319 N319 ⟨(.r rfl), trivial⟩ rfl rfl rfl rfl ⟨_, [_,_,_], [_,_,_], rfl, rfl, rfl, rfl, rfl⟩ fun b30 => VO.h rfl<|HO.appT (o1) 2 0 (fun R => [_,_, R,_,_,_,_,_,_,_] ++ T) S315 S315 I319 (.r rfl) (.r rfl) rfl rfl rfl rfl rfl rfl rfl (fun _ => rfl) rfl (by omega) fun p3 c3 => VO.h0<|HO.st 3 (vs := [_]) (C' := [_]) N315 rfl rfl rfl rfl rfl rfl rfl rfl<|VO.nil ?_)
    refine VE.inN ?_
    exact fun a w ha hw => ⟨(o ++ [o1], p3, c3), (by dsimp only at hI ⊢; rw [hI, take_at ho1]), selKT (L := [_,_,_,_,_,_,_,_,_,_]) (L1 := [_,_,_,_,_,_,_,_]) (L2 := []) (X := T) [2,3,4,5,6,7,8,9] rfl rfl rfl w hw⟩
  ·
    rintro D_ ⟨o, po, co⟩ hI
    dsimp only at hI
    rw [List.length_map, List.take_length] at hI
    have hlen : o.length ≤ 129 := by rw [hI]; exact opt_len
    show VE _ _ _ _ [own 319 3 po co (o.map optC), blk b4 (.cells #[.slice po o.length co] 315),_,_,_,_,_,_,_] _ _
    refine VE.inN (VE.seqN ?_)
    refine VC.seq ?_
    refine VC.seq ?_
    refine VC.reg (VO.l (LO.ld O315 (.r rfl) (fun _ hw => cells_at hw 1 rfl ⟨_, rfl⟩)) rfl<|VO.l (LO.len S315 (.r rfl) rfl) rfl<|VO.l (LO.as (.r rfl)) rfl<|VO.nil ?_)
    refine VE.seqN ?_
    refine VC.seq ?_
    refine VC.reg (VO.l (LO.mv (.r rfl)) rfl<|VO.l (LO.gt (.r rfl) (.r rfl)) rfl<|VO.l (LO.mv (.r rfl)) rfl<|VO.lg rfl rfl (GD.t _) (fun hg => LO.ld O315 (.r rfl) (fun _ hw => cells_at hw 1 rfl ⟨_, rfl⟩)) rfl<|VO.lg rfl rfl (GD.t _) (fun hg => LO.ixo S315 N319 (fun _ hw => (own_rows hw 0 rfl).some (by rw [List.length_map])) (.g hg rfl) (.r rfl) (j := 0) rfl (by first | (have := of_decide_eq_true hg; omega) | (have := of_decide_eq_true (and_l hg); omega))) rfl<|VO.lg rfl rfl (GD.t _) (fun hg => LO.fa F319_0 (.g hg rfl) rfl) rfl<|VO.lg rfl rfl (GD.t _) (fun hg => LO.ld O3 (.g hg rfl) (fun w hw => cells_part (off := 0) (own_cell hw 0 rfl (getD_some (d := zO) (i := 0) (by first | (have := of_decide_eq_true hg; omega) | (have := of_decide_eq_true (and_l hg); omega)))) ⟨_, rfl⟩)) rfl<|VO.lg rfl rfl (GD.t _) (fun hg => LO.eq (.g hg rfl) (.r rfl)) rfl<|VO.lg rfl rfl (GD.t _) (fun hg => LO.mv (.g hg rfl)) rfl<|VO.lg rfl rfl (GD.nf _ _) (fun hg => LO.ld O315 (.r rfl) (fun _ hw => cells_at hw 1 rfl ⟨_, rfl⟩)) rfl<|VO.lg rfl rfl (GD.nf _ _) (fun hg => LO.mv (.r rfl)) rfl<|VO.lg rfl rfl (GD.nf _ _) (fun hg => LO.sub (.g hg rfl) (.r rfl) (wi (by omega) (by omega))) rfl<|VO.lg rfl rfl (GD.nf _ _) (fun hg => LO.ixo S315 N319 (fun _ hw => (own_rows hw 0 rfl).some (by rw [List.length_map])) (.g hg rfl) (.g hg rfl) (j := o.length - 1) (by first | (have := of_decide_eq_true hg; omega) | (have := of_decide_eq_true (and_l hg); omega)) (by first | (have := of_decide_eq_true hg; omega) | (have := of_decide_eq_true (and_l hg); omega))) rfl<|VO.lg rfl rfl (GD.nf _ _) (fun hg => LO.fa F319_0 (.g hg rfl) rfl) rfl<|VO.lg rfl rfl (GD.nf _ _) (fun hg => LO.ld O3 (.g hg rfl) (fun w hw => cells_part (off := 0) (own_cell hw 0 rfl (getD_some (d := zO) (i := o.length - 1) (by first | (have := of_decide_eq_true hg; omega) | (have := of_decide_eq_true (and_l hg); omega)))) ⟨_, rfl⟩)) rfl<|VO.lg rfl rfl (GD.nf _ _) (fun hg => LO.eq (.g hg rfl) (.r rfl)) rfl<|VO.lg rfl rfl (GD.t _) (fun hg => LO.pkO (.g hg rfl) (.r rfl) rfl (and_e hg)) rfl<|VO.l (LO.pkA (.r rfl) rfl rfl (.r rfl)) rfl<|VO.nil ?_)
    refine VE.seqN ?_
    refine VC.cond rfl (fun h42 => ?_) (fun h42 => ?_)
    ·
      refine VC.seq ?_
      refine VC.reg (VO.l (LO.as (.r rfl)) rfl<|VO.l (LO.as (.r rfl)) rfl<|VO.nil ?_)
      refine VE.seqN ?_
      refine VC.ret (VE.thenR (VE.resDm (vs := [_,_]) (A := [_,_,_,_,_,_,_,_]) rfl (selK [8,0,1,2,3,4,5,6,7] rfl rfl) ⟨rfl, rfl, trivial⟩ (fun w hw => ?_)))
      subst hI
      first | exact ⟨(none, 0), trivial, by rw [(lst_n (by omega)).1, (lst_n (by omega)).2]; rfl, by rw [(lst_n (by omega)).2]; exact hw.nil.ownNil 319 3⟩ | exact ⟨(po, co), trivial, by rw [(lst_y (by omega)).1, (lst_y (by omega)).2]; rfl, by rw [(lst_y (by omega)).2]; exact hw.sel [0] rfl⟩
    ·
      refine VC.skip (VE.seqN ?_)
      refine VC.seq ?_
      refine VC.reg (VO.l (LO.ld O315 (.r rfl) (fun _ hw => cells_at hw 1 rfl ⟨_, rfl⟩)) rfl<|VO.l (LO.as (.r rfl)) rfl<|VO.l (LO.as (.r rfl)) rfl<|VO.nil ?_)
      refine VE.seqN ?_
      refine VC.ret (VE.resDm (vs := [_,_]) (A := [_,_,_,_,_,_,_,_]) rfl (selK [8,0,1,2,3,4,5,6,7] rfl rfl) ⟨rfl, rfl, trivial⟩ (fun w hw => ?_))
      subst hI
      first | exact ⟨(none, 0), trivial, by rw [(lst_n (by omega)).1, (lst_n (by omega)).2]; rfl, by rw [(lst_n (by omega)).2]; exact hw.nil.ownNil 319 3⟩ | exact ⟨(po, co), trivial, by rw [(lst_y (by omega)).1, (lst_y (by omega)).2]; rfl, by rw [(lst_y (by omega)).2]; exact hw.sel [0] rfl⟩

end Go.Proofs.YtffbohecdocajaaGreat

namespace Go.Proofs.YtffbohecdocajaaGreat
open Go.SL Go.Proofs Go.Pulse
set_option linter.unusedVariables false

theorem C121 : IsFn Tryz.prog 121 := ⟨_, Tryz.func121, by decide, rfl⟩
theorem F319_1 : FieldAt Tryz.prog 319 1 1 := ⟨_,_, Tryz.underlying319, rfl, rfl, 1, by kernel_rfl⟩
theorem B80 : Builds Tryz.prog 80 [(0,2), (2,2)] [.int .i64 0, .int .i64 0, .int .i64 0, .int .i64 0] := Builds.mk fun _ => by kernel_rfl
theorem S71 : IsSlice Tryz.prog 71 80 := Tryz.underlying71
theorem Z80 : ZeroOf Tryz.prog 80 (.agg #[.int .i64 0, .int .i64 0, .int .i64 0, .int .i64 0]) := by unfold ZeroOf; kernel_rfl
theorem N80 : (Tryz.prog.info? 80).map (·.size) = some 4 := by kernel_rfl
theorem I80 : EInfo Tryz.prog 80 4 32 (.agg #[.int .i64 0, .int .i64 0, .int .i64 0, .int .i64 0]) := ⟨by kernel_rfl, by kernel_rfl, by unfold ZeroOf; kernel_rfl, rfl, by decide⟩


/-- A guess. -/
structure Gss where
  a : Int
  b : Int
  s : Span
def zG : Gss := ⟨0,0, zs⟩
def gssC (g : Gss) : List Value := [.int .i64 g.a, .int .i64 g.b, .int .i64 g.s.lo, .int .i64 g.s.hi]
def gsP (f s : Opt) : Option Gss := if (comS f.s s.s).lo ≤ (comS f.s s.s).hi then some ⟨f.wh, s.wh, comS f.s s.s⟩ else none
def gsR (l : List Opt) (f : Opt) : List Gss := l.filterMap (gsP f)
def gs1 (f : Opt) : Gss := ⟨f.wh, 0, f.s⟩
def gsL (t : Train) (x : Echo) (most : Int) : List Gss := if t.kind = 1 then (lstV t x 0 most).map gs1 else (lstV t x 0 most).flatMap (gsR (lstV t x 1 most))
def gsB (t : Train) (x : Echo) (most : Int) : Bool := lstB t x 0 most && (decide (t.kind = 1) || lstB t x 1 most)
section
variable {t : Train} {x : Echo} {wh : Nat} {most : Int}
theorem lst_len : (lstV t x wh most).length ≤ 129 := by
  unfold lstV
  split
  · exact opt_len
  · exact Nat.zero_le _
theorem gs_0 (h : ¬ lstB t x 0 most = true) : gsL t x most = [] ∧ gsB t x most = false := by
  have e : lstV t x 0 most = [] := if_neg h
  have hb : lstB t x 0 most = false := by simpa using h
  unfold gsL gsB
  rw [e, hb]
  exact ⟨by split <;> rfl, rfl⟩
theorem mapTakeO {f : Opt → Gss} {l : List Opt} {i : Nat} (hi : i < l.length) : (l.take i).map f ++ [f (l.getD i zO)] = (l.take (i + 1)).map f := by
  rw [List.take_succ_eq_append_getElem hi, List.map_append, List.getD_eq_getElem?_getD, List.getElem?_eq_getElem hi]; rfl
theorem flTakeO {f : Opt → List Gss} {l : List Opt} {i : Nat} (hi : i < l.length) : (l.take (i + 1)).flatMap f = (l.take i).flatMap f ++ f (l.getD i zO) := by
  rw [List.take_succ_eq_append_getElem hi, List.flatMap_append, List.getD_eq_getElem?_getD, List.getElem?_eq_getElem hi]
  show _ ++ [l[i]].flatMap f = _
  rw [List.flatMap_cons, List.flatMap_nil, List.append_nil]; rfl
theorem fmTakeO {f : Opt → Option Gss} {l : List Opt} {i : Nat} (hi : i < l.length) : (l.take (i + 1)).filterMap f = (l.take i).filterMap f ++ (f (l.getD i zO)).toList := by
  rw [List.take_succ_eq_append_getElem hi, List.filterMap_append, List.getD_eq_getElem?_getD, List.getElem?_eq_getElem hi]
  congr 1
theorem gsP_y {f s : Opt} (h : (comS f.s s.s).lo ≤ (comS f.s s.s).hi) : (gsP f s).toList = [⟨f.wh, s.wh, comS f.s s.s⟩] := by unfold gsP; rw [if_pos h]; rfl
theorem gsP_n {f s : Opt} (h : ¬ (comS f.s s.s).lo ≤ (comS f.s s.s).hi) : (gsP f s).toList = [] := by unfold gsP; rw [if_neg h]; rfl
theorem gsL_1 {i : Nat} {o : List Gss} (h : t.kind = 1) (hi : (lstV t x 0 most).length ≤ i) (hO : o = ((lstV t x 0 most).take i).map gs1) : o = gsL t x most := by
  rw [hO, List.take_of_length_le hi]; unfold gsL; rw [if_pos h]
theorem gsL_2 {i : Nat} {o : List Gss} (h : ¬ t.kind = 1) (hi : (lstV t x 0 most).length ≤ i) (hO : o = ((lstV t x 0 most).take i).flatMap (gsR (lstV t x 1 most))) : o = gsL t x most := by
  rw [hO, List.take_of_length_le hi]; unfold gsL; rw [if_neg h]
theorem gsB_1 (h : lstB t x 0 most = true) (hk : t.kind = 1) : true = gsB t x most := by unfold gsB; rw [h, decide_eq_true hk]; rfl
theorem gsB_2 (h : lstB t x 0 most = true) (hk : ¬ t.kind = 1) : lstB t x 1 most = gsB t x most := by unfold gsB; rw [h, decide_eq_false hk]; rfl
end

set_option maxRecDepth 20000 in
set_option maxHeartbeats 1000000 in
theorem guesses_c (t : Train) (x : Echo) (most : Int) (hm : 1 ≤ most ∧ most ≤ 60000) (w : World) :
  Calls Tryz.prog 58 #[trainV t, echoV x, .int .i64 most] w fun e w' => ∃ y : Option Addr × Nat, True ∧ e = .returned (.tuple #[.slice y.1 (gsL t x most).length y.2, .bool (gsB t x most)]) ∧ St (bs w) [own 80 4 y.1 y.2 ((gsL t x most).map gssC)] w' := by
  have hlA : (lstV t x 0 most).length ≤ 129 := lst_len
  have hlB : (lstV t x 1 most).length ≤ 129 := lst_len
  refine enter (vs := [_,_,_]) (env := [(0,_), (1,_), (2,_)]) Tryz.func58 rfl rfl rfl rfl ?_
  refine VC.seq ?_
  refine VC.reg (VO.h rfl<|HO.box (C := #[_,_,_,_,_]) rfl rfl fun b1 => VO.h rfl<|HO.box (C := #[_,_,_,_,_,_,_,_,_,_,_,_,_,_]) rfl rfl fun b2 => VO.l (LO.as (.r rfl)) rfl<|VO.l (LO.as (.r rfl)) rfl<|VO.nil ?_)
  refine VE.seqN ?_
  refine VC.seq ?_
  refine VC.reg (VO.l (LO.lda (vs := [_,_,_,_,_]) A23 (.r rfl) (fun _ hw => cells_at hw 1 rfl ⟨_, rfl⟩) rfl) rfl<|VO.l (LO.lda (vs := [_,_,_,_,_,_,_,_,_,_,_,_,_,_]) A76 (.r rfl) (fun _ hw => cells_at hw 0 rfl ⟨_, rfl⟩) rfl) rfl<|VO.l (LO.mv (.r rfl)) rfl<|VO.h rfl<|HO.callx (xs := [_,_,_,_]) (vs := [_,_,_,_]) C121 ⟨(.r rfl), (.r rfl), (.r rfl), (.r rfl), trivial⟩ (fun w _ => list0_c t x most hm w) fun f1 _ => VO.h rfl<|HO.lo (LO.mv (.r rfl))<|VO.h rfl<|HO.lo (LO.ex (.r rfl) rfl)<|VO.h rfl<|HO.lo (LO.ex (.r rfl) rfl)<|VO.h rfl<|HO.lo (LO.as (.r rfl))<|VO.h rfl<|HO.lo (LO.as (.r rfl))<|VO.nil ?_)
  refine VE.seqN ?_
  refine VC.seq ?_
  refine VC.seq ?_
  refine VC.reg (VO.l (LO.mv (.r rfl)) rfl<|VO.l (LO.not (.r rfl)) rfl<|VO.nil ?_)
  refine VE.seqN ?_
  refine VC.cond rfl (fun h28 => ?_) (fun h28 => ?_)
  ·
    refine VC.seq ?_
    refine VC.reg (VO.l (LO.as (.r rfl)) rfl<|VO.l (LO.as (.r rfl)) rfl<|VO.nil ?_)
    refine VE.seqN ?_
    refine VC.ret (VE.thenR (VE.res (vs := [_,_]) rfl ⟨rfl, rfl, trivial⟩ (fun w hw => ?_)))
    first | exact ⟨(none, 0), trivial, by rw [(gs_0 h28).1, (gs_0 h28).2]; rfl, by rw [(gs_0 h28).1]; exact hw.nil.ownNil 80 4⟩ | exact ⟨(po, co), trivial, by rw [← gsL_1 h31 (by omega) hO, ← gsB_1 (by simpa using h28) h31]; rfl, by rw [← gsL_1 h31 (by omega) hO]; exact hw.sel [1] rfl⟩ | exact ⟨(po, co), trivial, by rw [← gsL_2 h31 (by omega) hO, ← gsB_2 (by simpa using h28) h31]; rfl, by rw [← gsL_2 h31 (by omega) hO]; exact hw.sel [2] rfl⟩
  ·
    refine VC.skip (VE.seqN ?_)
    refine VC.seq ?_
    refine VC.reg (VO.l (LO.as (.r rfl)) rfl<|VO.nil ?_)
    refine VE.seqN ?_
    refine VC.seq ?_
    refine VC.seq ?_
    refine VC.reg (VO.l (LO.fa (r := 1) F23_1 (.r rfl) rfl) rfl<|VO.l (LO.ld O3 (.r rfl) (fun _ hw => cells_at hw 2 rfl ⟨_, rfl⟩)) rfl<|VO.l (LO.eq (.r rfl) (.r rfl)) rfl<|VO.nil ?_)
    refine VE.seqN ?_
    refine VC.cond rfl (fun h31 => ?_) (fun h31 => ?_)
    ·
      refine VC.seq ?_
      refine VC.seq ?_
      refine VC.reg (VO.l (LO.mv (.r rfl)) rfl<|VO.l (LO.len S315 (.r rfl) rfl) rfl<|VO.l (LO.mv (.r rfl)) rfl<|VO.nil ?_)
      refine VE.seqN ?_
      refine VC.block ?_
      refine VC.loopK (α := Nat × (List Gss) × (Option Addr) × Nat) 1 (fun gx => [(10, .slice gx.2.2.1 gx.2.1.length gx.2.2.2), (34, .int .i64 (gx.1 : Nat))]) [(32,_), (33,_)] (fun gx => [own 319 3 f1.1 f1.2 ((lstV t x 0 most).map optC), own 80 4 gx.2.2.1 gx.2.2.2 (gx.2.1.map gssC)]) (fun gx => gx.1 ≤ (lstV t x 0 most).length ∧ gx.2.1 = ((lstV t x 0 most).take gx.1).map gs1) (fun gx => (lstV t x 0 most).length - gx.1) (0, [], none, 0) (by exact ⟨Nat.zero_le _, rfl⟩) (.cons rfl (.cons rfl (.cons rfl (.cons rfl .nil)))) (fun _ h => ((h.ownNil 80 4)).sel [1,0,2,3] rfl) ?_
      rintro ⟨i, o, po, co⟩ ⟨hi, hO⟩
      show VC _ _ _ _ _ ([(10, .slice po o.length co), (34, .int .i64 (i : Nat))] ++ _) ([own 319 3 f1.1 f1.2 ((lstV t x 0 most).map optC), own 80 4 po co (o.map gssC)] ++ _) _ _
      dsimp only at hi hO
      have hol : o.length = i := by rw [hO, List.length_map, List.length_take]; omega
      refine VC.seq ?_
      refine VC.reg (VO.l (LO.lt (.r rfl) (.r rfl)) rfl<|VO.nil ?_)
      refine VE.seqN ?_
      refine VC.seq ?_
      refine VC.cond rfl (fun h3 => ?_) (fun h3 => ?_)
      ·
        refine VC.skip (VE.seqN ?_)
        refine VC.seq ?_
        refine VC.block ?_
        refine VC.seq ?_
        refine VC.reg (VO.l (LO.ixo S315 N319 (fun _ hw => (own_rows hw 0 rfl).some (by rw [List.length_map])) (.r rfl) (.r rfl) rfl (by omega)) rfl<|VO.l (LO.lda (vs := [_,_,_]) A319 (.r rfl) (fun w hw => cells_part (off := 0) (own_cell hw 0 rfl (getD_some (d := zO) (i := i) (by omega))) ⟨_, rfl⟩) rfl) rfl<|VO.h rfl<|HO.alloc (C := #[_,_,_]) Z319 rfl fun b5 => VO.h0<|HO.st 0 (vs := [_,_,_]) (C' := [_,_,_]) (L' := [_,_,_,_,_]) N319 rfl rfl rfl rfl rfl rfl rfl rfl<|VO.nil ?_)
        refine VE.seqN ?_
        refine VC.reg (VO.l (LO.mv (.r rfl)) rfl<|VO.l (LO.fa (r := 0) F319_0 (.r rfl) rfl) rfl<|VO.l (LO.ld O3 (.r rfl) (fun _ hw => cells_at hw 0 rfl ⟨_, rfl⟩)) rfl<|VO.l (LO.bda (ps := [(_,_), (_,_)]) (vs := [(_,_), (_,_)]) (C := [_,_]) B78 rfl ⟨(.r rfl), (.r rfl), trivial⟩ rfl ⟨_, [_], [_,_], rfl, rfl, rfl, rfl, ⟨_, [_], [_,_], rfl, rfl, rfl, rfl, rfl⟩⟩) rfl<|VO.l (LO.fa (r := 1) F319_1 (.r rfl) rfl) rfl<|VO.l (LO.lda (vs := [_,_]) A25 (.r rfl) (fun _ hw => cells_at hw 0 rfl ⟨_, rfl⟩) rfl) rfl<|VO.l (LO.bd (ps := [(_,_), (_,_)]) (vs := [(_,_), (_,_)]) (C := [_,_,_,_]) B80  ⟨(.r rfl), (.r rfl), trivial⟩ rfl ⟨_, [_,_], [_,_,_,_], rfl, rfl, rfl, rfl, ⟨_, [_,_], [_,_,_,_], rfl, rfl, rfl, rfl, rfl⟩⟩) rfl<|VO.h rfl<|HO.bs (ps := [(_,_)]) (vs := [(_,_)]) (Z := [_,_,_,_]) (C := [_,_,_,_]) S71 Z80 N80 ⟨(.r rfl), trivial⟩ rfl rfl rfl rfl ⟨_, [_,_,_,_], [_,_,_,_], rfl, rfl, rfl, rfl, rfl⟩ fun b7 => VO.h rfl<|HO.appT ((gs1 ((lstV t x 0 most).getD i zO))) 3 0 (fun R => [_,_,_, R,_,_]) S71 S71 I80 (.r rfl) (.r rfl) rfl rfl rfl rfl rfl rfl rfl (fun _ => rfl) rfl (by omega) fun p8 c8 => VO.h rfl<|HO.lo (LO.as (.r rfl))<|VO.nil ?_)
        refine VE.inN (VE.seqN ?_)
        refine VC.reg (VO.l (LO.add (.r rfl) (.r rfl) (wi (by omega) (by omega))) rfl<|VO.l (LO.mv (.r rfl)) rfl<|VO.nil ?_)
        refine VE.thenN fun a w ha hw => ⟨(i + 1, o ++ [gs1 ((lstV t x 0 most).getD i zO)], p8, c8), ⟨by dsimp only; omega, by dsimp only; rw [hO, mapTakeO (by omega)]⟩, (by dsimp only; omega), ha.sub (.cons rfl (.cons rfl (.cons rfl (.cons rfl .nil)))), hw.sel [2,3,4,5] rfl⟩
      ·
        refine VC.exit (VE.thenX (VE.thenX (VE.inX (VE.seqN ?_))))
        refine VC.seq ?_
        refine VC.reg (VO.l (LO.mv (.r rfl)) rfl<|VO.l (LO.as (.r rfl)) rfl<|VO.l (LO.as (.r rfl)) rfl<|VO.nil ?_)
        refine VE.seqN ?_
        refine VC.ret (VE.thenR (VE.res (vs := [_,_]) rfl ⟨rfl, rfl, trivial⟩ (fun w hw => ?_)))
        first | exact ⟨(none, 0), trivial, by rw [(gs_0 h28).1, (gs_0 h28).2]; rfl, by rw [(gs_0 h28).1]; exact hw.nil.ownNil 80 4⟩ | exact ⟨(po, co), trivial, by rw [← gsL_1 h31 (by omega) hO, ← gsB_1 (by simpa using h28) h31]; rfl, by rw [← gsL_1 h31 (by omega) hO]; exact hw.sel [1] rfl⟩ | exact ⟨(po, co), trivial, by rw [← gsL_2 h31 (by omega) hO, ← gsB_2 (by simpa using h28) h31]; rfl, by rw [← gsL_2 h31 (by omega) hO]; exact hw.sel [2] rfl⟩
    ·
      refine VC.skip (VE.seqN ?_)
      refine VC.seq ?_
      refine VC.reg (VO.l (LO.lda (vs := [_,_,_,_,_]) A23 (.r rfl) (fun _ hw => cells_at hw 2 rfl ⟨_, rfl⟩) rfl) rfl<|VO.l (LO.lda (vs := [_,_,_,_,_,_,_,_,_,_,_,_,_,_]) A76 (.r rfl) (fun _ hw => cells_at hw 1 rfl ⟨_, rfl⟩) rfl) rfl<|VO.l (LO.mv (.r rfl)) rfl<|VO.h rfl<|HO.callx (xs := [_,_,_,_]) (vs := [_,_,_,_]) C121 ⟨(.r rfl), (.r rfl), (.r rfl), (.r rfl), trivial⟩ (fun w _ => list1_c t x most hm w) fun f2 _ => VO.h rfl<|HO.lo (LO.mv (.r rfl))<|VO.h rfl<|HO.lo (LO.ex (.r rfl) rfl)<|VO.h rfl<|HO.lo (LO.ex (.r rfl) rfl)<|VO.h rfl<|HO.lo (LO.as (.r rfl))<|VO.h rfl<|HO.lo (LO.as (.r rfl))<|VO.nil ?_)
      refine VE.seqN ?_
      refine VC.seq ?_
      refine VC.seq ?_
      refine VC.reg (VO.l (LO.mv (.r rfl)) rfl<|VO.l (LO.len S315 (.r rfl) rfl) rfl<|VO.l (LO.mv (.r rfl)) rfl<|VO.nil ?_)
      refine VE.seqN ?_
      refine VC.block ?_
      refine VC.perm [1,0,2,3] rfl ?_
      refine VC.loopK (α := Nat × (List Gss) × (Option Addr) × Nat) 2 (fun gx => [(10, .slice gx.2.2.1 gx.2.1.length gx.2.2.2), (58, .int .i64 (gx.1 : Nat))]) [(9,_), (13,_), (56,_), (57,_)] (fun gx => [own 319 3 f1.1 f1.2 ((lstV t x 0 most).map optC), own 319 3 f2.1 f2.2 ((lstV t x 1 most).map optC), own 80 4 gx.2.2.1 gx.2.2.2 (gx.2.1.map gssC)]) (fun gx => (gx.1 ≤ (lstV t x 0 most).length ∧ gx.2.1.length ≤ 129 * gx.1) ∧ gx.2.1 = ((lstV t x 0 most).take gx.1).flatMap (gsR (lstV t x 1 most))) (fun gx => (lstV t x 0 most).length - gx.1) (0, [], none, 0) (by exact ⟨⟨Nat.zero_le _, Nat.le_refl _⟩, rfl⟩) (.cons rfl (.cons rfl (.cons rfl (.cons rfl (.cons rfl (.cons rfl .nil)))))) (fun _ h => ((h.ownNil 80 4)).sel [1,2,0,3,4] rfl) ?_
      rintro ⟨i, o, po, co⟩ ⟨hi, hO⟩
      show VC _ _ _ _ _ ([(10, .slice po o.length co), (58, .int .i64 (i : Nat))] ++ _) ([own 319 3 f1.1 f1.2 ((lstV t x 0 most).map optC), own 319 3 f2.1 f2.2 ((lstV t x 1 most).map optC), own 80 4 po co (o.map gssC)] ++ _) _ _
      dsimp only at hi hO
      refine VC.seq ?_
      refine VC.reg (VO.l (LO.lt (.r rfl) (.r rfl)) rfl<|VO.nil ?_)
      refine VE.seqN ?_
      refine VC.seq ?_
      refine VC.cond rfl (fun h4 => ?_) (fun h4 => ?_)
      ·
        refine VC.skip (VE.seqN ?_)
        refine VC.seq ?_
        refine VC.block ?_
        refine VC.seq ?_
        refine VC.reg (VO.l (LO.ixo S315 N319 (fun _ hw => (own_rows hw 0 rfl).some (by rw [List.length_map])) (.r rfl) (.r rfl) rfl (by omega)) rfl<|VO.l (LO.lda (vs := [_,_,_]) A319 (.r rfl) (fun w hw => cells_part (off := 0) (own_cell hw 0 rfl (getD_some (d := zO) (i := i) (by omega))) ⟨_, rfl⟩) rfl) rfl<|VO.h rfl<|HO.alloc (C := #[_,_,_]) Z319 rfl fun b10 => VO.h0<|HO.st 0 (vs := [_,_,_]) (C' := [_,_,_]) (L' := [_,_,_,_,_,_]) N319 rfl rfl rfl rfl rfl rfl rfl rfl<|VO.nil ?_)
        refine VE.seqN ?_
        refine VC.seq ?_
        refine VC.reg (VO.l (LO.mv (.r rfl)) rfl<|VO.l (LO.len S315 (.r rfl) rfl) rfl<|VO.l (LO.mv (.r rfl)) rfl<|VO.nil ?_)
        refine VE.seqN ?_
        refine VC.block ?_
        refine VC.perm [1,2,3,0,4,5] rfl ?_
        refine VC.loopK (α := Nat × (List Gss) × (Option Addr) × Nat) 3 (fun gx => [(10, .slice gx.2.2.1 gx.2.1.length gx.2.2.2), (64, .int .i64 (gx.1 : Nat))]) [(9,_), (13,_), (15,_), (56,_), (57,_), (58,_), (62,_), (63,_)] (fun gx => [own 319 3 f1.1 f1.2 ((lstV t x 0 most).map optC), own 319 3 f2.1 f2.2 ((lstV t x 1 most).map optC), own 80 4 gx.2.2.1 gx.2.2.2 (gx.2.1.map gssC)]) (fun gx => (gx.1 ≤ (lstV t x 1 most).length ∧ gx.2.1.length ≤ 129 * i + gx.1) ∧ gx.2.1 = o ++ ((lstV t x 1 most).take gx.1).filterMap (gsP ((lstV t x 0 most).getD i zO))) (fun gx => (lstV t x 1 most).length - gx.1) (0, o, po, co) (by exact ⟨by dsimp only; omega, (List.append_nil _).symm⟩) (.cons rfl (.cons rfl (.cons rfl (.cons rfl (.cons rfl (.cons rfl (.cons rfl (.cons rfl (.cons rfl (.cons rfl .nil)))))))))) (fun _ h => h) ?_
        rintro ⟨k, o2, p2, c2⟩ ⟨hk, hO2⟩
        show VC _ _ _ _ _ ([(10, .slice p2 o2.length c2), (64, .int .i64 (k : Nat))] ++ _) ([own 319 3 f1.1 f1.2 ((lstV t x 0 most).map optC), own 319 3 f2.1 f2.2 ((lstV t x 1 most).map optC), own 80 4 p2 c2 (o2.map gssC)] ++ _) _ _
        dsimp only at hk hO2
        refine VC.seq ?_
        refine VC.reg (VO.l (LO.lt (.r rfl) (.r rfl)) rfl<|VO.nil ?_)
        refine VE.seqN ?_
        refine VC.seq ?_
        refine VC.cond rfl (fun h5 => ?_) (fun h5 => ?_)
        ·
          refine VC.skip (VE.seqN ?_)
          refine VC.seq ?_
          refine VC.block ?_
          refine VC.seq ?_
          refine VC.reg (VO.l (LO.ixo S315 N319 (fun _ hw => (own_rows hw 1 rfl).some (by rw [List.length_map])) (.r rfl) (.r rfl) rfl (by omega)) rfl<|VO.l (LO.lda (vs := [_,_,_]) A319 (.r rfl) (fun w hw => cells_part (off := 0) (own_cell hw 1 rfl (getD_some (d := zO) (i := k) (by omega))) ⟨_, rfl⟩) rfl) rfl<|VO.h rfl<|HO.alloc (C := #[_,_,_]) Z319 rfl fun b12 => VO.h0<|HO.st 0 (vs := [_,_,_]) (C' := [_,_,_]) (L' := [_,_,_,_,_,_,_]) N319 rfl rfl rfl rfl rfl rfl rfl rfl<|VO.nil ?_)
          refine VE.seqN ?_
          refine VC.seq ?_
          refine VC.reg (VO.l (LO.fa (r := 1) F319_1 (.r rfl) rfl) rfl<|VO.l (LO.lda (vs := [_,_]) A25 (.r rfl) (fun _ hw => cells_at hw 4 rfl ⟨_, rfl⟩) rfl) rfl<|VO.l (LO.fa (r := 1) F319_1 (.r rfl) rfl) rfl<|VO.l (LO.lda (vs := [_,_]) A25 (.r rfl) (fun _ hw => cells_at hw 0 rfl ⟨_, rfl⟩) rfl) rfl<|VO.l (LO.call (xs := [_,_]) (vs := [_,_]) C122 ⟨(.r rfl), (.r rfl), trivial⟩ (fun w _ => common_c ((lstV t x 0 most).getD i zO).s ((lstV t x 1 most).getD k zO).s w)) rfl<|VO.l (LO.mv (.r rfl)) rfl<|VO.l (LO.ex (.r rfl) rfl) rfl<|VO.l (LO.ex (.r rfl) rfl) rfl<|VO.h rfl<|HO.alloc (C := #[_,_]) Z25 rfl fun b14 => VO.h0<|HO.st 0 (vs := [_,_]) (C' := [_,_]) (L' := [_,_,_,_,_,_,_,_]) N25 rfl rfl rfl rfl rfl rfl rfl rfl<|VO.l (LO.as (.r rfl)) rfl<|VO.nil ?_)
          refine VE.seqN ?_
          refine VC.seq ?_
          refine VC.reg (VO.l (LO.mv (.r rfl)) rfl<|VO.nil ?_)
          refine VE.seqN ?_
          refine VC.cond rfl (fun h76 => ?_) (fun h76 => ?_)
          ·
            refine VC.reg (VO.l (LO.mv (.r rfl)) rfl<|VO.l (LO.fa (r := 0) F319_0 (.r rfl) rfl) rfl<|VO.l (LO.ld O3 (.r rfl) (fun _ hw => cells_at hw 5 rfl ⟨_, rfl⟩)) rfl<|VO.l (LO.fa (r := 0) F319_0 (.r rfl) rfl) rfl<|VO.l (LO.ld O3 (.r rfl) (fun _ hw => cells_at hw 1 rfl ⟨_, rfl⟩)) rfl<|VO.l (LO.bda (ps := [(_,_), (_,_)]) (vs := [(_,_), (_,_)]) (C := [_,_]) B78 rfl ⟨(.r rfl), (.r rfl), trivial⟩ rfl ⟨_, [_], [_,_], rfl, rfl, rfl, rfl, ⟨_, [_], [_,_], rfl, rfl, rfl, rfl, rfl⟩⟩) rfl<|VO.l (LO.lda (vs := [_,_]) A25 (.r rfl) (fun _ hw => cells_at hw 0 rfl ⟨_, rfl⟩) rfl) rfl<|VO.l (LO.bd (ps := [(_,_), (_,_)]) (vs := [(_,_), (_,_)]) (C := [_,_,_,_]) B80  ⟨(.r rfl), (.r rfl), trivial⟩ rfl ⟨_, [_,_], [_,_,_,_], rfl, rfl, rfl, rfl, ⟨_, [_,_], [_,_,_,_], rfl, rfl, rfl, rfl, rfl⟩⟩) rfl<|VO.h rfl<|HO.bs (ps := [(_,_)]) (vs := [(_,_)]) (Z := [_,_,_,_]) (C := [_,_,_,_]) S71 Z80 N80 ⟨(.r rfl), trivial⟩ rfl rfl rfl rfl ⟨_, [_,_,_,_], [_,_,_,_], rfl, rfl, rfl, rfl, rfl⟩ fun b16 => VO.h rfl<|HO.appT ((⟨((lstV t x 0 most).getD i zO).wh, ((lstV t x 1 most).getD k zO).wh, comS ((lstV t x 0 most).getD i zO).s ((lstV t x 1 most).getD k zO).s⟩ : Gss)) 5 0 (fun R => [_,_,_,_,_, R,_,_,_]) S71 S71 I80 (.r rfl) (.r rfl) rfl rfl rfl rfl rfl rfl rfl (fun _ => rfl) rfl (by omega) fun p9 c9 => VO.h rfl<|HO.lo (LO.as (.r rfl))<|VO.nil ?_)
            refine VE.inN (VE.seqN ?_)
            refine VC.reg (VO.l (LO.add (.r rfl) (.r rfl) (wi (by omega) (by omega))) rfl<|VO.l (LO.mv (.r rfl)) rfl<|VO.nil ?_)
            refine VE.thenN fun a w ha hw => ⟨(k + 1, o2 ++ [(⟨((lstV t x 0 most).getD i zO).wh, ((lstV t x 1 most).getD k zO).wh, comS ((lstV t x 0 most).getD i zO).s ((lstV t x 1 most).getD k zO).s⟩ : Gss)], p9, c9), ⟨by dsimp only; first | (rw [List.length_append]; simp only [List.length_singleton]; omega) | omega, by dsimp only; rw [fmTakeO (by omega), ← List.append_assoc, ← hO2]; first | rw [gsP_y h76] | rw [gsP_n h76, List.append_nil]⟩, (by dsimp only; omega), ha.sub (.cons rfl (.cons rfl (.cons rfl (.cons rfl (.cons rfl (.cons rfl (.cons rfl (.cons rfl (.cons rfl (.cons rfl .nil)))))))))), hw.sel [3,4,5,6,7,8] rfl⟩
          ·
            refine VC.skip (VE.inN (VE.seqN ?_))
            refine VC.reg (VO.l (LO.add (.r rfl) (.r rfl) (wi (by omega) (by omega))) rfl<|VO.l (LO.mv (.r rfl)) rfl<|VO.nil ?_)
            refine VE.thenN fun a w ha hw => ⟨(k + 1, o2, p2, c2), ⟨by dsimp only; first | (rw [List.length_append]; simp only [List.length_singleton]; omega) | omega, by dsimp only; rw [fmTakeO (by omega), ← List.append_assoc, ← hO2]; first | rw [gsP_y h76] | rw [gsP_n h76, List.append_nil]⟩, (by dsimp only; omega), ha.sub (.cons rfl (.cons rfl (.cons rfl (.cons rfl (.cons rfl (.cons rfl (.cons rfl (.cons rfl (.cons rfl (.cons rfl .nil)))))))))), hw.sel [2,3,4,5,6,7] rfl⟩
        ·
          refine VC.exit (VE.thenX (VE.thenX (VE.inX (VE.inN (VE.seqN ?_)))))
          refine VC.reg (VO.l (LO.add (.r rfl) (.r rfl) (wi (by omega) (by omega))) rfl<|VO.l (LO.mv (.r rfl)) rfl<|VO.nil ?_)
          refine VE.thenN fun a w ha hw => ⟨(i + 1, o2, p2, c2), ⟨by dsimp only; omega, by dsimp only; rw [hO2, List.take_of_length_le (l := (lstV t x 1 most)) (by omega), hO, flTakeO (by omega)]; rfl⟩, (by dsimp only; omega), ha.sub (.cons rfl (.cons rfl (.cons rfl (.cons rfl (.cons rfl (.cons rfl .nil)))))), hw.sel [0,1,2,4,5] rfl⟩
      ·
        refine VC.exit (VE.thenX (VE.thenX (VE.inX (VE.seqN ?_))))
        refine VC.seq ?_
        refine VC.reg (VO.l (LO.mv (.r rfl)) rfl<|VO.l (LO.mv (.r rfl)) rfl<|VO.l (LO.as (.r rfl)) rfl<|VO.l (LO.as (.r rfl)) rfl<|VO.nil ?_)
        refine VE.seqN ?_
        refine VC.ret (VE.res (vs := [_,_]) rfl ⟨rfl, rfl, trivial⟩ (fun w hw => ?_))
        first | exact ⟨(none, 0), trivial, by rw [(gs_0 h28).1, (gs_0 h28).2]; rfl, by rw [(gs_0 h28).1]; exact hw.nil.ownNil 80 4⟩ | exact ⟨(po, co), trivial, by rw [← gsL_1 h31 (by omega) hO, ← gsB_1 (by simpa using h28) h31]; rfl, by rw [← gsL_1 h31 (by omega) hO]; exact hw.sel [1] rfl⟩ | exact ⟨(po, co), trivial, by rw [← gsL_2 h31 (by omega) hO, ← gsB_2 (by simpa using h28) h31]; rfl, by rw [← gsL_2 h31 (by omega) hO]; exact hw.sel [2] rfl⟩

end Go.Proofs.YtffbohecdocajaaGreat

namespace Go.Proofs.YtffbohecdocajaaGreat
open Go.SL Go.Proofs Go.Pulse
set_option linter.unusedVariables false

theorem Z73 : ZeroOf Tryz.prog 73 (.agg #[.int .i64 0, .slice none 0 0]) := by unfold ZeroOf; kernel_rfl
theorem A80 : IsAgg Tryz.prog 80 4 := ⟨⟨_, Tryz.underlying80, rfl⟩, by kernel_rfl⟩
theorem F80_1 : FieldAt Tryz.prog 80 1 2 := ⟨_,_, Tryz.underlying80, rfl, rfl, 1, by kernel_rfl⟩
theorem F80_0 : FieldAt Tryz.prog 80 0 0 := ⟨_,_, Tryz.underlying80, rfl, rfl, 1, by kernel_rfl⟩
theorem A78 : IsAgg Tryz.prog 78 2 := ⟨⟨_, Tryz.underlying78, rfl⟩, by kernel_rfl⟩
theorem B73 : Builds Tryz.prog 73 [(0,1), (1,1)] [.int .i64 0, .slice none 0 0] := Builds.mk fun _ => by kernel_rfl
theorem N73 : (Tryz.prog.info? 73).map (·.size) = some 2 := by kernel_rfl
theorem A73 : IsAgg Tryz.prog 73 2 := ⟨⟨_, Tryz.underlying73, rfl⟩, by kernel_rfl⟩


/-- What a set leaves of guesses. -/
inductive LefI (s : List Span) : List Gss → List Gss → Prop
  | nil : LefI s [] []
  | drop {l o : List Gss} {g : Gss} : LefI s l o → (∀ z, ¬ (memH s z ∧ memH [g.s] z)) → LefI s (l ++ [g]) o
  | keep {l o : List Gss} {g : Gss} {lo hi : Int} : LefI s l o → (∀ z, memH s z → memH [g.s] z → 2 * lo ≤ z ∧ z ≤ 2 * hi) → LefI s (l ++ [g]) (o ++ [⟨g.a, g.b, ⟨lo, hi⟩⟩])
theorem LefI.len {s : List Span} {l o : List Gss} (h : LefI s l o) : o.length ≤ l.length := by
  induction h with
  | nil => exact Nat.le_refl _
  | drop _ _ ih => rw [List.length_append]; omega
  | keep _ _ ih => rw [List.length_append, List.length_append]; simp only [List.length_singleton]; omega
/-- The truth is among what is left. -/
theorem LefI.has {s : List Span} {l o : List Gss} (h : LefI s l o) {v : Int} (hv : memH s (2 * v)) {g : Gss} (hg : g ∈ l) (h1 : g.s.lo ≤ v) (h2 : v ≤ g.s.hi) : ∃ q, q ∈ o ∧ q.a = g.a ∧ q.b = g.b ∧ q.s.lo ≤ v ∧ v ≤ q.s.hi := by
  induction h with
  | nil => cases hg
  | @drop l o g' _ hn ih =>
    rcases List.mem_append.1 hg with k | k
    · exact ih k
    · rw [List.mem_singleton.1 k] at h1 h2
      exact absurd ⟨hv, memH_one.2 ⟨by omega, by omega⟩⟩ (hn (2 * v))
  | @keep l o g' lo hi _ hk ih =>
    rcases List.mem_append.1 hg with k | k
    · obtain ⟨q, q1, q2⟩ := ih k
      exact ⟨q, List.mem_append_left _ q1, q2⟩
    · have e := List.mem_singleton.1 k
      subst e
      have := hk (2 * v) hv (memH_one.2 ⟨by omega, by omega⟩)
      exact ⟨_, List.mem_append_right _ (List.mem_singleton.2 rfl), rfl, rfl, by show lo ≤ v; omega, by show v ≤ hi; omega⟩
theorem can_hull {m : List Span} (h : CanS m) (h0 : 0 < m.length) {z : Int} (hz : memH m z) : 2 * (m.getD 0 zS).lo ≤ z ∧ z ≤ 2 * (m.getD (m.length - 1) zS).hi := by
  obtain ⟨s, hs, k1, k2⟩ := hz
  obtain ⟨i, hi, rfl⟩ := List.mem_iff_getElem.1 hs
  have e0 : m.getD 0 zS = m[0] := by rw [List.getD_eq_getElem?_getD, List.getElem?_eq_getElem h0]; rfl
  have e1 : m.getD (m.length - 1) zS = m[m.length - 1] := by rw [List.getD_eq_getElem?_getD, List.getElem?_eq_getElem (by omega)]; rfl
  have p := List.pairwise_iff_getElem.1 h.a
  have v := h.v m[i] (List.getElem_mem hi)
  have v0 := h.v m[0] (List.getElem_mem h0)
  have v1 := h.v m[m.length - 1] (List.getElem_mem (by omega))
  rw [e0, e1]
  constructor
  · rcases Nat.eq_zero_or_pos i with q | q
    · subst q; exact k1
    · have := p 0 i h0 hi q
      omega
  · rcases Nat.lt_or_ge i (m.length - 1) with q | q
    · have := p i (m.length - 1) hi (by omega) q
      omega
    · have : i = m.length - 1 := by omega
      subst this; exact k2
theorem lef_1 {s m : List Span} {l o : List Gss} {i : Nat} (hi : i < l.length) (h : LefI s (l.take i) o) (hm : MeP s [(l.getD i zG).s] m) (h0 : 0 < m.length) : LefI s (l.take (i + 1)) (o ++ [⟨(l.getD i zG).a, (l.getD i zG).b, ⟨(m.getD 0 zS).lo, (m.getD (m.length - 1) zS).hi⟩⟩]) := by
  have e : l.getD i zG = l[i] := by rw [List.getD_eq_getElem?_getD, List.getElem?_eq_getElem hi]; rfl
  rw [List.take_succ_eq_append_getElem hi, ← e]
  exact .keep h fun z h1 h2 => can_hull hm.c h0 ((hm.m z).2 ⟨h1, h2⟩)
theorem lef_0 {s m : List Span} {l o : List Gss} {i : Nat} (hi : i < l.length) (h : LefI s (l.take i) o) (hm : MeP s [(l.getD i zG).s] m) (h0 : ¬ 0 < m.length) : LefI s (l.take (i + 1)) o := by
  have e : l.getD i zG = l[i] := by rw [List.getD_eq_getElem?_getD, List.getElem?_eq_getElem hi]; rfl
  rw [List.take_succ_eq_append_getElem hi, ← e]
  have em : m = [] := List.length_eq_zero_iff.1 (by omega)
  subst em
  exact .drop h fun z hz => memH_nil ((hm.m z).2 hz)
def stO (o : List Gss) : Int := match o.length with
  | 0 => 4
  | 1 => 2
  | _ => 3
theorem stO_0 {o : List Gss} (h : o.length = 0) : stO o = 4 := by unfold stO; rw [h]; rfl
theorem stO_1 {o : List Gss} (h : o.length = 1) : stO o = 2 := by unfold stO; rw [h]; rfl
theorem stO_2 {o : List Gss} (h : 2 ≤ o.length) : stO o = 3 := by
  unfold stO
  split
  · omega
  · omega
  · rfl
theorem len3 (o : List Gss) : o.length = 0 ∨ o.length = 1 ∨ 2 ≤ o.length := by omega
theorem me_len {s m : List Span} {g : Span} (hm : MeP s [g] m) (h : (-60000 ≤ g.lo ∧ g.lo ≤ g.hi) ∧ g.hi ≤ 60000) : m.length ≤ 200001 := can_len hm.c (fun z hz => by
  have := memH_one.1 ((hm.m z).1 hz).2
  omega)
theorem can_one {s : Span} (h : s.lo ≤ s.hi) : CanS [s] := ⟨fun a ha => by rw [List.mem_singleton.1 ha]; exact h, List.pairwise_singleton _ _⟩
def gsOk (l : List Gss) : Prop := ∀ g, g ∈ l → (-60000 ≤ g.s.lo ∧ g.s.lo ≤ g.s.hi) ∧ g.s.hi ≤ 60000
theorem gs_at {l : List Gss} (h : gsOk l) {i : Nat} (hi : i < l.length) : (-60000 ≤ (l.getD i zG).s.lo ∧ (l.getD i zG).s.lo ≤ (l.getD i zG).s.hi) ∧ (l.getD i zG).s.hi ≤ 60000 := h _ (getD_mem hi)

set_option maxRecDepth 20000 in
set_option maxHeartbeats 1000000 in
theorem left_c (l : List Gss) (set : List Span) (pl ps : Option Addr) (cl cs : Nat) (w : World) (hn : l.length < 1000000) (hn2 : set.length < 10000000) (hok : gsOk l) (hcs : CanS set) (hbd : bdS 100000000 set) (hl : RO 4 gssC w pl l) (hset : Spans w ps set) :
  Calls Tryz.prog 61 #[.slice pl l.length cl, .slice ps set.length cs] w fun e w' => ∃ x : List Gss × Option Addr × Nat, LefI set l x.1 ∧ e = .returned (.agg #[.int .i64 (stO x.1), .slice x.2.1 x.1.length x.2.2]) ∧ St (bs w) [own 80 4 x.2.1 x.2.2 (x.1.map gssC)] w' := by
  refine enter (vs := [_,_]) (env := [(0,_), (1,_)]) Tryz.func61 rfl rfl rfl rfl ?_
  refine VC.seq ?_
  refine VC.reg (VO.h rfl<|HO.alloc (C := #[_,_]) Z73 rfl fun b1 => VO.nil ?_)
  refine VE.seqN ?_
  refine VC.seq ?_
  refine VC.reg (VO.l (LO.as (.r rfl)) rfl<|VO.nil ?_)
  refine VE.seqN ?_
  refine VC.seq ?_
  refine VC.reg (VO.l (LO.mv (.r rfl)) rfl<|VO.l (LO.mf2 (first := [_]) (cap := []) ⟨(.r rfl), trivial⟩ trivial) rfl<|VO.h rfl<|HO.lo (LO.as (.r rfl))<|VO.nil ?_)
  refine VE.seqN ?_
  refine VC.seq ?_
  refine VC.seq ?_
  refine VC.reg (VO.l (LO.mv (.r rfl)) rfl<|VO.l (LO.len S71 (.r rfl) rfl) rfl<|VO.l (LO.mv (.r rfl)) rfl<|VO.nil ?_)
  refine VE.seqN ?_
  refine VC.block ?_
  refine VC.loopK (α := Nat × (List Gss) × (Option Addr) × Nat) 0 (fun gx => [(5, .slice gx.2.2.1 gx.2.1.length gx.2.2.2), (14, .int .i64 (gx.1 : Nat))]) [(4,_), (6,_), (12,_), (13,_)] (fun gx => [own 80 4 gx.2.2.1 gx.2.2.2 (gx.2.1.map gssC)]) (fun gx => gx.1 ≤ l.length ∧ LefI set (l.take gx.1) gx.2.1) (fun gx => l.length - gx.1) (0, [], none, 0) (by exact ⟨Nat.zero_le _, .nil⟩) (.cons rfl (.cons rfl (.cons rfl (.cons rfl (.cons rfl (.cons rfl .nil)))))) (fun _ h => (h.ownNil 80 4)) ?_
  rintro ⟨i, o, po, co⟩ ⟨hi, hL⟩
  show VC _ _ _ _ _ ([(5, .slice po o.length co), (14, .int .i64 (i : Nat))] ++ _) ([own 80 4 po co (o.map gssC)] ++ _) _ _
  dsimp only at hi hL
  have hol : o.length ≤ i := by have := hL.len; rw [List.length_take] at this; omega
  refine VC.seq ?_
  refine VC.reg (VO.l (LO.lt (.r rfl) (.r rfl)) rfl<|VO.nil ?_)
  refine VE.seqN ?_
  refine VC.seq ?_
  refine VC.cond rfl (fun h1 => ?_) (fun h1 => ?_)
  ·
    refine VC.skip (VE.seqN ?_)
    refine VC.seq ?_
    refine VC.block ?_
    refine VC.seq ?_
    refine VC.reg (VO.l (LO.ixs S71 N80 hl.sm (.r rfl) (.r rfl) rfl (by omega)) rfl<|VO.l (LO.lda (vs := [_,_,_,_]) A80 (.r rfl) (fun w hw => cells_part (off := 0) ((hl.at zG (j := i) (by omega)) w hw) ⟨_, rfl⟩) rfl) rfl<|VO.h rfl<|HO.alloc (C := #[_,_,_,_]) Z80 rfl fun b3 => VO.h0<|HO.st 0 (vs := [_,_,_,_]) (C' := [_,_,_,_]) (L' := [_,_,_]) N80 rfl rfl rfl rfl rfl rfl rfl rfl<|VO.nil ?_)
    refine VE.seqN ?_
    refine VC.seq ?_
    have hb := gs_at hok (i := i) (by omega)
    refine VC.reg (VO.l (LO.mv (.r rfl)) rfl<|VO.l (LO.fa (r := 2) F80_1 (.r rfl) rfl) rfl<|VO.l (LO.lda (vs := [_,_]) A25 (.r rfl) (fun _ hw => cells_at hw 0 rfl ⟨_, rfl⟩) rfl) rfl<|VO.h rfl<|HO.bs (ps := [(_,_)]) (vs := [(_,_)]) (Z := [_,_]) (C := [_,_]) S187 Z25 N25 ⟨(.r rfl), trivial⟩ rfl rfl rfl rfl ⟨_, [_,_], [_,_], rfl, rfl, rfl, rfl, rfl⟩ fun b5 => VO.h rfl<|HO.callf (first := [_]) (xs := [_]) (vs := [_]) (.r rfl) C131 ⟨(.r rfl), trivial⟩ (fun w hw => meet_c set [(l.getD i zG).s] ps (some ⟨b5,0, none⟩) cs 1 w (by omega) (show 1 < 1000000000 by omega) hcs (can_one hb.1.2) (bdS_mono hbd (by decide)) (hset.keep w hw) (RO.ofC (fun _ => rfl) (cells_at hw 0 rfl ⟨_, rfl⟩))) fun m hm => VO.h rfl<|HO.lo (LO.as (.r rfl))<|VO.nil ?_)
    have hml := me_len hm hb
    refine VE.seqN ?_
    refine VC.seq ?_
    refine VC.reg (VO.l (LO.mv (.r rfl)) rfl<|VO.l (LO.len S187 (.r rfl) rfl) rfl<|VO.l (LO.gt (.r rfl) (.r rfl)) rfl<|VO.nil ?_)
    refine VE.seqN ?_
    refine VC.cond rfl (fun h25 => ?_) (fun h25 => ?_)
    ·
      refine VC.drawH [[0,1,2,3,4], [0,1,2,3,4], [0,1,2,4], [0,1,2,4]] [some 1, some 0, some 0, some 0, some 0, some 0, some 0, some 0, some 0, some 0, some 0, some 0, some 0, some 0, some 0, some 0, none, none, none] mixed (by kernel_rfl) rfl (LX.l (fun _ hJ => LO.mv (.r rfl)) rfl<|LX.l (fun _ hJ => LO.fa (r := 0) F80_0 (.r rfl) rfl) rfl<|LX.l (fun _ hJ => LO.lda (vs := [_,_]) A78 (.r rfl) (fun _ hw => cells_at (hJ _ hw) 2 rfl ⟨_, rfl⟩) rfl) rfl<|LX.l (fun _ hJ => LO.mv (.r rfl)) rfl<|LX.l (fun _ hJ => LO.ixo S187 N25 (fun _ hw => (own_rows (hJ _ hw) 0 rfl).some (by rw [List.length_map])) (.r rfl) (.r rfl) (j := 0) rfl (by omega)) rfl<|LX.l (fun _ hJ => LO.fa F25_0 (.r rfl) rfl) rfl<|LX.l (fun _ hJ => LO.ld O3 (.r rfl) (fun w hw => cells_part (off := 0) (own_cell (hJ _ hw) 0 rfl (getD_some (d := zS) (i := 0) (by omega))) ⟨_, rfl⟩)) rfl<|LX.l (fun _ hJ => LO.mv (.r rfl)) rfl<|LX.l (fun _ hJ => LO.mv (.r rfl)) rfl<|LX.l (fun _ hJ => LO.len S187 (.r rfl) rfl) rfl<|LX.l (fun _ hJ => LO.sub (.r rfl) (.r rfl) (wi (by omega) (by omega))) rfl<|LX.l (fun _ hJ => LO.ixo S187 N25 (fun _ hw => (own_rows (hJ _ hw) 0 rfl).some (by rw [List.length_map])) (.r rfl) (.r rfl) (j := m.1.length - 1) (by omega) (by omega)) rfl<|LX.l (fun _ hJ => LO.fa F25_1 (.r rfl) rfl) rfl<|LX.l (fun _ hJ => LO.ld O3 (.r rfl) (fun w hw => cells_part (off := 1) (own_cell (hJ _ hw) 0 rfl (getD_some (d := zS) (i := m.1.length - 1) (by omega))) ⟨_, rfl⟩)) rfl<|LX.l (fun _ hJ => LO.bd (ps := [(_,_), (_,_)]) (vs := [(_,_), (_,_)]) (C := [_,_]) B25  ⟨(.r rfl), (.r rfl), trivial⟩ rfl ⟨_, [_], [_,_], rfl, rfl, rfl, rfl, ⟨_, [_], [_,_], rfl, rfl, rfl, rfl, rfl⟩⟩) rfl<|LX.l (fun _ hJ => LO.bd (ps := [(_,_), (_,_)]) (vs := [(_,_), (_,_)]) (C := [_,_,_,_]) B80  ⟨(.r rfl), (.r rfl), trivial⟩ rfl ⟨_, [_,_], [_,_,_,_], rfl, rfl, rfl, rfl, ⟨_, [_,_], [_,_,_,_], rfl, rfl, rfl, rfl, rfl⟩⟩) rfl<|LX.s<|LX.s<|LX.s<|LX.nil) (HX.s<|HX.s<|HX.s<|HX.s<|HX.s<|HX.s<|HX.s<|HX.s<|HX.s<|HX.s<|HX.s<|HX.s<|HX.s<|HX.s<|HX.s<|HX.s<|HX.h rfl<|HO.bs (ps := [(_,_)]) (vs := [(_,_)]) (Z := [_,_,_,_]) (C := [_,_,_,_]) S71 Z80 N80 ⟨(.r rfl), trivial⟩ rfl rfl rfl rfl ⟨_, [_,_,_,_], [_,_,_,_], rfl, rfl, rfl, rfl, rfl⟩ fun b8 => ⟨fun _ hw => hw.sel [1,2,3,4,5] rfl, HX.h rfl<|HO.appT ((⟨(l.getD i zG).a, (l.getD i zG).b, ⟨(m.1.getD 0 zS).lo, (m.1.getD (m.1.length - 1) zS).hi⟩⟩ : Gss)) 4 0 (fun R => [_,_,_,_, R,_]) S71 S71 I80 (.r rfl) (.r rfl) rfl rfl rfl rfl rfl rfl rfl (fun _ => rfl) rfl (by omega) fun p17 c17 => ⟨fun _ hw => hw.sel [1,2,3,5] rfl, HX.h rfl<|HO.lo (LO.as (.r rfl))<|⟨fun _ hw => hw.sel [1,2,3,5] rfl, HX.nil ?_⟩⟩⟩)
      refine VE.inN (VE.seqN ?_)
      refine VC.reg (VO.l (LO.add (.r rfl) (.r rfl) (wi (by omega) (by omega))) rfl<|VO.l (LO.mv (.r rfl)) rfl<|VO.nil ?_)
      refine VE.thenN fun a w ha hw => ⟨(i + 1, o ++ [(⟨(l.getD i zG).a, (l.getD i zG).b, ⟨(m.1.getD 0 zS).lo, (m.1.getD (m.1.length - 1) zS).hi⟩⟩ : Gss)], p17, c17), ⟨by dsimp only; omega, by dsimp only; first | exact lef_1 (by omega) hL hm (by omega) | exact lef_0 (by omega) hL hm (by omega)⟩, (by dsimp only; omega), ha.sub (.cons rfl (.cons rfl (.cons rfl (.cons rfl (.cons rfl (.cons rfl .nil)))))), hw.sel [4,5] rfl⟩
    ·
      refine VC.skip (VE.inN (VE.seqN ?_))
      refine VC.reg (VO.l (LO.add (.r rfl) (.r rfl) (wi (by omega) (by omega))) rfl<|VO.l (LO.mv (.r rfl)) rfl<|VO.nil ?_)
      refine VE.thenN fun a w ha hw => ⟨(i + 1, o, po, co), ⟨by dsimp only; omega, by dsimp only; first | exact lef_1 (by omega) hL hm (by omega) | exact lef_0 (by omega) hL hm (by omega)⟩, (by dsimp only; omega), ha.sub (.cons rfl (.cons rfl (.cons rfl (.cons rfl (.cons rfl (.cons rfl .nil)))))), hw.sel [3,4] rfl⟩
  ·
    refine VC.exit (VE.thenX (VE.thenX (VE.inX (VE.seqN ?_))))
    refine VC.seq ?_
    rcases len3 o with h3 | h3 | h3
    ·
      refine VC.reg (VO.h rfl<|HO.bs (ps := [(_,_), (_,_), (_,_)]) (vs := [(_,_), (_,_), (_,_)]) (Z := [_,_,_]) (C := [_,_,_]) S112 Z3 N3 ⟨(.r rfl), (.r rfl), (.r rfl), trivial⟩ rfl rfl rfl rfl ⟨_, [_], [_,_,_], rfl, rfl, rfl, rfl, ⟨_, [_], [_,_,_], rfl, rfl, rfl, rfl, ⟨_, [_], [_,_,_], rfl, rfl, rfl, rfl, rfl⟩⟩⟩ fun b9 => VO.l (LO.mv (.r rfl)) rfl<|VO.l (LO.len S71 (.r rfl) rfl) rfl<|VO.l (LO.min (.r rfl) (.r rfl)) rfl<|VO.h rfl<|HO.lo (LO.ixe (j := 0) (o := 0) S112 N3 (.r rfl) (.r rfl) (by omega) (by decide))<|VO.h rfl<|HO.lo (LO.ld O3 (.r rfl) (fun _ hw => cells_at hw 0 rfl ⟨_, rfl⟩))<|VO.l (LO.mv (.r rfl)) rfl<|VO.h rfl<|HO.lo (LO.bd (ps := [(_,_), (_,_)]) (vs := [(_,_), (_,_)]) (C := [_,_]) B73  ⟨(.r rfl), (.r rfl), trivial⟩ rfl ⟨_, [_], [_,_], rfl, rfl, rfl, rfl, ⟨_, [_], [_,_], rfl, rfl, rfl, rfl, rfl⟩⟩)<|VO.h0<|HO.st 2 (vs := [_,_]) (C' := [_,_]) (L' := [_,_,_]) N73 rfl rfl rfl rfl rfl rfl rfl rfl<|VO.nil ?_)
      refine VE.seqN ?_
      refine VC.ret (VE.res (vs := [_]) rfl ⟨RV.agg (vs := [_,_]) A73 rfl (cells_blk 2 rfl ⟨_, rfl⟩) rfl, trivial⟩ (fun w hw => ?_))
      rw [List.take_of_length_le (by omega)] at hL
      first | (have e := stO_0 h3; exact ⟨(o, po, co), hL, by rw [e]; rfl, hw.sel [0] rfl⟩) | (have e := stO_0 h3; exact ⟨(o, po, co), hL, by rw [e]; rfl, hw.sel [1] rfl⟩) | (have e := stO_0 h3; exact ⟨(o, po, co), hL, by rw [e]; rfl, hw.sel [2] rfl⟩) | (have e := stO_1 h3; exact ⟨(o, po, co), hL, by rw [e]; rfl, hw.sel [0] rfl⟩) | (have e := stO_1 h3; exact ⟨(o, po, co), hL, by rw [e]; rfl, hw.sel [1] rfl⟩) | (have e := stO_1 h3; exact ⟨(o, po, co), hL, by rw [e]; rfl, hw.sel [2] rfl⟩) | (have e := stO_2 h3; exact ⟨(o, po, co), hL, by rw [e]; rfl, hw.sel [0] rfl⟩) | (have e := stO_2 h3; exact ⟨(o, po, co), hL, by rw [e]; rfl, hw.sel [1] rfl⟩) | (have e := stO_2 h3; exact ⟨(o, po, co), hL, by rw [e]; rfl, hw.sel [2] rfl⟩)
    ·
      refine VC.reg (VO.h rfl<|HO.bs (ps := [(_,_), (_,_), (_,_)]) (vs := [(_,_), (_,_), (_,_)]) (Z := [_,_,_]) (C := [_,_,_]) S112 Z3 N3 ⟨(.r rfl), (.r rfl), (.r rfl), trivial⟩ rfl rfl rfl rfl ⟨_, [_], [_,_,_], rfl, rfl, rfl, rfl, ⟨_, [_], [_,_,_], rfl, rfl, rfl, rfl, ⟨_, [_], [_,_,_], rfl, rfl, rfl, rfl, rfl⟩⟩⟩ fun b11 => VO.l (LO.mv (.r rfl)) rfl<|VO.l (LO.len S71 (.r rfl) rfl) rfl<|VO.l (LO.min (.r rfl) (.r rfl)) rfl<|VO.h rfl<|HO.lo (LO.ixe (j := 1) (o := 0) S112 N3 (.r rfl) (.r rfl) (by omega) (by decide))<|VO.h rfl<|HO.lo (LO.ld O3 (.r rfl) (fun _ hw => cells_at hw 0 rfl ⟨_, rfl⟩))<|VO.l (LO.mv (.r rfl)) rfl<|VO.h rfl<|HO.lo (LO.bd (ps := [(_,_), (_,_)]) (vs := [(_,_), (_,_)]) (C := [_,_]) B73  ⟨(.r rfl), (.r rfl), trivial⟩ rfl ⟨_, [_], [_,_], rfl, rfl, rfl, rfl, ⟨_, [_], [_,_], rfl, rfl, rfl, rfl, rfl⟩⟩)<|VO.h0<|HO.st 2 (vs := [_,_]) (C' := [_,_]) (L' := [_,_,_]) N73 rfl rfl rfl rfl rfl rfl rfl rfl<|VO.nil ?_)
      refine VE.seqN ?_
      refine VC.ret (VE.res (vs := [_]) rfl ⟨RV.agg (vs := [_,_]) A73 rfl (cells_blk 2 rfl ⟨_, rfl⟩) rfl, trivial⟩ (fun w hw => ?_))
      rw [List.take_of_length_le (by omega)] at hL
      first | (have e := stO_0 h3; exact ⟨(o, po, co), hL, by rw [e]; rfl, hw.sel [0] rfl⟩) | (have e := stO_0 h3; exact ⟨(o, po, co), hL, by rw [e]; rfl, hw.sel [1] rfl⟩) | (have e := stO_0 h3; exact ⟨(o, po, co), hL, by rw [e]; rfl, hw.sel [2] rfl⟩) | (have e := stO_1 h3; exact ⟨(o, po, co), hL, by rw [e]; rfl, hw.sel [0] rfl⟩) | (have e := stO_1 h3; exact ⟨(o, po, co), hL, by rw [e]; rfl, hw.sel [1] rfl⟩) | (have e := stO_1 h3; exact ⟨(o, po, co), hL, by rw [e]; rfl, hw.sel [2] rfl⟩) | (have e := stO_2 h3; exact ⟨(o, po, co), hL, by rw [e]; rfl, hw.sel [0] rfl⟩) | (have e := stO_2 h3; exact ⟨(o, po, co), hL, by rw [e]; rfl, hw.sel [1] rfl⟩) | (have e := stO_2 h3; exact ⟨(o, po, co), hL, by rw [e]; rfl, hw.sel [2] rfl⟩)
    ·
      refine VC.reg (VO.h rfl<|HO.bs (ps := [(_,_), (_,_), (_,_)]) (vs := [(_,_), (_,_), (_,_)]) (Z := [_,_,_]) (C := [_,_,_]) S112 Z3 N3 ⟨(.r rfl), (.r rfl), (.r rfl), trivial⟩ rfl rfl rfl rfl ⟨_, [_], [_,_,_], rfl, rfl, rfl, rfl, ⟨_, [_], [_,_,_], rfl, rfl, rfl, rfl, ⟨_, [_], [_,_,_], rfl, rfl, rfl, rfl, rfl⟩⟩⟩ fun b13 => VO.l (LO.mv (.r rfl)) rfl<|VO.l (LO.len S71 (.r rfl) rfl) rfl<|VO.l (LO.min (.r rfl) (.r rfl)) rfl<|VO.h rfl<|HO.lo (LO.ixe (j := 2) (o := 0) S112 N3 (.r rfl) (.r rfl) (by omega) (by decide))<|VO.h rfl<|HO.lo (LO.ld O3 (.r rfl) (fun _ hw => cells_at hw 0 rfl ⟨_, rfl⟩))<|VO.l (LO.mv (.r rfl)) rfl<|VO.h rfl<|HO.lo (LO.bd (ps := [(_,_), (_,_)]) (vs := [(_,_), (_,_)]) (C := [_,_]) B73  ⟨(.r rfl), (.r rfl), trivial⟩ rfl ⟨_, [_], [_,_], rfl, rfl, rfl, rfl, ⟨_, [_], [_,_], rfl, rfl, rfl, rfl, rfl⟩⟩)<|VO.h0<|HO.st 2 (vs := [_,_]) (C' := [_,_]) (L' := [_,_,_]) N73 rfl rfl rfl rfl rfl rfl rfl rfl<|VO.nil ?_)
      refine VE.seqN ?_
      refine VC.ret (VE.res (vs := [_]) rfl ⟨RV.agg (vs := [_,_]) A73 rfl (cells_blk 2 rfl ⟨_, rfl⟩) rfl, trivial⟩ (fun w hw => ?_))
      rw [List.take_of_length_le (by omega)] at hL
      first | (have e := stO_0 h3; exact ⟨(o, po, co), hL, by rw [e]; rfl, hw.sel [0] rfl⟩) | (have e := stO_0 h3; exact ⟨(o, po, co), hL, by rw [e]; rfl, hw.sel [1] rfl⟩) | (have e := stO_0 h3; exact ⟨(o, po, co), hL, by rw [e]; rfl, hw.sel [2] rfl⟩) | (have e := stO_1 h3; exact ⟨(o, po, co), hL, by rw [e]; rfl, hw.sel [0] rfl⟩) | (have e := stO_1 h3; exact ⟨(o, po, co), hL, by rw [e]; rfl, hw.sel [1] rfl⟩) | (have e := stO_1 h3; exact ⟨(o, po, co), hL, by rw [e]; rfl, hw.sel [2] rfl⟩) | (have e := stO_2 h3; exact ⟨(o, po, co), hL, by rw [e]; rfl, hw.sel [0] rfl⟩) | (have e := stO_2 h3; exact ⟨(o, po, co), hL, by rw [e]; rfl, hw.sel [1] rfl⟩) | (have e := stO_2 h3; exact ⟨(o, po, co), hL, by rw [e]; rfl, hw.sel [2] rfl⟩)

end Go.Proofs.YtffbohecdocajaaGreat
