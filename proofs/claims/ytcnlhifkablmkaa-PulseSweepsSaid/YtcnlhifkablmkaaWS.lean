/-
  Names and sites are checked.
-/
import Derived.Test.YtcnlhifkablmkaaWR
namespace Go.Proofs.Ytcnlhifkablmkaa
open Go.SL Go.Proofs Go.Pulse
set_option linter.unusedVariables false

theorem C92 : IsFn Try.prog 92 := ⟨_, Try.func92, by decide, rfl⟩
theorem F92_0 : FieldAt Try.prog 92 0 0 := ⟨_, _, Try.underlying92, rfl, rfl, 0, by kernel_rfl⟩
theorem O9 : IsOne Try.prog 9 := ⟨⟨_, Try.underlying9, rfl⟩, by kernel_rfl⟩
theorem C85 : IsFn Try.prog 85 := ⟨_, Try.func85, by decide, rfl⟩
theorem F92_1 : FieldAt Try.prog 92 1 1 := ⟨_, _, Try.underlying92, rfl, rfl, 0, by kernel_rfl⟩
theorem C86 : IsFn Try.prog 86 := ⟨_, Try.func86, by decide, rfl⟩
theorem F92_4 : FieldAt Try.prog 92 4 4 := ⟨_, _, Try.underlying92, rfl, rfl, 0, by kernel_rfl⟩
theorem F92_5 : FieldAt Try.prog 92 5 5 := ⟨_, _, Try.underlying92, rfl, rfl, 0, by kernel_rfl⟩
theorem F92_6 : FieldAt Try.prog 92 6 6 := ⟨_, _, Try.underlying92, rfl, rfl, 0, by kernel_rfl⟩
theorem F92_7 : FieldAt Try.prog 92 7 7 := ⟨_, _, Try.underlying92, rfl, rfl, 0, by kernel_rfl⟩
theorem F92_2 : FieldAt Try.prog 92 2 2 := ⟨_, _, Try.underlying92, rfl, rfl, 0, by kernel_rfl⟩
theorem F92_3 : FieldAt Try.prog 92 3 3 := ⟨_, _, Try.underlying92, rfl, rfl, 0, by kernel_rfl⟩
theorem C87 : IsFn Try.prog 87 := ⟨_, Try.func87, by decide, rfl⟩


def byteAt (s : ByteArray) (j : Nat) : Nat := (s.data.toList.getD j 0).toNat
def nameB (s : ByteArray) : Bool := ((((decide (1 ≤ (s.size : Int)) && decide ((s.size : Int) ≤ 12)) && decide (97 ≤ (byteAt s 0 : Int))) && decide ((byteAt s 0 : Int) ≤ 122)) && (List.range s.size).all fun j => nameR (byteAt s j))
theorem nameB_iff {s : ByteArray} : nameB s = true ↔ (((1 ≤ (s.size : Int) ∧ (s.size : Int) ≤ 12) ∧ 97 ≤ (byteAt s 0 : Int)) ∧ (byteAt s 0 : Int) ≤ 122) ∧ ∀ j, j < s.size → nameR (byteAt s j) = true := by
  unfold nameB
  rw [Bool.and_eq_true, Bool.and_eq_true, Bool.and_eq_true, Bool.and_eq_true, List.all_eq_true]
  simp
theorem nameB_idx {s : ByteArray} : (!decide (0 ≤ idxF pN s s.size 0)) = (List.range s.size).all fun j => nameR (byteAt s j) := by
  have h := idxF_bytes (p := pN) (s := s) (fun r hr => pN_high r hr) (f := s.size) (q := 0) (by omega)
  rw [Bool.eq_iff_iff, List.all_eq_true]
  constructor
  · intro q j hj
    have h1 : idxF pN s s.size 0 < 0 := by simpa using q
    have := h.1 h1 j (Nat.zero_le _) (List.mem_range.1 hj)
    unfold pN at this
    cases k : nameR (byteAt s j) with
    | true => rfl
    | false => unfold byteAt at k; rw [k] at this; cases this
  · intro q
    have : idxF pN s s.size 0 < 0 := h.2 fun j _ hj => by
      have := q j (List.mem_range.2 hj)
      unfold byteAt at this
      unfold pN; rw [this]; rfl
    simpa using this
theorem nameB_no {s : ByteArray} (h : ¬ nameB s = true) : nameB s = false := by simpa using h
theorem LO.neE {P : Program} {β : Bs} {env : Env} {L : List Res} {d : Option Nat} {ty : TypeId} {pos : String} {aft : Array Edge} {g : Option (Nat × Bool)} {xT yT : Nat} {x y : Operand} {s : ByteArray} (hx : OV env x (.string s)) (hy : OV env y (.string ⟨#[]⟩)) : LO P β env L ⟨d, .binOp .neq xT x y yT, ty, pos, aft, g⟩ (.bool (decide (1 ≤ (s.size : Int)))) := by
  have h := LO.neS (P := P) (β := β) (L := L) (d := d) (ty := ty) (pos := pos) (aft := aft) (g := g) (xT := xT) (yT := yT) hx hy
  have e : (!(s.toList == (⟨#[]⟩ : ByteArray).toList)) = decide (1 ≤ (s.size : Int)) := by
    rw [ByteArray.toList_eq, ByteArray.toList_eq]
    have hs : s.data.toList.length = s.size := Array.length_toList
    cases q : s.data.toList with
    | nil => rw [q] at hs; simp at hs; simp [← hs]
    | cons b l => rw [q] at hs; simp at hs; simp; omega
  rw [e] at h
  exact h

theorem nameR_bad {b : Nat} (h : ((((b : Int) < 97) ∨ ((122 : Int) < b)) ∧ (((b : Int) < 48) ∨ ((57 : Int) < b))) ∧ ¬ (b : Int) = 95) (q : nameR b = true) : False := by
  unfold nameR at q
  simp at q
  omega
theorem nameR_no {b : Nat} (h : ¬ nameR b = true) : ((((b : Int) < 97) ∨ ((122 : Int) < b)) ∧ (((b : Int) < 48) ∨ ((57 : Int) < b))) ∧ ¬ (b : Int) = 95 := by
  unfold nameR at h
  simp at h
  omega
theorem name_step {s : ByteArray} {i : Nat} (hz : ∀ k, k < i → nameR (byteAt s k) = true) (h : ¬ ¬ nameR (byteAt s i) = true) : ∀ k, k < i + 1 → nameR (byteAt s k) = true := fun k hk => by
  by_cases q : k = i
  · subst q; exact Classical.not_not.1 h
  · exact hz k (by omega)
structure Site where
  name : ByteArray
  x : Int
  y : Int
  z : Int
  rose : Int
  gates : Int
  step : Int
  width : Int
def siteC (s : Site) : List Value := [.string s.name, .int .i64 s.x, .int .i64 s.y, .int .i64 s.z, .int .i64 s.rose, .int .i64 s.gates, .int .i64 s.step, .int .i64 s.width]
def siteOk (s : Site) : Prop := ((((((((-1048576 ≤ s.x ∧ s.x ≤ 1048576) ∧ -1048576 ≤ s.y ∧ s.y ≤ 1048576) ∧ 0 ≤ s.z ∧ s.z ≤ 20000) ∧ 1 ≤ s.rose ∧ s.rose ≤ 90) ∧ 1 ≤ s.gates ∧ s.gates ≤ 200) ∧ 50 ≤ s.step ∧ s.step ≤ 2000) ∧ 0 ≤ s.width ∧ s.width ≤ 8))
instance (s : Site) : Decidable (siteOk s) := by unfold siteOk; exact inferInstance
def siteE (s : Site) : Int := if nameB s.name = true then (if siteOk s then 0 else 3) else 10
theorem siteE1 {s : Site} (h : ¬ nameB s.name = true) : siteE s = 10 := if_neg h
theorem siteE2 {s : Site} (h : nameB s.name = true) (k : ¬ siteOk s) : siteE s = 3 := by unfold siteE; rw [if_pos h, if_neg k]
theorem siteE3 {s : Site} (h : nameB s.name = true) (k : siteOk s) : siteE s = 0 := by unfold siteE; rw [if_pos h, if_pos k]
theorem nn {b : Bool} (h : ¬ ¬ b = true) : b = true := Classical.not_not.1 h

set_option maxRecDepth 20000 in
theorem Name_c (s : ByteArray) (w : World) :
  Calls Try.prog 85 #[.string s] w fun e w' => e = .returned (.bool (nameB s)) ∧ St (bs w) [] w' := by
  refine enter (vs := [_]) (env := [(0, _)]) Try.func85 rfl rfl rfl rfl ?_
  refine VC.seq ?_
  refine VC.reg (VO.l (LO.as (.r rfl)) rfl <| VO.nil ?_)
  refine VE.seqN ?_
  refine VC.seq ?_
  refine VC.reg (VO.l (LO.mv (.r rfl)) rfl <| VO.l (LO.neE (.r rfl) (.r rfl)) rfl <| VO.l (LO.mv (.r rfl)) rfl <| VO.lg rfl rfl (GD.t _) (fun hg => LO.mv (.r rfl)) rfl <| VO.lg rfl rfl (GD.t _) (fun hg => LO.lenS Try.underlying9 (.g hg rfl) rfl) rfl <| VO.lg rfl rfl (GD.t _) (fun hg => LO.le (.g hg rfl) (.r rfl)) rfl <| VO.l (LO.pkA (.r rfl) rfl rfl (.r rfl)) rfl <| VO.l (LO.mv (.r rfl)) rfl <| VO.lg rfl rfl (GD.t _) (fun hg => LO.mv (.r rfl)) rfl <| VO.lg rfl rfl (GD.t _) (fun hg => LO.ixS (j := 0) Try.underlying9 (.g hg rfl) (.r rfl) rfl (by have q := IsP.yes inferInstance hg; omega)) rfl <| VO.lg rfl rfl (GD.t _) (fun hg => LO.ge (.g hg rfl) (.r rfl)) rfl <| VO.l (LO.pkA (.r rfl) rfl rfl (.r rfl)) rfl <| VO.l (LO.mv (.r rfl)) rfl <| VO.lg rfl rfl (GD.t _) (fun hg => LO.mv (.r rfl)) rfl <| VO.lg rfl rfl (GD.t _) (fun hg => LO.ixS (j := 0) Try.underlying9 (.g hg rfl) (.r rfl) rfl (by have q := IsP.yes inferInstance hg; omega)) rfl <| VO.lg rfl rfl (GD.t _) (fun hg => LO.le (.g hg rfl) (.r rfl)) rfl <| VO.l (LO.pkA (.r rfl) rfl rfl (.r rfl)) rfl <| VO.l (LO.mv (.r rfl)) rfl <| VO.lg rfl rfl (GD.t _) (fun hg => LO.mv (.r rfl)) rfl <| VO.lg rfl rfl (GD.t _) (fun hg => LO.call (xs := [_, _]) (vs := [_, _]) C92 ⟨(.g hg rfl), (.r rfl), trivial⟩ (fun w _ => ContainsFunc_c _ w)) rfl <| VO.lg rfl rfl (GD.t _) (fun hg => LO.not (.g hg rfl)) rfl <| VO.l (LO.pkA (.r rfl) rfl rfl (.r rfl)) rfl <| VO.l (LO.as (.r rfl)) rfl <| VO.nil ?_)
  refine VE.seqN ?_
  refine VC.ret (VE.res (vs := [_]) rfl ⟨rfl, trivial⟩ (fun w hw => ?_))
  exact ⟨by simp only [resV]; rw [nameB_idx]; rfl, hw.nil⟩

set_option maxRecDepth 20000 in
theorem rName_c (s : ByteArray) (w : World) :
  Calls Try.prog 87 #[.string s] w fun e w' => e = .returned (.bool (nameB s)) ∧ St (bs w) [] w' := by
  refine enter (vs := [_]) (env := [(0, _)]) Try.func87 rfl rfl rfl rfl ?_
  refine VC.seq ?_
  refine VC.reg (VO.l (LO.as (.r rfl)) rfl <| VO.nil ?_)
  refine VE.seqN ?_
  refine VC.seq ?_
  refine VC.seq ?_
  refine VC.reg (VO.l (LO.mv (.r rfl)) rfl <| VO.l (LO.lenS Try.underlying9 (.r rfl) rfl) rfl <| VO.l (LO.lt (.r rfl) (.r rfl)) rfl <| VO.l (LO.mv (.r rfl)) rfl <| VO.lg rfl rfl (GD.f _) (fun hg => LO.mv (.r rfl)) rfl <| VO.lg rfl rfl (GD.f _) (fun hg => LO.lenS Try.underlying9 (.g hg rfl) rfl) rfl <| VO.lg rfl rfl (GD.f _) (fun hg => LO.gt (.g hg rfl) (.r rfl)) rfl <| VO.l (LO.pkO (.r rfl) (.r rfl) rfl rfl) rfl <| VO.l (LO.mv (.r rfl)) rfl <| VO.lg rfl rfl (GD.f _) (fun hg => LO.mv (.r rfl)) rfl <| VO.lg rfl rfl (GD.f _) (fun hg => LO.ixS (j := 0) Try.underlying9 (.g hg rfl) (.r rfl) rfl (by have q := IsP.yes inferInstance hg; omega)) rfl <| VO.lg rfl rfl (GD.f _) (fun hg => LO.lt (.g hg rfl) (.r rfl)) rfl <| VO.l (LO.pkO (.r rfl) (.r rfl) rfl rfl) rfl <| VO.l (LO.mv (.r rfl)) rfl <| VO.lg rfl rfl (GD.f _) (fun hg => LO.mv (.r rfl)) rfl <| VO.lg rfl rfl (GD.f _) (fun hg => LO.ixS (j := 0) Try.underlying9 (.g hg rfl) (.r rfl) rfl (by have q := IsP.yes inferInstance hg; omega)) rfl <| VO.lg rfl rfl (GD.f _) (fun hg => LO.gt (.g hg rfl) (.r rfl)) rfl <| VO.l (LO.pkO (.r rfl) (.r rfl) rfl rfl) rfl <| VO.nil ?_)
  refine VE.seqN ?_
  refine VC.cond rfl (fun h22 => ?_) (fun h22 => ?_)
  ·
    refine VC.seq ?_
    refine VC.reg (VO.l (LO.as (.r rfl)) rfl <| VO.nil ?_)
    refine VE.seqN ?_
    refine VC.ret (VE.thenR (VE.res (vs := [_]) rfl ⟨rfl, trivial⟩ (fun w hw => ?_)))
    refine ⟨?_, hw.nil⟩
    simp only [resV]
    first | (rw [nameB_iff.2 ⟨⟨⟨by omega, by omega⟩, by omega⟩, fun j hj => hz j (by omega)⟩]) | (rw [nameB_no (fun q => by have := nameB_iff.1 q; unfold byteAt at this; omega)]) | (rw [nameB_no (fun q => nameR_bad h49 ((nameB_iff.1 q).2 i (by omega)))])
  ·
    have hsz : (1 ≤ s.size ∧ s.size ≤ 12) := by omega
    have hb0 : 97 ≤ (byteAt s 0 : Int) ∧ (byteAt s 0 : Int) ≤ 122 := by unfold byteAt; omega
    refine VC.skip (VE.seqN ?_)
    refine VC.seq ?_
    refine VC.seq ?_
    refine VC.reg (VO.l (LO.as (.r rfl)) rfl <| VO.nil ?_)
    refine VE.seqN ?_
    refine VC.block ?_
    refine VC.loopK (α := Nat) 0 (fun gx => [(3, .int .i64 (gx : Nat))]) [(0, _)] (fun gx => []) (fun gx => gx ≤ s.size ∧ ∀ k, k < gx → nameR (byteAt s k) = true) (fun gx => s.size - gx) 0 (by exact ⟨Nat.zero_le _, fun k hk => by omega⟩) (.cons rfl (.cons rfl .nil)) (fun _ h => h) ?_
    rintro i ⟨hi, hz⟩
    refine VC.seq ?_
    refine VC.seq ?_
    refine VC.reg (VO.l (LO.mv (.r rfl)) rfl <| VO.l (LO.mv (.r rfl)) rfl <| VO.l (LO.lenS Try.underlying9 (.r rfl) rfl) rfl <| VO.l (LO.lt (.r rfl) (.r rfl)) rfl <| VO.nil ?_)
    refine VE.seqN ?_
    refine VC.cond rfl (fun h2 => ?_) (fun h2 => ?_)
    ·
      refine VC.skip (VE.seqN ?_)
      refine VC.seq ?_
      refine VC.block ?_
      refine VC.seq ?_
      refine VC.reg (VO.l (LO.mv (.r rfl)) rfl <| VO.l (LO.mv (.r rfl)) rfl <| VO.l (LO.ixS (j := i) Try.underlying9 (.r rfl) (.r rfl) rfl (by omega)) rfl <| VO.l (LO.as (.r rfl)) rfl <| VO.nil ?_)
      refine VE.seqN ?_
      refine VC.seq ?_
      refine VC.reg (VO.l (LO.mv (.r rfl)) rfl <| VO.l (LO.lt (.r rfl) (.r rfl)) rfl <| VO.l (LO.mv (.r rfl)) rfl <| VO.lg rfl rfl (GD.f _) (fun hg => LO.mv (.r rfl)) rfl <| VO.lg rfl rfl (GD.f _) (fun hg => LO.gt (.g hg rfl) (.r rfl)) rfl <| VO.l (LO.pkO (.r rfl) (.r rfl) rfl rfl) rfl <| VO.l (LO.mv (.r rfl)) rfl <| VO.lg rfl rfl (GD.t _) (fun hg => LO.mv (.r rfl)) rfl <| VO.lg rfl rfl (GD.t _) (fun hg => LO.lt (.g hg rfl) (.r rfl)) rfl <| VO.lg rfl rfl (GD.t _) (fun hg => LO.mv (.g hg rfl)) rfl <| VO.lg rfl rfl (GD.nf _ _) (fun hg => LO.mv (.r rfl)) rfl <| VO.lg rfl rfl (GD.nf _ _) (fun hg => LO.gt (.g hg rfl) (.r rfl)) rfl <| VO.lg rfl rfl (GD.t _) (fun hg => LO.pkO (.g hg rfl) (.r rfl) rfl (and_e hg)) rfl <| VO.l (LO.pkA (.r rfl) rfl rfl (.r rfl)) rfl <| VO.l (LO.mv (.r rfl)) rfl <| VO.lg rfl rfl (GD.t _) (fun hg => LO.mv (.r rfl)) rfl <| VO.lg rfl rfl (GD.t _) (fun hg => LO.ne (.g hg rfl) (.r rfl)) rfl <| VO.l (LO.pkA (.r rfl) rfl rfl (.r rfl)) rfl <| VO.nil ?_)
      refine VE.seqN ?_
      refine VC.cond rfl (fun h49 => ?_) (fun h49 => ?_)
      ·
        refine VC.seq ?_
        refine VC.reg (VO.l (LO.as (.r rfl)) rfl <| VO.nil ?_)
        refine VE.seqN ?_
        refine VC.ret (VE.inR (VE.thenR (VE.thenR (VE.inR (VE.thenR (VE.res (vs := [_]) rfl ⟨rfl, trivial⟩ (fun w hw => ?_)))))))
        refine ⟨?_, hw.nil⟩
        simp only [resV]
        first | (rw [nameB_iff.2 ⟨⟨⟨by omega, by omega⟩, by omega⟩, fun j hj => hz j (by omega)⟩]) | (rw [nameB_no (fun q => by have := nameB_iff.1 q; unfold byteAt at this; omega)]) | (rw [nameB_no (fun q => nameR_bad h49 ((nameB_iff.1 q).2 i (by omega)))])
      ·
        refine VC.skip (VE.inN (VE.seqN ?_))
        refine VC.reg (VO.l (LO.mv (.r rfl)) rfl <| VO.l (LO.add (.r rfl) (.r rfl) (wi (by omega) (by omega))) rfl <| VO.l (LO.as (.r rfl)) rfl <| VO.nil ?_)
        refine VE.thenN fun a w ha hw => ⟨i + 1, ⟨by omega, name_step hz (fun q => h49 (nameR_no q))⟩, (by omega), ha.sub (.cons rfl (.cons rfl .nil)), hw⟩
    ·
      refine VC.exit (VE.thenX (VE.thenX (VE.inX (VE.seqN ?_))))
      refine VC.seq ?_
      refine VC.reg (VO.l (LO.as (.r rfl)) rfl <| VO.nil ?_)
      refine VE.seqN ?_
      refine VC.ret (VE.res (vs := [_]) rfl ⟨rfl, trivial⟩ (fun w hw => ?_))
      refine ⟨?_, hw.nil⟩
      simp only [resV]
      first | (rw [nameB_iff.2 ⟨⟨⟨by omega, by omega⟩, by omega⟩, fun j hj => hz j (by omega)⟩]) | (rw [nameB_no (fun q => by have := nameB_iff.1 q; unfold byteAt at this; omega)]) | (rw [nameB_no (fun q => nameR_bad h49 ((nameB_iff.1 q).2 i (by omega)))])

set_option maxRecDepth 20000 in
theorem CheckSite_c (s : Site) (w : World) :
  Calls Try.prog 72 #[.agg (siteC s).toArray] w fun e w' => e = .returned (.int .i64 (siteE s)) ∧ St (bs w) [] w' := by
  refine enter (vs := [_]) (env := [(0, _)]) Try.func72 rfl rfl rfl rfl ?_
  refine VC.seq ?_
  refine VC.reg (VO.h rfl <| HO.box (C := #[_, _, _, _, _, _, _, _]) rfl rfl fun b1 => VO.l (LO.as (.r rfl)) rfl <| VO.nil ?_)
  refine VE.seqN ?_
  refine VC.seq ?_
  refine VC.block ?_
  refine VC.seq ?_
  refine VC.reg (VO.l (LO.fa (r := 0) F92_0 (.r rfl) rfl) rfl <| VO.l (LO.ld O9 (.r rfl) (fun _ hw => cells_at hw 0 rfl ⟨_, rfl⟩)) rfl <| VO.l (LO.call (xs := [_]) (vs := [_]) C85 ⟨(.r rfl), trivial⟩ (fun w _ => Name_c _ w)) rfl <| VO.l (LO.not (.r rfl)) rfl <| VO.l (LO.as (.r rfl)) rfl <| VO.nil ?_)
  refine VE.seqN ?_
  refine VC.cond rfl (fun hNm => ?_) (fun hNm => ?_)
  ·
    refine VC.seq ?_
    refine VC.reg (VO.l (LO.as (.r rfl)) rfl <| VO.nil ?_)
    refine VE.seqN ?_
    refine VC.ret (VE.inR (VE.thenR (VE.res (vs := [_]) rfl ⟨rfl, trivial⟩ (fun w hw => ?_))))
    refine ⟨?_, hw.nil⟩
    simp only [resV]
    first | (exfalso; omega) | rw [siteE1 hNm] | rw [siteE2 (nn hNm) (by unfold siteOk; omega)] | rw [siteE3 (nn hNm) (by unfold siteOk; omega)]
  ·
    refine VC.seq ?_
    refine VC.seq ?_
    refine VC.reg (VO.l (LO.fa (r := 1) F92_1 (.r rfl) rfl) rfl <| VO.l (LO.ld O3 (.r rfl) (fun _ hw => cells_at hw 0 rfl ⟨_, rfl⟩)) rfl <| VO.l (LO.call (xs := [_, _, _]) (vs := [_, _, _]) C86 ⟨(.r rfl), (.r rfl), (.r rfl), trivial⟩ (fun w _ => bwithin_c _ _ _ w)) rfl <| VO.l (LO.not (.r rfl)) rfl <| VO.l (LO.as (.r rfl)) rfl <| VO.nil ?_)
    refine VE.seqN ?_
    refine VC.cond rfl (fun h2 => ?_) (fun h2 => ?_)
    ·
      refine VC.skip (VE.seqN ?_)
      refine VC.cond rfl (fun h3 => ?_) (fun h3 => ?_)
      ·
        refine VC.seq ?_
        refine VC.reg (VO.l (LO.as (.r rfl)) rfl <| VO.nil ?_)
        refine VE.seqN ?_
        refine VC.ret (VE.inR (VE.thenR (VE.res (vs := [_]) rfl ⟨rfl, trivial⟩ (fun w hw => ?_))))
        refine ⟨?_, hw.nil⟩
        simp only [resV]
        first | (exfalso; omega) | rw [siteE1 hNm] | rw [siteE2 (nn hNm) (by unfold siteOk; omega)] | rw [siteE3 (nn hNm) (by unfold siteOk; omega)]
      ·
        refine VC.seq ?_
        refine VC.seq ?_
        refine VC.reg (VO.l (LO.fa (r := 4) F92_4 (.r rfl) rfl) rfl <| VO.l (LO.ld O3 (.r rfl) (fun _ hw => cells_at hw 0 rfl ⟨_, rfl⟩)) rfl <| VO.l (LO.call (xs := [_, _, _]) (vs := [_, _, _]) C86 ⟨(.r rfl), (.r rfl), (.r rfl), trivial⟩ (fun w _ => bwithin_c _ _ _ w)) rfl <| VO.l (LO.not (.r rfl)) rfl <| VO.l (LO.as (.r rfl)) rfl <| VO.nil ?_)
        refine VE.seqN ?_
        refine VC.cond rfl (fun h4 => ?_) (fun h4 => ?_)
        ·
          refine VC.skip (VE.seqN ?_)
          refine VC.cond rfl (fun h5 => ?_) (fun h5 => ?_)
          ·
            refine VC.seq ?_
            refine VC.reg (VO.l (LO.as (.r rfl)) rfl <| VO.nil ?_)
            refine VE.seqN ?_
            refine VC.ret (VE.inR (VE.thenR (VE.res (vs := [_]) rfl ⟨rfl, trivial⟩ (fun w hw => ?_))))
            refine ⟨?_, hw.nil⟩
            simp only [resV]
            first | (exfalso; omega) | rw [siteE1 hNm] | rw [siteE2 (nn hNm) (by unfold siteOk; omega)] | rw [siteE3 (nn hNm) (by unfold siteOk; omega)]
          ·
            refine VC.skip (VE.inN (VE.seqN ?_))
            refine VC.seq ?_
            refine VC.reg (VO.l (LO.as (.r rfl)) rfl <| VO.nil ?_)
            refine VE.seqN ?_
            refine VC.ret (VE.res (vs := [_]) rfl ⟨rfl, trivial⟩ (fun w hw => ?_))
            refine ⟨?_, hw.nil⟩
            simp only [resV]
            first | (exfalso; omega) | rw [siteE1 hNm] | rw [siteE2 (nn hNm) (by unfold siteOk; omega)] | rw [siteE3 (nn hNm) (by unfold siteOk; omega)]
        ·
          refine VC.seq ?_
          refine VC.reg (VO.l (LO.fa (r := 5) F92_5 (.r rfl) rfl) rfl <| VO.l (LO.ld O3 (.r rfl) (fun _ hw => cells_at hw 0 rfl ⟨_, rfl⟩)) rfl <| VO.l (LO.call (xs := [_, _, _]) (vs := [_, _, _]) C86 ⟨(.r rfl), (.r rfl), (.r rfl), trivial⟩ (fun w _ => bwithin_c _ _ _ w)) rfl <| VO.l (LO.not (.r rfl)) rfl <| VO.l (LO.as (.r rfl)) rfl <| VO.nil ?_)
          refine VE.seqN ?_
          refine VC.cond rfl (fun h6 => ?_) (fun h6 => ?_)
          ·
            refine VC.skip (VE.seqN ?_)
            refine VC.cond rfl (fun h7 => ?_) (fun h7 => ?_)
            ·
              refine VC.seq ?_
              refine VC.reg (VO.l (LO.as (.r rfl)) rfl <| VO.nil ?_)
              refine VE.seqN ?_
              refine VC.ret (VE.inR (VE.thenR (VE.res (vs := [_]) rfl ⟨rfl, trivial⟩ (fun w hw => ?_))))
              refine ⟨?_, hw.nil⟩
              simp only [resV]
              first | (exfalso; omega) | rw [siteE1 hNm] | rw [siteE2 (nn hNm) (by unfold siteOk; omega)] | rw [siteE3 (nn hNm) (by unfold siteOk; omega)]
            ·
              refine VC.skip (VE.inN (VE.seqN ?_))
              refine VC.seq ?_
              refine VC.reg (VO.l (LO.as (.r rfl)) rfl <| VO.nil ?_)
              refine VE.seqN ?_
              refine VC.ret (VE.res (vs := [_]) rfl ⟨rfl, trivial⟩ (fun w hw => ?_))
              refine ⟨?_, hw.nil⟩
              simp only [resV]
              first | (exfalso; omega) | rw [siteE1 hNm] | rw [siteE2 (nn hNm) (by unfold siteOk; omega)] | rw [siteE3 (nn hNm) (by unfold siteOk; omega)]
          ·
            refine VC.seq ?_
            refine VC.reg (VO.l (LO.fa (r := 6) F92_6 (.r rfl) rfl) rfl <| VO.l (LO.ld O3 (.r rfl) (fun _ hw => cells_at hw 0 rfl ⟨_, rfl⟩)) rfl <| VO.l (LO.call (xs := [_, _, _]) (vs := [_, _, _]) C86 ⟨(.r rfl), (.r rfl), (.r rfl), trivial⟩ (fun w _ => bwithin_c _ _ _ w)) rfl <| VO.l (LO.not (.r rfl)) rfl <| VO.l (LO.as (.r rfl)) rfl <| VO.nil ?_)
            refine VE.seqN ?_
            refine VC.cond rfl (fun h8 => ?_) (fun h8 => ?_)
            ·
              refine VC.skip (VE.seqN ?_)
              refine VC.cond rfl (fun h9 => ?_) (fun h9 => ?_)
              ·
                refine VC.seq ?_
                refine VC.reg (VO.l (LO.as (.r rfl)) rfl <| VO.nil ?_)
                refine VE.seqN ?_
                refine VC.ret (VE.inR (VE.thenR (VE.res (vs := [_]) rfl ⟨rfl, trivial⟩ (fun w hw => ?_))))
                refine ⟨?_, hw.nil⟩
                simp only [resV]
                first | (exfalso; omega) | rw [siteE1 hNm] | rw [siteE2 (nn hNm) (by unfold siteOk; omega)] | rw [siteE3 (nn hNm) (by unfold siteOk; omega)]
              ·
                refine VC.skip (VE.inN (VE.seqN ?_))
                refine VC.seq ?_
                refine VC.reg (VO.l (LO.as (.r rfl)) rfl <| VO.nil ?_)
                refine VE.seqN ?_
                refine VC.ret (VE.res (vs := [_]) rfl ⟨rfl, trivial⟩ (fun w hw => ?_))
                refine ⟨?_, hw.nil⟩
                simp only [resV]
                first | (exfalso; omega) | rw [siteE1 hNm] | rw [siteE2 (nn hNm) (by unfold siteOk; omega)] | rw [siteE3 (nn hNm) (by unfold siteOk; omega)]
            ·
              refine VC.reg (VO.l (LO.fa (r := 7) F92_7 (.r rfl) rfl) rfl <| VO.l (LO.ld O3 (.r rfl) (fun _ hw => cells_at hw 0 rfl ⟨_, rfl⟩)) rfl <| VO.l (LO.call (xs := [_, _, _]) (vs := [_, _, _]) C86 ⟨(.r rfl), (.r rfl), (.r rfl), trivial⟩ (fun w _ => bwithin_c _ _ _ w)) rfl <| VO.l (LO.not (.r rfl)) rfl <| VO.l (LO.as (.r rfl)) rfl <| VO.nil ?_)
              refine VE.seqN ?_
              refine VC.cond rfl (fun h10 => ?_) (fun h10 => ?_)
              ·
                refine VC.seq ?_
                refine VC.reg (VO.l (LO.as (.r rfl)) rfl <| VO.nil ?_)
                refine VE.seqN ?_
                refine VC.ret (VE.inR (VE.thenR (VE.res (vs := [_]) rfl ⟨rfl, trivial⟩ (fun w hw => ?_))))
                refine ⟨?_, hw.nil⟩
                simp only [resV]
                first | (exfalso; omega) | rw [siteE1 hNm] | rw [siteE2 (nn hNm) (by unfold siteOk; omega)] | rw [siteE3 (nn hNm) (by unfold siteOk; omega)]
              ·
                refine VC.skip (VE.inN (VE.seqN ?_))
                refine VC.seq ?_
                refine VC.reg (VO.l (LO.as (.r rfl)) rfl <| VO.nil ?_)
                refine VE.seqN ?_
                refine VC.ret (VE.res (vs := [_]) rfl ⟨rfl, trivial⟩ (fun w hw => ?_))
                refine ⟨?_, hw.nil⟩
                simp only [resV]
                first | (exfalso; omega) | rw [siteE1 hNm] | rw [siteE2 (nn hNm) (by unfold siteOk; omega)] | rw [siteE3 (nn hNm) (by unfold siteOk; omega)]
    ·
      refine VC.seq ?_
      refine VC.reg (VO.l (LO.fa (r := 2) F92_2 (.r rfl) rfl) rfl <| VO.l (LO.ld O3 (.r rfl) (fun _ hw => cells_at hw 0 rfl ⟨_, rfl⟩)) rfl <| VO.l (LO.call (xs := [_, _, _]) (vs := [_, _, _]) C86 ⟨(.r rfl), (.r rfl), (.r rfl), trivial⟩ (fun w _ => bwithin_c _ _ _ w)) rfl <| VO.l (LO.not (.r rfl)) rfl <| VO.l (LO.as (.r rfl)) rfl <| VO.nil ?_)
      refine VE.seqN ?_
      refine VC.cond rfl (fun h11 => ?_) (fun h11 => ?_)
      ·
        refine VC.skip (VE.seqN ?_)
        refine VC.cond rfl (fun h12 => ?_) (fun h12 => ?_)
        ·
          refine VC.seq ?_
          refine VC.reg (VO.l (LO.as (.r rfl)) rfl <| VO.nil ?_)
          refine VE.seqN ?_
          refine VC.ret (VE.inR (VE.thenR (VE.res (vs := [_]) rfl ⟨rfl, trivial⟩ (fun w hw => ?_))))
          refine ⟨?_, hw.nil⟩
          simp only [resV]
          first | (exfalso; omega) | rw [siteE1 hNm] | rw [siteE2 (nn hNm) (by unfold siteOk; omega)] | rw [siteE3 (nn hNm) (by unfold siteOk; omega)]
        ·
          refine VC.seq ?_
          refine VC.seq ?_
          refine VC.reg (VO.l (LO.fa (r := 4) F92_4 (.r rfl) rfl) rfl <| VO.l (LO.ld O3 (.r rfl) (fun _ hw => cells_at hw 0 rfl ⟨_, rfl⟩)) rfl <| VO.l (LO.call (xs := [_, _, _]) (vs := [_, _, _]) C86 ⟨(.r rfl), (.r rfl), (.r rfl), trivial⟩ (fun w _ => bwithin_c _ _ _ w)) rfl <| VO.l (LO.not (.r rfl)) rfl <| VO.l (LO.as (.r rfl)) rfl <| VO.nil ?_)
          refine VE.seqN ?_
          refine VC.cond rfl (fun h13 => ?_) (fun h13 => ?_)
          ·
            refine VC.skip (VE.seqN ?_)
            refine VC.cond rfl (fun h14 => ?_) (fun h14 => ?_)
            ·
              refine VC.seq ?_
              refine VC.reg (VO.l (LO.as (.r rfl)) rfl <| VO.nil ?_)
              refine VE.seqN ?_
              refine VC.ret (VE.inR (VE.thenR (VE.res (vs := [_]) rfl ⟨rfl, trivial⟩ (fun w hw => ?_))))
              refine ⟨?_, hw.nil⟩
              simp only [resV]
              first | (exfalso; omega) | rw [siteE1 hNm] | rw [siteE2 (nn hNm) (by unfold siteOk; omega)] | rw [siteE3 (nn hNm) (by unfold siteOk; omega)]
            ·
              refine VC.skip (VE.inN (VE.seqN ?_))
              refine VC.seq ?_
              refine VC.reg (VO.l (LO.as (.r rfl)) rfl <| VO.nil ?_)
              refine VE.seqN ?_
              refine VC.ret (VE.res (vs := [_]) rfl ⟨rfl, trivial⟩ (fun w hw => ?_))
              refine ⟨?_, hw.nil⟩
              simp only [resV]
              first | (exfalso; omega) | rw [siteE1 hNm] | rw [siteE2 (nn hNm) (by unfold siteOk; omega)] | rw [siteE3 (nn hNm) (by unfold siteOk; omega)]
          ·
            refine VC.seq ?_
            refine VC.reg (VO.l (LO.fa (r := 5) F92_5 (.r rfl) rfl) rfl <| VO.l (LO.ld O3 (.r rfl) (fun _ hw => cells_at hw 0 rfl ⟨_, rfl⟩)) rfl <| VO.l (LO.call (xs := [_, _, _]) (vs := [_, _, _]) C86 ⟨(.r rfl), (.r rfl), (.r rfl), trivial⟩ (fun w _ => bwithin_c _ _ _ w)) rfl <| VO.l (LO.not (.r rfl)) rfl <| VO.l (LO.as (.r rfl)) rfl <| VO.nil ?_)
            refine VE.seqN ?_
            refine VC.cond rfl (fun h15 => ?_) (fun h15 => ?_)
            ·
              refine VC.skip (VE.seqN ?_)
              refine VC.cond rfl (fun h16 => ?_) (fun h16 => ?_)
              ·
                refine VC.seq ?_
                refine VC.reg (VO.l (LO.as (.r rfl)) rfl <| VO.nil ?_)
                refine VE.seqN ?_
                refine VC.ret (VE.inR (VE.thenR (VE.res (vs := [_]) rfl ⟨rfl, trivial⟩ (fun w hw => ?_))))
                refine ⟨?_, hw.nil⟩
                simp only [resV]
                first | (exfalso; omega) | rw [siteE1 hNm] | rw [siteE2 (nn hNm) (by unfold siteOk; omega)] | rw [siteE3 (nn hNm) (by unfold siteOk; omega)]
              ·
                refine VC.skip (VE.inN (VE.seqN ?_))
                refine VC.seq ?_
                refine VC.reg (VO.l (LO.as (.r rfl)) rfl <| VO.nil ?_)
                refine VE.seqN ?_
                refine VC.ret (VE.res (vs := [_]) rfl ⟨rfl, trivial⟩ (fun w hw => ?_))
                refine ⟨?_, hw.nil⟩
                simp only [resV]
                first | (exfalso; omega) | rw [siteE1 hNm] | rw [siteE2 (nn hNm) (by unfold siteOk; omega)] | rw [siteE3 (nn hNm) (by unfold siteOk; omega)]
            ·
              refine VC.seq ?_
              refine VC.reg (VO.l (LO.fa (r := 6) F92_6 (.r rfl) rfl) rfl <| VO.l (LO.ld O3 (.r rfl) (fun _ hw => cells_at hw 0 rfl ⟨_, rfl⟩)) rfl <| VO.l (LO.call (xs := [_, _, _]) (vs := [_, _, _]) C86 ⟨(.r rfl), (.r rfl), (.r rfl), trivial⟩ (fun w _ => bwithin_c _ _ _ w)) rfl <| VO.l (LO.not (.r rfl)) rfl <| VO.l (LO.as (.r rfl)) rfl <| VO.nil ?_)
              refine VE.seqN ?_
              refine VC.cond rfl (fun h17 => ?_) (fun h17 => ?_)
              ·
                refine VC.skip (VE.seqN ?_)
                refine VC.cond rfl (fun h18 => ?_) (fun h18 => ?_)
                ·
                  refine VC.seq ?_
                  refine VC.reg (VO.l (LO.as (.r rfl)) rfl <| VO.nil ?_)
                  refine VE.seqN ?_
                  refine VC.ret (VE.inR (VE.thenR (VE.res (vs := [_]) rfl ⟨rfl, trivial⟩ (fun w hw => ?_))))
                  refine ⟨?_, hw.nil⟩
                  simp only [resV]
                  first | (exfalso; omega) | rw [siteE1 hNm] | rw [siteE2 (nn hNm) (by unfold siteOk; omega)] | rw [siteE3 (nn hNm) (by unfold siteOk; omega)]
                ·
                  refine VC.skip (VE.inN (VE.seqN ?_))
                  refine VC.seq ?_
                  refine VC.reg (VO.l (LO.as (.r rfl)) rfl <| VO.nil ?_)
                  refine VE.seqN ?_
                  refine VC.ret (VE.res (vs := [_]) rfl ⟨rfl, trivial⟩ (fun w hw => ?_))
                  refine ⟨?_, hw.nil⟩
                  simp only [resV]
                  first | (exfalso; omega) | rw [siteE1 hNm] | rw [siteE2 (nn hNm) (by unfold siteOk; omega)] | rw [siteE3 (nn hNm) (by unfold siteOk; omega)]
              ·
                refine VC.reg (VO.l (LO.fa (r := 7) F92_7 (.r rfl) rfl) rfl <| VO.l (LO.ld O3 (.r rfl) (fun _ hw => cells_at hw 0 rfl ⟨_, rfl⟩)) rfl <| VO.l (LO.call (xs := [_, _, _]) (vs := [_, _, _]) C86 ⟨(.r rfl), (.r rfl), (.r rfl), trivial⟩ (fun w _ => bwithin_c _ _ _ w)) rfl <| VO.l (LO.not (.r rfl)) rfl <| VO.l (LO.as (.r rfl)) rfl <| VO.nil ?_)
                refine VE.seqN ?_
                refine VC.cond rfl (fun h19 => ?_) (fun h19 => ?_)
                ·
                  refine VC.seq ?_
                  refine VC.reg (VO.l (LO.as (.r rfl)) rfl <| VO.nil ?_)
                  refine VE.seqN ?_
                  refine VC.ret (VE.inR (VE.thenR (VE.res (vs := [_]) rfl ⟨rfl, trivial⟩ (fun w hw => ?_))))
                  refine ⟨?_, hw.nil⟩
                  simp only [resV]
                  first | (exfalso; omega) | rw [siteE1 hNm] | rw [siteE2 (nn hNm) (by unfold siteOk; omega)] | rw [siteE3 (nn hNm) (by unfold siteOk; omega)]
                ·
                  refine VC.skip (VE.inN (VE.seqN ?_))
                  refine VC.seq ?_
                  refine VC.reg (VO.l (LO.as (.r rfl)) rfl <| VO.nil ?_)
                  refine VE.seqN ?_
                  refine VC.ret (VE.res (vs := [_]) rfl ⟨rfl, trivial⟩ (fun w hw => ?_))
                  refine ⟨?_, hw.nil⟩
                  simp only [resV]
                  first | (exfalso; omega) | rw [siteE1 hNm] | rw [siteE2 (nn hNm) (by unfold siteOk; omega)] | rw [siteE3 (nn hNm) (by unfold siteOk; omega)]
      ·
        refine VC.reg (VO.l (LO.fa (r := 3) F92_3 (.r rfl) rfl) rfl <| VO.l (LO.ld O3 (.r rfl) (fun _ hw => cells_at hw 0 rfl ⟨_, rfl⟩)) rfl <| VO.l (LO.call (xs := [_, _, _]) (vs := [_, _, _]) C86 ⟨(.r rfl), (.r rfl), (.r rfl), trivial⟩ (fun w _ => bwithin_c _ _ _ w)) rfl <| VO.l (LO.not (.r rfl)) rfl <| VO.l (LO.as (.r rfl)) rfl <| VO.nil ?_)
        refine VE.seqN ?_
        refine VC.cond rfl (fun h20 => ?_) (fun h20 => ?_)
        ·
          refine VC.seq ?_
          refine VC.reg (VO.l (LO.as (.r rfl)) rfl <| VO.nil ?_)
          refine VE.seqN ?_
          refine VC.ret (VE.inR (VE.thenR (VE.res (vs := [_]) rfl ⟨rfl, trivial⟩ (fun w hw => ?_))))
          refine ⟨?_, hw.nil⟩
          simp only [resV]
          first | (exfalso; omega) | rw [siteE1 hNm] | rw [siteE2 (nn hNm) (by unfold siteOk; omega)] | rw [siteE3 (nn hNm) (by unfold siteOk; omega)]
        ·
          refine VC.seq ?_
          refine VC.seq ?_
          refine VC.reg (VO.l (LO.fa (r := 4) F92_4 (.r rfl) rfl) rfl <| VO.l (LO.ld O3 (.r rfl) (fun _ hw => cells_at hw 0 rfl ⟨_, rfl⟩)) rfl <| VO.l (LO.call (xs := [_, _, _]) (vs := [_, _, _]) C86 ⟨(.r rfl), (.r rfl), (.r rfl), trivial⟩ (fun w _ => bwithin_c _ _ _ w)) rfl <| VO.l (LO.not (.r rfl)) rfl <| VO.l (LO.as (.r rfl)) rfl <| VO.nil ?_)
          refine VE.seqN ?_
          refine VC.cond rfl (fun h21 => ?_) (fun h21 => ?_)
          ·
            refine VC.skip (VE.seqN ?_)
            refine VC.cond rfl (fun h22 => ?_) (fun h22 => ?_)
            ·
              refine VC.seq ?_
              refine VC.reg (VO.l (LO.as (.r rfl)) rfl <| VO.nil ?_)
              refine VE.seqN ?_
              refine VC.ret (VE.inR (VE.thenR (VE.res (vs := [_]) rfl ⟨rfl, trivial⟩ (fun w hw => ?_))))
              refine ⟨?_, hw.nil⟩
              simp only [resV]
              first | (exfalso; omega) | rw [siteE1 hNm] | rw [siteE2 (nn hNm) (by unfold siteOk; omega)] | rw [siteE3 (nn hNm) (by unfold siteOk; omega)]
            ·
              refine VC.skip (VE.inN (VE.seqN ?_))
              refine VC.seq ?_
              refine VC.reg (VO.l (LO.as (.r rfl)) rfl <| VO.nil ?_)
              refine VE.seqN ?_
              refine VC.ret (VE.res (vs := [_]) rfl ⟨rfl, trivial⟩ (fun w hw => ?_))
              refine ⟨?_, hw.nil⟩
              simp only [resV]
              first | (exfalso; omega) | rw [siteE1 hNm] | rw [siteE2 (nn hNm) (by unfold siteOk; omega)] | rw [siteE3 (nn hNm) (by unfold siteOk; omega)]
          ·
            refine VC.seq ?_
            refine VC.reg (VO.l (LO.fa (r := 5) F92_5 (.r rfl) rfl) rfl <| VO.l (LO.ld O3 (.r rfl) (fun _ hw => cells_at hw 0 rfl ⟨_, rfl⟩)) rfl <| VO.l (LO.call (xs := [_, _, _]) (vs := [_, _, _]) C86 ⟨(.r rfl), (.r rfl), (.r rfl), trivial⟩ (fun w _ => bwithin_c _ _ _ w)) rfl <| VO.l (LO.not (.r rfl)) rfl <| VO.l (LO.as (.r rfl)) rfl <| VO.nil ?_)
            refine VE.seqN ?_
            refine VC.cond rfl (fun h23 => ?_) (fun h23 => ?_)
            ·
              refine VC.skip (VE.seqN ?_)
              refine VC.cond rfl (fun h24 => ?_) (fun h24 => ?_)
              ·
                refine VC.seq ?_
                refine VC.reg (VO.l (LO.as (.r rfl)) rfl <| VO.nil ?_)
                refine VE.seqN ?_
                refine VC.ret (VE.inR (VE.thenR (VE.res (vs := [_]) rfl ⟨rfl, trivial⟩ (fun w hw => ?_))))
                refine ⟨?_, hw.nil⟩
                simp only [resV]
                first | (exfalso; omega) | rw [siteE1 hNm] | rw [siteE2 (nn hNm) (by unfold siteOk; omega)] | rw [siteE3 (nn hNm) (by unfold siteOk; omega)]
              ·
                refine VC.skip (VE.inN (VE.seqN ?_))
                refine VC.seq ?_
                refine VC.reg (VO.l (LO.as (.r rfl)) rfl <| VO.nil ?_)
                refine VE.seqN ?_
                refine VC.ret (VE.res (vs := [_]) rfl ⟨rfl, trivial⟩ (fun w hw => ?_))
                refine ⟨?_, hw.nil⟩
                simp only [resV]
                first | (exfalso; omega) | rw [siteE1 hNm] | rw [siteE2 (nn hNm) (by unfold siteOk; omega)] | rw [siteE3 (nn hNm) (by unfold siteOk; omega)]
            ·
              refine VC.seq ?_
              refine VC.reg (VO.l (LO.fa (r := 6) F92_6 (.r rfl) rfl) rfl <| VO.l (LO.ld O3 (.r rfl) (fun _ hw => cells_at hw 0 rfl ⟨_, rfl⟩)) rfl <| VO.l (LO.call (xs := [_, _, _]) (vs := [_, _, _]) C86 ⟨(.r rfl), (.r rfl), (.r rfl), trivial⟩ (fun w _ => bwithin_c _ _ _ w)) rfl <| VO.l (LO.not (.r rfl)) rfl <| VO.l (LO.as (.r rfl)) rfl <| VO.nil ?_)
              refine VE.seqN ?_
              refine VC.cond rfl (fun h25 => ?_) (fun h25 => ?_)
              ·
                refine VC.skip (VE.seqN ?_)
                refine VC.cond rfl (fun h26 => ?_) (fun h26 => ?_)
                ·
                  refine VC.seq ?_
                  refine VC.reg (VO.l (LO.as (.r rfl)) rfl <| VO.nil ?_)
                  refine VE.seqN ?_
                  refine VC.ret (VE.inR (VE.thenR (VE.res (vs := [_]) rfl ⟨rfl, trivial⟩ (fun w hw => ?_))))
                  refine ⟨?_, hw.nil⟩
                  simp only [resV]
                  first | (exfalso; omega) | rw [siteE1 hNm] | rw [siteE2 (nn hNm) (by unfold siteOk; omega)] | rw [siteE3 (nn hNm) (by unfold siteOk; omega)]
                ·
                  refine VC.skip (VE.inN (VE.seqN ?_))
                  refine VC.seq ?_
                  refine VC.reg (VO.l (LO.as (.r rfl)) rfl <| VO.nil ?_)
                  refine VE.seqN ?_
                  refine VC.ret (VE.res (vs := [_]) rfl ⟨rfl, trivial⟩ (fun w hw => ?_))
                  refine ⟨?_, hw.nil⟩
                  simp only [resV]
                  first | (exfalso; omega) | rw [siteE1 hNm] | rw [siteE2 (nn hNm) (by unfold siteOk; omega)] | rw [siteE3 (nn hNm) (by unfold siteOk; omega)]
              ·
                refine VC.reg (VO.l (LO.fa (r := 7) F92_7 (.r rfl) rfl) rfl <| VO.l (LO.ld O3 (.r rfl) (fun _ hw => cells_at hw 0 rfl ⟨_, rfl⟩)) rfl <| VO.l (LO.call (xs := [_, _, _]) (vs := [_, _, _]) C86 ⟨(.r rfl), (.r rfl), (.r rfl), trivial⟩ (fun w _ => bwithin_c _ _ _ w)) rfl <| VO.l (LO.not (.r rfl)) rfl <| VO.l (LO.as (.r rfl)) rfl <| VO.nil ?_)
                refine VE.seqN ?_
                refine VC.cond rfl (fun h27 => ?_) (fun h27 => ?_)
                ·
                  refine VC.seq ?_
                  refine VC.reg (VO.l (LO.as (.r rfl)) rfl <| VO.nil ?_)
                  refine VE.seqN ?_
                  refine VC.ret (VE.inR (VE.thenR (VE.res (vs := [_]) rfl ⟨rfl, trivial⟩ (fun w hw => ?_))))
                  refine ⟨?_, hw.nil⟩
                  simp only [resV]
                  first | (exfalso; omega) | rw [siteE1 hNm] | rw [siteE2 (nn hNm) (by unfold siteOk; omega)] | rw [siteE3 (nn hNm) (by unfold siteOk; omega)]
                ·
                  refine VC.skip (VE.inN (VE.seqN ?_))
                  refine VC.seq ?_
                  refine VC.reg (VO.l (LO.as (.r rfl)) rfl <| VO.nil ?_)
                  refine VE.seqN ?_
                  refine VC.ret (VE.res (vs := [_]) rfl ⟨rfl, trivial⟩ (fun w hw => ?_))
                  refine ⟨?_, hw.nil⟩
                  simp only [resV]
                  first | (exfalso; omega) | rw [siteE1 hNm] | rw [siteE2 (nn hNm) (by unfold siteOk; omega)] | rw [siteE3 (nn hNm) (by unfold siteOk; omega)]

set_option maxRecDepth 20000 in
theorem rCheckSite_c (s : Site) (w : World) :
  Calls Try.prog 73 #[.agg (siteC s).toArray] w fun e w' => e = .returned (.int .i64 (siteE s)) ∧ St (bs w) [] w' := by
  refine enter (vs := [_]) (env := [(0, _)]) Try.func73 rfl rfl rfl rfl ?_
  refine VC.seq ?_
  refine VC.reg (VO.h rfl <| HO.box (C := #[_, _, _, _, _, _, _, _]) rfl rfl fun b1 => VO.l (LO.as (.r rfl)) rfl <| VO.nil ?_)
  refine VE.seqN ?_
  refine VC.seq ?_
  refine VC.seq ?_
  refine VC.reg (VO.l (LO.fa (r := 0) F92_0 (.r rfl) rfl) rfl <| VO.l (LO.ld O9 (.r rfl) (fun _ hw => cells_at hw 0 rfl ⟨_, rfl⟩)) rfl <| VO.l (LO.call (xs := [_]) (vs := [_]) C87 ⟨(.r rfl), trivial⟩ (fun w _ => rName_c _ w)) rfl <| VO.l (LO.not (.r rfl)) rfl <| VO.nil ?_)
  refine VE.seqN ?_
  refine VC.cond rfl (fun hNm => ?_) (fun hNm => ?_)
  ·
    refine VC.seq ?_
    refine VC.reg (VO.l (LO.as (.r rfl)) rfl <| VO.nil ?_)
    refine VE.seqN ?_
    refine VC.ret (VE.thenR (VE.res (vs := [_]) rfl ⟨rfl, trivial⟩ (fun w hw => ?_)))
    refine ⟨?_, hw.nil⟩
    simp only [resV]
    first | (exfalso; omega) | rw [siteE1 hNm] | rw [siteE2 (nn hNm) (by unfold siteOk; omega)] | rw [siteE3 (nn hNm) (by unfold siteOk; omega)]
  ·
    refine VC.skip (VE.seqN ?_)
    refine VC.seq ?_
    refine VC.seq ?_
    refine VC.reg (VO.l (LO.fa (r := 1) F92_1 (.r rfl) rfl) rfl <| VO.l (LO.ld O3 (.r rfl) (fun _ hw => cells_at hw 0 rfl ⟨_, rfl⟩)) rfl <| VO.l (LO.call (xs := [_, _, _]) (vs := [_, _, _]) C49 ⟨(.r rfl), (.r rfl), (.r rfl), trivial⟩ (fun w _ => In_c _ _ _ w)) rfl <| VO.l (LO.not (.r rfl)) rfl <| VO.l (LO.mv (.r rfl)) rfl <| VO.lg rfl rfl (GD.f _) (fun hg => LO.fa (r := 2) F92_2 (.r rfl) rfl) rfl <| VO.lg rfl rfl (GD.f _) (fun hg => LO.ld O3 (.g hg rfl) (fun _ hw => cells_at hw 0 rfl ⟨_, rfl⟩)) rfl <| VO.lg rfl rfl (GD.f _) (fun hg => LO.call (xs := [_, _, _]) (vs := [_, _, _]) C49 ⟨(.g hg rfl), (.r rfl), (.r rfl), trivial⟩ (fun w _ => In_c _ _ _ w)) rfl <| VO.lg rfl rfl (GD.f _) (fun hg => LO.not (.g hg rfl)) rfl <| VO.l (LO.pkO (.r rfl) (.r rfl) rfl rfl) rfl <| VO.l (LO.mv (.r rfl)) rfl <| VO.lg rfl rfl (GD.f _) (fun hg => LO.fa (r := 3) F92_3 (.r rfl) rfl) rfl <| VO.lg rfl rfl (GD.f _) (fun hg => LO.ld O3 (.g hg rfl) (fun _ hw => cells_at hw 0 rfl ⟨_, rfl⟩)) rfl <| VO.lg rfl rfl (GD.f _) (fun hg => LO.call (xs := [_, _, _]) (vs := [_, _, _]) C49 ⟨(.g hg rfl), (.r rfl), (.r rfl), trivial⟩ (fun w _ => In_c _ _ _ w)) rfl <| VO.lg rfl rfl (GD.f _) (fun hg => LO.not (.g hg rfl)) rfl <| VO.l (LO.pkO (.r rfl) (.r rfl) rfl rfl) rfl <| VO.l (LO.mv (.r rfl)) rfl <| VO.lg rfl rfl (GD.f _) (fun hg => LO.fa (r := 4) F92_4 (.r rfl) rfl) rfl <| VO.lg rfl rfl (GD.f _) (fun hg => LO.ld O3 (.g hg rfl) (fun _ hw => cells_at hw 0 rfl ⟨_, rfl⟩)) rfl <| VO.lg rfl rfl (GD.f _) (fun hg => LO.call (xs := [_, _, _]) (vs := [_, _, _]) C49 ⟨(.g hg rfl), (.r rfl), (.r rfl), trivial⟩ (fun w _ => In_c _ _ _ w)) rfl <| VO.lg rfl rfl (GD.f _) (fun hg => LO.not (.g hg rfl)) rfl <| VO.l (LO.pkO (.r rfl) (.r rfl) rfl rfl) rfl <| VO.l (LO.mv (.r rfl)) rfl <| VO.lg rfl rfl (GD.f _) (fun hg => LO.fa (r := 5) F92_5 (.r rfl) rfl) rfl <| VO.lg rfl rfl (GD.f _) (fun hg => LO.ld O3 (.g hg rfl) (fun _ hw => cells_at hw 0 rfl ⟨_, rfl⟩)) rfl <| VO.lg rfl rfl (GD.f _) (fun hg => LO.call (xs := [_, _, _]) (vs := [_, _, _]) C49 ⟨(.g hg rfl), (.r rfl), (.r rfl), trivial⟩ (fun w _ => In_c _ _ _ w)) rfl <| VO.lg rfl rfl (GD.f _) (fun hg => LO.not (.g hg rfl)) rfl <| VO.l (LO.pkO (.r rfl) (.r rfl) rfl rfl) rfl <| VO.l (LO.mv (.r rfl)) rfl <| VO.lg rfl rfl (GD.f _) (fun hg => LO.fa (r := 6) F92_6 (.r rfl) rfl) rfl <| VO.lg rfl rfl (GD.f _) (fun hg => LO.ld O3 (.g hg rfl) (fun _ hw => cells_at hw 0 rfl ⟨_, rfl⟩)) rfl <| VO.lg rfl rfl (GD.f _) (fun hg => LO.call (xs := [_, _, _]) (vs := [_, _, _]) C49 ⟨(.g hg rfl), (.r rfl), (.r rfl), trivial⟩ (fun w _ => In_c _ _ _ w)) rfl <| VO.lg rfl rfl (GD.f _) (fun hg => LO.not (.g hg rfl)) rfl <| VO.l (LO.pkO (.r rfl) (.r rfl) rfl rfl) rfl <| VO.l (LO.mv (.r rfl)) rfl <| VO.lg rfl rfl (GD.f _) (fun hg => LO.fa (r := 7) F92_7 (.r rfl) rfl) rfl <| VO.lg rfl rfl (GD.f _) (fun hg => LO.ld O3 (.g hg rfl) (fun _ hw => cells_at hw 0 rfl ⟨_, rfl⟩)) rfl <| VO.lg rfl rfl (GD.f _) (fun hg => LO.call (xs := [_, _, _]) (vs := [_, _, _]) C49 ⟨(.g hg rfl), (.r rfl), (.r rfl), trivial⟩ (fun w _ => In_c _ _ _ w)) rfl <| VO.lg rfl rfl (GD.f _) (fun hg => LO.not (.g hg rfl)) rfl <| VO.l (LO.pkO (.r rfl) (.r rfl) rfl rfl) rfl <| VO.nil ?_)
    refine VE.seqN ?_
    refine VC.cond rfl (fun h46 => ?_) (fun h46 => ?_)
    ·
      refine VC.seq ?_
      refine VC.reg (VO.l (LO.as (.r rfl)) rfl <| VO.nil ?_)
      refine VE.seqN ?_
      refine VC.ret (VE.thenR (VE.res (vs := [_]) rfl ⟨rfl, trivial⟩ (fun w hw => ?_)))
      refine ⟨?_, hw.nil⟩
      simp only [resV]
      first | (exfalso; omega) | rw [siteE1 hNm] | rw [siteE2 (nn hNm) (by unfold siteOk; omega)] | rw [siteE3 (nn hNm) (by unfold siteOk; omega)]
    ·
      refine VC.skip (VE.seqN ?_)
      refine VC.seq ?_
      refine VC.reg (VO.l (LO.as (.r rfl)) rfl <| VO.nil ?_)
      refine VE.seqN ?_
      refine VC.ret (VE.res (vs := [_]) rfl ⟨rfl, trivial⟩ (fun w hw => ?_))
      refine ⟨?_, hw.nil⟩
      simp only [resV]
      first | (exfalso; omega) | rw [siteE1 hNm] | rw [siteE2 (nn hNm) (by unfold siteOk; omega)] | rw [siteE3 (nn hNm) (by unfold siteOk; omega)]

end Go.Proofs.Ytcnlhifkablmkaa
