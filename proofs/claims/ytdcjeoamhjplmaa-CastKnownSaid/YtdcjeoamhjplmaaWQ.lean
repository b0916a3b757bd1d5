/-
  Flows meet, and have hulls.
-/
import Derived.Test.YtdcjeoamhjplmaaWP
namespace Go.Proofs.Ytdcjeoamhjplmaa
open Go.SL Go.Proofs Go.Cast
set_option linter.unusedVariables false

theorem C70 : IsFn Try.prog 70 := ⟨_, Try.func70, by decide, rfl⟩
theorem C75 : IsFn Try.prog 75 := ⟨_, Try.func75, by decide, rfl⟩
theorem C72 : IsFn Try.prog 72 := ⟨_, Try.func72, by decide, rfl⟩
theorem C74 : IsFn Try.prog 74 := ⟨_, Try.func74, by decide, rfl⟩
theorem Z91 : ZeroOf Try.prog 91 (.agg #[.int .i64 0, .int .i64 0]) := by unfold ZeroOf; kernel_rfl
theorem A91 : IsAgg Try.prog 91 2 := ⟨⟨_, Try.underlying91, rfl⟩, by kernel_rfl⟩
theorem N91 : (Try.prog.info? 91).map (·.size) = some 2 := by kernel_rfl
theorem C71 : IsFn Try.prog 71 := ⟨_, Try.func71, by decide, rfl⟩
theorem B91 : BuildsA Try.prog 91 [(0, 1), (1, 1)] [.int .i64 0, .int .i64 0] := BuildsA.mk (z := 1) (n := 2) (fun _ => by kernel_rfl) rfl


def refF (op : Flow → Flow → Flow) (l : List Flow) (i : Nat) : Flow := (l.take i).foldl op (l.getD 0 zF)
def hullR (l : List Flow) : Flow := if flowsE l = 0 then allF hullF l else zF
def Confl (l : List Flow) (i j : Nat) : Prop := i < j ∧ j < l.length ∧ ¬ flowE (meetF (l.getD i zF) (l.getD j zF)) = 0
def FirstC (l : List Flow) (i j : Nat) : Prop := Confl l i j ∧ (∀ a b, a < i → ¬ Confl l a b) ∧ (∀ b, b < j → ¬ Confl l i b)
open Classical in
noncomputable def meetP (l : List Flow) : Int × Int := if h : flowsE l = 0 ∧ ∃ q : Nat × Nat, FirstC l q.1 q.2 then (((Classical.choose h.2).1 : Nat), ((Classical.choose h.2).2 : Nat)) else (0, 0)
def meetE (l : List Flow) : Int := if ¬ flowsE l = 0 then flowsE l else if flowE (allF meetF l) = 0 then 0 else 14
def meetV (l : List Flow) : Flow := if meetE l = 0 then allF meetF l else zF
def NoTo (l : List Flow) (i : Nat) : Prop := ∀ a b, a < i → ¬ Confl l a b
def NoRow (l : List Flow) (i j : Nat) : Prop := ∀ b, b < j → flowE (meetF (l.getD i zF) ((l.drop (i + 1)).getD b zF)) = 0
def NoRow2 (l : List Flow) (i j : Nat) : Prop := ∀ b, b < j → ¬ Confl l i b
section
variable {l : List Flow} {i j : Nat} {op : Flow → Flow → Flow}
theorem flows_ok (h : flowsE l = 0) : 0 < l.length ∧ l.length ≤ 64 ∧ ∀ k, k < l.length → flowOk (l.getD k zF) := by
  unfold flowsE at h
  by_cases q : l.length = 0
  · rw [if_pos q] at h; omega
  · rw [if_neg q] at h
    by_cases r : 64 < l.length
    · rw [if_pos r] at h; omega
    · rw [if_neg r] at h
      exact ⟨by omega, by omega, fun k hk => flowOk_of (fun s => s (firstE_eq h k hk))⟩
theorem ref_step (h : i < l.length) : refF op l (i + 1) = op (refF op l i) (l.getD i zF) := by
  unfold refF
  have e : l.getD i zF = l[i] := by rw [List.getD_eq_getElem?_getD, List.getElem?_eq_getElem h]; rfl
  rw [List.take_add_one, List.foldl_append, e, List.getElem?_eq_getElem h]; rfl
theorem cons_eq (h : 0 < l.length) : l.getD 0 zF :: l.drop 1 = l := by
  cases l with
  | nil => simp at h
  | cons x m => rfl
theorem ref_end (hs : ∀ f, op f f = f) (h : 0 < l.length) (hi : l.length ≤ i) : refF op l i = allF op l := by
  unfold refF allF
  rw [List.take_of_length_le hi]
  cases l with
  | nil => simp at h
  | cons x m => show (x :: m).foldl op x = m.foldl op x; rw [List.foldl_cons, hs]
theorem hull_self (f : Flow) : hullF f f = f := by unfold hullF; simp [Int.min_self, Int.max_self]
theorem meet_self (f : Flow) : meetF f f = f := by unfold meetF; simp [Int.min_self, Int.max_self]
theorem first_uniq {i' j' : Nat} (h : FirstC l i j) (k : FirstC l i' j') : i = i' ∧ j = j' := by
  have e : i = i' := by
    rcases Nat.lt_trichotomy i i' with q | q | q
    · exact absurd h.1 (k.2.1 i j q)
    · exact q
    · exact absurd k.1 (h.2.1 i' j' q)
  subst e
  refine ⟨rfl, ?_⟩
  rcases Nat.lt_trichotomy j j' with q | q | q
  · exact absurd h.1 (k.2.2 j q)
  · exact q
  · exact absurd k.1 (h.2.2 j' q)
theorem meetP_at (h0 : flowsE l = 0) (h : FirstC l i j) : meetP l = (((i : Nat) : Int), ((j : Nat) : Int)) := by
  have hx : flowsE l = 0 ∧ ∃ q : Nat × Nat, FirstC l q.1 q.2 := ⟨h0, ⟨(i, j), h⟩⟩
  unfold meetP
  rw [dif_pos hx]
  have := first_uniq (Classical.choose_spec hx.2) h
  rw [this.1, this.2]
theorem meetP_no (h : ¬ flowsE l = 0 ∨ ∀ a b, ¬ Confl l a b) : meetP l = (0, 0) := by
  unfold meetP
  refine dif_neg ?_
  rintro ⟨h1, q, h2⟩
  rcases h with h | h
  · exact h h1
  · exact h _ _ h2.1
theorem fold_meet (m : List Flow) : ∀ f : Flow, (∀ x, x ∈ f :: m → x.a ≤ (m.foldl meetF f).a ∧ (m.foldl meetF f).b ≤ x.b ∧ x.c ≤ (m.foldl meetF f).c ∧ (m.foldl meetF f).d ≤ x.d) ∧ (∃ x, x ∈ f :: m ∧ (m.foldl meetF f).a = x.a) ∧ (∃ x, x ∈ f :: m ∧ (m.foldl meetF f).b = x.b) ∧ (∃ x, x ∈ f :: m ∧ (m.foldl meetF f).c = x.c) ∧ (∃ x, x ∈ f :: m ∧ (m.foldl meetF f).d = x.d) := by
  induction m with
  | nil => intro f; simp
  | cons y m ih =>
    intro f
    obtain ⟨h0, ⟨xa, ha, ea⟩, ⟨xb, hb, eb⟩, ⟨xc, hc, ec⟩, ⟨xd, hd, ed⟩⟩ := ih (meetF f y)
    rw [List.foldl_cons]
    have hf := h0 (meetF f y) (by simp)
    have m1 : (meetF f y).a = max f.a y.a := rfl
    have m2 : (meetF f y).b = min f.b y.b := rfl
    have m3 : (meetF f y).c = max f.c y.c := rfl
    have m4 : (meetF f y).d = min f.d y.d := rfl
    refine ⟨fun x hx => ?_, ?_, ?_, ?_, ?_⟩
    · rcases List.mem_cons.1 hx with q | q
      · subst q; omega
      · rcases List.mem_cons.1 q with q | q
        · subst q; omega
        · exact h0 x (by simp [q])
    · rcases List.mem_cons.1 ha with q | q
      · subst q
        by_cases r : f.a ≤ y.a
        · exact ⟨y, by simp, by omega⟩
        · exact ⟨f, by simp, by omega⟩
      · exact ⟨xa, by simp [q], ea⟩
    · rcases List.mem_cons.1 hb with q | q
      · subst q
        by_cases r : f.b ≤ y.b
        · exact ⟨f, by simp, by omega⟩
        · exact ⟨y, by simp, by omega⟩
      · exact ⟨xb, by simp [q], eb⟩
    · rcases List.mem_cons.1 hc with q | q
      · subst q
        by_cases r : f.c ≤ y.c
        · exact ⟨y, by simp, by omega⟩
        · exact ⟨f, by simp, by omega⟩
      · exact ⟨xc, by simp [q], ec⟩
    · rcases List.mem_cons.1 hd with q | q
      · subst q
        by_cases r : f.d ≤ y.d
        · exact ⟨f, by simp, by omega⟩
        · exact ⟨y, by simp, by omega⟩
      · exact ⟨xd, by simp [q], ed⟩
theorem flowE_iff {f : Flow} : flowE f = 0 ↔ flowOk f := ⟨fun h => flowOk_of (fun s => s h), fun h => if_pos h⟩
theorem meet_comm (f g : Flow) : meetF f g = meetF g f := by unfold meetF; rw [Int.max_comm, Int.min_comm, Int.max_comm f.c, Int.min_comm f.d]
theorem mem_getD {x : Flow} (h : x ∈ l) : ∃ i, i < l.length ∧ x = l.getD i zF := by
  obtain ⟨i, hi, e⟩ := List.mem_iff_getElem.1 h
  exact ⟨i, hi, by rw [List.getD_eq_getElem?_getD, List.getElem?_eq_getElem hi, ← e]; rfl⟩
theorem getD_mem' (h : i < l.length) : l.getD i zF ∈ l := by
  rw [List.getD_eq_getElem?_getD, List.getElem?_eq_getElem h]; exact List.getElem_mem h
theorem pair_ok (hF : ∀ k, k < l.length → flowOk (l.getD k zF)) (h : ∀ a b, ¬ Confl l a b) {x y : Flow} (hx : x ∈ l) (hy : y ∈ l) : flowOk (meetF x y) := by
  obtain ⟨i, hi, rfl⟩ := mem_getD hx
  obtain ⟨j, hj, rfl⟩ := mem_getD hy
  rcases Nat.lt_trichotomy i j with q | q | q
  · exact flowE_iff.1 (Classical.byContradiction fun r => h i j ⟨q, hj, r⟩)
  · subst q; rw [meet_self]; exact hF i hi
  · rw [meet_comm]; exact flowE_iff.1 (Classical.byContradiction fun r => h j i ⟨q, hi, r⟩)
theorem helly (h0 : flowsE l = 0) : flowE (allF meetF l) = 0 ↔ ∀ a b, ¬ Confl l a b := by
  obtain ⟨hl, _, hF⟩ := flows_ok h0
  have h := fold_meet (l.drop 1) (l.getD 0 zF)
  rw [cons_eq hl] at h
  obtain ⟨h1, ⟨xa, ha, ea⟩, ⟨xb, hb, eb⟩, ⟨xc, hc, ec⟩, ⟨xd, hd, ed⟩⟩ := h
  rw [flowE_iff]
  unfold allF
  constructor
  · rintro k a b ⟨h2, h3, h4⟩
    refine h4 (flowE_iff.2 ?_)
    have p := h1 _ (getD_mem' (l := l) (i := a) (by omega))
    have q := h1 _ (getD_mem' (l := l) (i := b) (by omega))
    have p2 := hF a (by omega)
    have q2 := hF b (by omega)
    unfold flowOk at *
    unfold meetF
    dsimp only
    omega
  · intro k
    have p := pair_ok hF k ha hb
    have q := pair_ok hF k hc hd
    unfold flowOk at *
    unfold meetF at p q
    dsimp only at p q
    have ba := h1 _ ha
    have bb := h1 _ hb
    obtain ⟨ia, hia, rfl⟩ := mem_getD ha
    obtain ⟨ib, hib, rfl⟩ := mem_getD hb
    obtain ⟨ic, hic, rfl⟩ := mem_getD hc
    obtain ⟨id, hid, rfl⟩ := mem_getD hd
    have fa := hF _ hia
    have fb := hF _ hib
    have fc := hF _ hic
    have fd := hF _ hid
    unfold flowOk at *
    omega
theorem noto_0 : NoTo l 0 := fun _ _ h => by omega
theorem norow_0 : NoRow l i 0 := fun _ h => by omega
theorem norow2_0 : NoRow2 l i (i + 1) := fun b h k => by have := k.1; omega
theorem norow_next (h : NoRow l i j) (k : flowE (meetF (l.getD i zF) ((l.drop (i + 1)).getD j zF)) = 0) : NoRow l i (j + 1) := fun b hb => by
  rcases Nat.lt_succ_iff_lt_or_eq.1 hb with q | q
  · exact h b q
  · subst q; exact k
theorem drop_getD (n k : Nat) : (l.drop n).getD k zF = l.getD (n + k) zF := by
  rw [List.getD_eq_getElem?_getD, List.getD_eq_getElem?_getD, List.getElem?_drop]
theorem noto_next (h : NoTo l i) (k : NoRow l i j) (hj : l.length - (i + 1) ≤ j) : NoTo l (i + 1) := fun a b ha q => by
  rcases Nat.lt_succ_iff_lt_or_eq.1 ha with r | r
  · exact h a b r q
  · subst r
    have := k (b - (a + 1)) (by have := q.1; have := q.2.1; omega)
    rw [drop_getD, show a + 1 + (b - (a + 1)) = b by have := q.1; omega] at this
    exact q.2.2 this
theorem noto_next2 (h : NoTo l i) (k : NoRow2 l i j) (hj : l.length ≤ j) : NoTo l (i + 1) := fun a b ha q => by
  rcases Nat.lt_succ_iff_lt_or_eq.1 ha with r | r
  · exact h a b r q
  · subst r; exact k b (by have := q.2.1; omega) q
theorem bad_iff (hF : 0 < l.length ∧ l.length ≤ 64 ∧ ∀ k, k < l.length → flowOk (l.getD k zF)) (hi : i < l.length) (hj : j < l.length) : (min (l.getD i zF).b (l.getD j zF).b < max (l.getD i zF).a (l.getD j zF).a ∨ min (l.getD i zF).d (l.getD j zF).d < max (l.getD i zF).c (l.getD j zF).c) ↔ ¬ flowE (meetF (l.getD i zF) (l.getD j zF)) = 0 := by
  rw [flowE_iff]
  have p := hF.2.2 i hi
  have q := hF.2.2 j hj
  unfold flowOk at *
  unfold meetF
  dsimp only
  omega
theorem norow2_next (hF : 0 < l.length ∧ l.length ≤ 64 ∧ ∀ k, k < l.length → flowOk (l.getD k zF)) (hi : i < l.length) (hj : j < l.length) (h : NoRow2 l i j) (k : ¬ (min (l.getD i zF).b (l.getD j zF).b < max (l.getD i zF).a (l.getD j zF).a ∨ min (l.getD i zF).d (l.getD j zF).d < max (l.getD i zF).c (l.getD j zF).c)) : NoRow2 l i (j + 1) := fun b hb q => by
  rcases Nat.lt_succ_iff_lt_or_eq.1 hb with r | r
  · exact h b r q
  · subst r; exact k ((bad_iff hF hi hj).2 q.2.2)
theorem meA (h : ¬ flowsE l = 0) : Ending.returned (.tuple #[flowV ⟨0, 0, 0, 0⟩, .agg #[.int .i64 0, .int .i64 0], .int .i64 (flowsE l)]) = .returned (.tuple #[flowV (meetV l), .agg #[.int .i64 (meetP l).1, .int .i64 (meetP l).2], .int .i64 (meetE l)]) := by
  have e : meetE l = flowsE l := if_pos h
  have v : meetV l = zF := if_neg (by rw [e]; exact h)
  rw [e, v, meetP_no (.inl h)]; rfl
theorem meB (h : flowsE l = 0) (k : flowE (allF meetF l) = 0) : Ending.returned (.tuple #[flowV (allF meetF l), .agg #[.int .i64 0, .int .i64 0], .int .i64 0]) = .returned (.tuple #[flowV (meetV l), .agg #[.int .i64 (meetP l).1, .int .i64 (meetP l).2], .int .i64 (meetE l)]) := by
  have e : meetE l = 0 := by unfold meetE; rw [if_neg (fun q => q h), if_pos k]
  have v : meetV l = allF meetF l := if_pos e
  rw [e, v, meetP_no (.inr ((helly h).1 k))]
theorem meX (h : flowsE l = 0) (k : FirstC l i j) : Ending.returned (.tuple #[flowV ⟨0, 0, 0, 0⟩, .agg #[.int .i64 (i : Nat), .int .i64 (j : Nat)], .int .i64 14]) = .returned (.tuple #[flowV (meetV l), .agg #[.int .i64 (meetP l).1, .int .i64 (meetP l).2], .int .i64 (meetE l)]) := by
  have n : ¬ flowE (allF meetF l) = 0 := fun q => (helly h).1 q _ _ k.1
  have e : meetE l = 14 := by unfold meetE; rw [if_neg (fun q => q h), if_neg n]
  have v : meetV l = zF := if_neg (by rw [e]; decide)
  rw [e, v, meetP_at h k]; rfl
theorem meC (h : flowsE l = 0) (hi : i < l.length) (hj : j < l.length - (i + 1)) (hN : NoTo l i) (hR : NoRow l i j) (k : ¬ flowE (meetF (l.getD i zF) ((l.drop (i + 1)).getD j zF)) = 0) : Ending.returned (.tuple #[flowV ⟨0, 0, 0, 0⟩, .agg #[.int .i64 (i : Nat), .int .i64 ((i : Nat) + 1 + (j : Nat))], .int .i64 14]) = .returned (.tuple #[flowV (meetV l), .agg #[.int .i64 (meetP l).1, .int .i64 (meetP l).2], .int .i64 (meetE l)]) := by
  rw [drop_getD] at k
  have e : ((i : Nat) + 1 + (j : Nat) : Int) = ((i + 1 + j : Nat) : Int) := by omega
  rw [e]
  refine meX h ⟨⟨by omega, by omega, k⟩, hN, fun b hb q => ?_⟩
  have := hR (b - (i + 1)) (by have := q.1; omega)
  rw [drop_getD, show i + 1 + (b - (i + 1)) = b by have := q.1; omega] at this
  exact q.2.2 this
theorem meC2 (h : flowsE l = 0) (hF : 0 < l.length ∧ l.length ≤ 64 ∧ ∀ k, k < l.length → flowOk (l.getD k zF)) (hij : i < j) (hj : j < l.length) (hN : NoTo l i) (hR : NoRow2 l i j) (k : min (l.getD i zF).b (l.getD j zF).b < max (l.getD i zF).a (l.getD j zF).a ∨ min (l.getD i zF).d (l.getD j zF).d < max (l.getD i zF).c (l.getD j zF).c) : Ending.returned (.tuple #[flowV ⟨0, 0, 0, 0⟩, .agg #[.int .i64 (i : Nat), .int .i64 (j : Nat)], .int .i64 14]) = .returned (.tuple #[flowV (meetV l), .agg #[.int .i64 (meetP l).1, .int .i64 (meetP l).2], .int .i64 (meetE l)]) :=
  meX h ⟨⟨hij, hj, (bad_iff hF (by omega) hj).1 k⟩, hN, hR⟩
theorem no_all (hN : NoTo l i) (hi : l.length ≤ i) : ∀ a b, ¬ Confl l a b := fun a b q => hN a b (by have := q.1; have := q.2.1; omega) q
theorem meE (h : flowsE l = 0) (hN : NoTo l i) (hi : l.length ≤ i) : Ending.returned (.tuple #[flowV (allF meetF l), .agg #[.int .i64 0, .int .i64 0], .int .i64 0]) = .returned (.tuple #[flowV (meetV l), .agg #[.int .i64 (meetP l).1, .int .i64 (meetP l).2], .int .i64 (meetE l)]) := meB h ((helly h).2 (no_all hN hi))
theorem meD (h : flowsE l = 0) (k : ¬ flowE (allF meetF l) = 0) (hN : NoTo l i) (hi : l.length ≤ i) : Ending.returned (.tuple #[flowV ⟨0, 0, 0, 0⟩, .agg #[.int .i64 0, .int .i64 0], .int .i64 14]) = .returned (.tuple #[flowV (meetV l), .agg #[.int .i64 (meetP l).1, .int .i64 (meetP l).2], .int .i64 (meetE l)]) :=
  absurd ((helly h).2 (no_all hN hi)) k
end

set_option maxRecDepth 20000 in
theorem Hull_c (p : Option Addr) (l : List Flow) (c : Nat) (w : World) (hl : Flows w p l) (hc : l.length ≤ c) :
  Calls Try.prog 40 #[.slice p l.length c] w fun e w' => e = .returned (.tuple #[flowV (hullR l), .int .i64 (flowsE l)]) ∧ St (bs w) [] w' := by
  refine enter (vs := [_]) (env := [(0, _)]) Try.func40 rfl rfl rfl rfl ?_
  refine VC.seq ?_
  refine VC.reg (VO.h rfl <| HO.alloc (C := #[_, _, _, _]) Z32 rfl fun b1 => VO.l (LO.as (.r rfl)) rfl <| VO.nil ?_)
  refine VE.seqN ?_
  refine VC.seq ?_
  refine VC.seq ?_
  refine VC.reg (VO.l (LO.mv (.r rfl)) rfl <| VO.l (LO.call (xs := [_]) (vs := [_]) C70 ⟨(.r rfl), trivial⟩ (fun w hw => checked_c p l c w (hl.keep w hw))) rfl <| VO.l (LO.as (.r rfl)) rfl <| VO.nil ?_)
  refine VE.seqN ?_
  refine VC.seq ?_
  refine VC.reg (VO.l (LO.mv (.r rfl)) rfl <| VO.l (LO.ne (.r rfl) (.r rfl)) rfl <| VO.nil ?_)
  refine VE.seqN ?_
  refine VC.cond rfl (fun h1 => ?_) (fun h1 => ?_)
  ·
    refine VC.seq ?_
    refine VC.reg (VO.l (LO.bd (ps := []) (vs := []) (C := [_, _, _, _]) B32  trivial rfl rfl) rfl <| VO.l (LO.mv (.r rfl)) rfl <| VO.h0 <| HO.st 0 (vs := [_, _, _, _]) (C' := [_, _, _, _]) (L' := [_]) N32 rfl rfl rfl rfl rfl rfl rfl rfl <| VO.l (LO.as (.r rfl)) rfl <| VO.nil ?_)
    refine VE.seqN ?_
    refine VC.ret (VE.thenR (VE.res (vs := [_, _]) rfl ⟨RV.agg (vs := [_, _, _, _]) A32 rfl (cells_blk 0 rfl ⟨_, rfl⟩) rfl, rfl, trivial⟩ (fun w hw => ?_)))
    first | exact ⟨by rw [hullR, if_neg h1]; rfl, hw.nil⟩ | exact ⟨by rw [hullR, if_pos h1, h1]; rfl, hw.nil⟩
  ·
    have h1 : flowsE l = 0 := Classical.not_not.1 h1
    have hF := flows_ok h1
    refine VC.skip (VE.seqN ?_)
    refine VC.seq ?_
    refine VC.reg (VO.l (LO.call (xs := []) (vs := []) C75 trivial (fun w _ => hull_c w)) rfl <| VO.l (LO.mv (.r rfl)) rfl <| VO.l (LO.call (xs := [_, _]) (vs := [_, _]) C72 ⟨(.r rfl), (.r rfl), trivial⟩ (fun w hw => allH_c p l c w (hl.keep w hw) hF.1 hF.2.1 hc)) rfl <| VO.h0 <| HO.st 0 (vs := [_, _, _, _]) (C' := [_, _, _, _]) (L' := [_]) N32 rfl rfl rfl rfl rfl rfl rfl rfl <| VO.l (LO.as (.r rfl)) rfl <| VO.nil ?_)
    refine VE.seqN ?_
    refine VC.ret (VE.res (vs := [_, _]) rfl ⟨RV.agg (vs := [_, _, _, _]) A32 rfl (cells_blk 0 rfl ⟨_, rfl⟩) rfl, rfl, trivial⟩ (fun w hw => ?_))
    first | exact ⟨by rw [hullR, if_neg h1]; rfl, hw.nil⟩ | exact ⟨by rw [hullR, if_pos h1, h1]; rfl, hw.nil⟩

set_option maxRecDepth 20000 in
theorem rHull_c (p : Option Addr) (l : List Flow) (c : Nat) (w : World) (hl : Flows w p l) :
  Calls Try.prog 41 #[.slice p l.length c] w fun e w' => e = .returned (.tuple #[flowV (hullR l), .int .i64 (flowsE l)]) ∧ St (bs w) [] w' := by
  refine enter (vs := [_]) (env := [(0, _)]) Try.func41 rfl rfl rfl rfl ?_
  refine VC.seq ?_
  refine VC.reg (VO.h rfl <| HO.alloc (C := #[_, _, _, _]) Z35 rfl fun b1 => VO.l (LO.as (.r rfl)) rfl <| VO.nil ?_)
  refine VE.seqN ?_
  refine VC.seq ?_
  refine VC.reg (VO.l (LO.mv (.r rfl)) rfl <| VO.l (LO.call (xs := [_]) (vs := [_]) C74 ⟨(.r rfl), trivial⟩ (fun w hw => rflows_c p l c w (hl.keep w hw))) rfl <| VO.l (LO.as (.r rfl)) rfl <| VO.nil ?_)
  refine VE.seqN ?_
  refine VC.seq ?_
  refine VC.seq ?_
  refine VC.reg (VO.l (LO.mv (.r rfl)) rfl <| VO.l (LO.ne (.r rfl) (.r rfl)) rfl <| VO.nil ?_)
  refine VE.seqN ?_
  refine VC.cond rfl (fun h1 => ?_) (fun h1 => ?_)
  ·
    refine VC.seq ?_
    refine VC.reg (VO.l (LO.bd (ps := []) (vs := []) (C := [_, _, _, _]) B35  trivial rfl rfl) rfl <| VO.l (LO.mv (.r rfl)) rfl <| VO.h0 <| HO.st 0 (vs := [_, _, _, _]) (C' := [_, _, _, _]) (L' := [_]) N35 rfl rfl rfl rfl rfl rfl rfl rfl <| VO.l (LO.as (.r rfl)) rfl <| VO.nil ?_)
    refine VE.seqN ?_
    refine VC.ret (VE.thenR (VE.res (vs := [_, _]) rfl ⟨RV.agg (vs := [_, _, _, _]) A35 rfl (cells_blk 0 rfl ⟨_, rfl⟩) rfl, rfl, trivial⟩ (fun w hw => ?_)))
    first | exact ⟨by rw [hullR, if_neg h1]; rfl, hw.nil⟩ | exact ⟨by rw [hullR, if_pos h1, h1, ref_end hull_self hF1 (by omega)]; rfl, hw.nil⟩
  ·
    have h1 : flowsE l = 0 := Classical.not_not.1 h1
    have hF := flows_ok h1
    have hF1 := hF.1
    have hF2 := hF.2.1
    refine VC.skip (VE.seqN ?_)
    refine VC.seq ?_
    refine VC.reg (VO.l (LO.mv (.r rfl)) rfl <| VO.l (LO.ixs S86 N35 hl.some (.r rfl) (.r rfl) (j := 0) rfl (by omega)) rfl <| VO.l (LO.lda (vs := [_, _, _, _]) A35 (.r rfl) (fun w hw => cells_part (off := 0) ((hl.at (j := 0) (by omega)) w hw) ⟨_, rfl⟩) rfl) rfl <| VO.h rfl <| HO.alloc (C := #[_, _, _, _]) Z35 rfl fun b3 => VO.h0 <| HO.st 0 (vs := [_, _, _, _]) (C' := [_, _, _, _]) (L' := [_, _]) N35 rfl rfl rfl rfl rfl rfl rfl rfl <| VO.nil ?_)
    refine VE.seqN ?_
    refine VC.seq ?_
    refine VC.seq ?_
    refine VC.reg (VO.l (LO.as (.r rfl)) rfl <| VO.nil ?_)
    refine VE.seqN ?_
    refine VC.block ?_
    refine VC.loopK (α := Nat) 1 (fun gx => [(6, .int .i64 (gx : Nat))]) [(0, _), (2, _), (5, _)] (fun gx => [blk b3 (.cells #[.int .i64 (refF hullF l gx).a, .int .i64 (refF hullF l gx).b, .int .i64 (refF hullF l gx).c, .int .i64 (refF hullF l gx).d] 35)]) (fun gx => gx ≤ l.length) (fun gx => l.length - gx) 0 (by exact Nat.zero_le _) (.cons rfl (.cons rfl (.cons rfl (.cons rfl .nil)))) (fun _ h => h) ?_
    rintro i hi
    refine VC.seq ?_
    refine VC.seq ?_
    refine VC.reg (VO.l (LO.mv (.r rfl)) rfl <| VO.l (LO.mv (.r rfl)) rfl <| VO.l (LO.len S86 (.r rfl) rfl) rfl <| VO.l (LO.lt (.r rfl) (.r rfl)) rfl <| VO.nil ?_)
    refine VE.seqN ?_
    refine VC.cond rfl (fun h2 => ?_) (fun h2 => ?_)
    ·
      refine VC.skip (VE.seqN ?_)
      refine VC.seq ?_
      refine VC.block ?_
      refine VC.seq ?_
      refine VC.drawH [[0, 1], [1]] [some 0, some 0, some 0, some 0, some 0, some 0, some 0, some 0, some 0, some 0, some 0, some 0, some 0, some 0, some 0, some 0, some 0, some 0, some 0, some 0, some 0, some 0, none] mixed (by kernel_rfl) rfl (LX.l (fun _ hJ => LO.fa (r := 0) F35_0 (.r rfl) rfl) rfl <| LX.l (fun _ hJ => LO.fa (r := 0) F30_0 (.r rfl) rfl) rfl <| LX.l (fun _ hJ => LO.ld O3 (.r rfl) (fun _ hw => cells_at (hJ _ hw) 0 rfl ⟨_, rfl⟩)) rfl <| LX.l (fun _ hJ => LO.mv (.r rfl)) rfl <| LX.l (fun _ hJ => LO.mv (.r rfl)) rfl <| LX.l (fun _ hJ => LO.ixs S86 N35 hl.some (.r rfl) (.r rfl) rfl (by omega)) rfl <| LX.l (fun _ hJ => LO.fa F35_0 (.r rfl) rfl) rfl <| LX.l (fun _ hJ => LO.fa F30_0 (.r rfl) rfl) rfl <| LX.l (fun _ hJ => LO.ld O3 (.r rfl) (fun w hw => cells_part (off := 0) ((hl.at (j := i) (by omega)) w (hJ _ hw)) ⟨_, rfl⟩)) rfl <| LX.l (fun _ hJ => LO.min (.r rfl) (.r rfl)) rfl <| LX.l (fun _ hJ => LO.fa (r := 0) F35_0 (.r rfl) rfl) rfl <| LX.l (fun _ hJ => LO.fa (r := 1) F30_1 (.r rfl) rfl) rfl <| LX.l (fun _ hJ => LO.ld O3 (.r rfl) (fun _ hw => cells_at (hJ _ hw) 0 rfl ⟨_, rfl⟩)) rfl <| LX.l (fun _ hJ => LO.mv (.r rfl)) rfl <| LX.l (fun _ hJ => LO.mv (.r rfl)) rfl <| LX.l (fun _ hJ => LO.ixs S86 N35 hl.some (.r rfl) (.r rfl) rfl (by omega)) rfl <| LX.l (fun _ hJ => LO.fa F35_0 (.r rfl) rfl) rfl <| LX.l (fun _ hJ => LO.fa F30_1 (.r rfl) rfl) rfl <| LX.l (fun _ hJ => LO.ld O3 (.r rfl) (fun w hw => cells_part (off := 1) ((hl.at (j := i) (by omega)) w (hJ _ hw)) ⟨_, rfl⟩)) rfl <| LX.l (fun _ hJ => LO.max (.r rfl) (.r rfl)) rfl <| LX.l (fun _ hJ => LO.bd (ps := [(_, _), (_, _)]) (vs := [(_, _), (_, _)]) (C := [_, _]) B30  ⟨(.r rfl), (.r rfl), trivial⟩ rfl ⟨_, [_], [_, _], rfl, rfl, rfl, rfl, ⟨_, [_], [_, _], rfl, rfl, rfl, rfl, rfl⟩⟩) rfl <| LX.l (fun _ hJ => LO.fa (r := 0) F35_0 (.r rfl) rfl) rfl <| LX.s <| LX.nil) (HX.s <| HX.s <| HX.s <| HX.s <| HX.s <| HX.s <| HX.s <| HX.s <| HX.s <| HX.s <| HX.s <| HX.s <| HX.s <| HX.s <| HX.s <| HX.s <| HX.s <| HX.s <| HX.s <| HX.s <| HX.s <| HX.s <| HX.h0 <| HO.st 0 (vs := [_, _]) (C' := [_, _, _, _]) (L' := [_, _]) N30 rfl rfl rfl rfl rfl rfl rfl rfl <| ⟨fun _ hw => hw.sel [1] rfl, HX.nil ?_⟩)
      refine VE.seqN ?_
      refine VC.drawH [[0, 1], [1]] [some 0, some 0, some 0, some 0, some 0, some 0, some 0, some 0, some 0, some 0, some 0, some 0, some 0, some 0, some 0, some 0, some 0, some 0, some 0, some 0, some 0, some 0, none] mixed (by kernel_rfl) rfl (LX.l (fun _ hJ => LO.fa (r := 2) F35_1 (.r rfl) rfl) rfl <| LX.l (fun _ hJ => LO.fa (r := 2) F30_0 (.r rfl) rfl) rfl <| LX.l (fun _ hJ => LO.ld O3 (.r rfl) (fun _ hw => cells_at (hJ _ hw) 0 rfl ⟨_, rfl⟩)) rfl <| LX.l (fun _ hJ => LO.mv (.r rfl)) rfl <| LX.l (fun _ hJ => LO.mv (.r rfl)) rfl <| LX.l (fun _ hJ => LO.ixs S86 N35 hl.some (.r rfl) (.r rfl) rfl (by omega)) rfl <| LX.l (fun _ hJ => LO.fa F35_1 (.r rfl) rfl) rfl <| LX.l (fun _ hJ => LO.fa F30_0 (.r rfl) rfl) rfl <| LX.l (fun _ hJ => LO.ld O3 (.r rfl) (fun w hw => cells_part (off := 2) ((hl.at (j := i) (by omega)) w (hJ _ hw)) ⟨_, rfl⟩)) rfl <| LX.l (fun _ hJ => LO.min (.r rfl) (.r rfl)) rfl <| LX.l (fun _ hJ => LO.fa (r := 2) F35_1 (.r rfl) rfl) rfl <| LX.l (fun _ hJ => LO.fa (r := 3) F30_1 (.r rfl) rfl) rfl <| LX.l (fun _ hJ => LO.ld O3 (.r rfl) (fun _ hw => cells_at (hJ _ hw) 0 rfl ⟨_, rfl⟩)) rfl <| LX.l (fun _ hJ => LO.mv (.r rfl)) rfl <| LX.l (fun _ hJ => LO.mv (.r rfl)) rfl <| LX.l (fun _ hJ => LO.ixs S86 N35 hl.some (.r rfl) (.r rfl) rfl (by omega)) rfl <| LX.l (fun _ hJ => LO.fa F35_1 (.r rfl) rfl) rfl <| LX.l (fun _ hJ => LO.fa F30_1 (.r rfl) rfl) rfl <| LX.l (fun _ hJ => LO.ld O3 (.r rfl) (fun w hw => cells_part (off := 3) ((hl.at (j := i) (by omega)) w (hJ _ hw)) ⟨_, rfl⟩)) rfl <| LX.l (fun _ hJ => LO.max (.r rfl) (.r rfl)) rfl <| LX.l (fun _ hJ => LO.bd (ps := [(_, _), (_, _)]) (vs := [(_, _), (_, _)]) (C := [_, _]) B30  ⟨(.r rfl), (.r rfl), trivial⟩ rfl ⟨_, [_], [_, _], rfl, rfl, rfl, rfl, ⟨_, [_], [_, _], rfl, rfl, rfl, rfl, rfl⟩⟩) rfl <| LX.l (fun _ hJ => LO.fa (r := 2) F35_1 (.r rfl) rfl) rfl <| LX.s <| LX.nil) (HX.s <| HX.s <| HX.s <| HX.s <| HX.s <| HX.s <| HX.s <| HX.s <| HX.s <| HX.s <| HX.s <| HX.s <| HX.s <| HX.s <| HX.s <| HX.s <| HX.s <| HX.s <| HX.s <| HX.s <| HX.s <| HX.s <| HX.h0 <| HO.st 0 (vs := [_, _]) (C' := [_, _, _, _]) (L' := [_, _]) N30 rfl rfl rfl rfl rfl rfl rfl rfl <| ⟨fun _ hw => hw.sel [1] rfl, HX.nil ?_⟩)
      refine VE.inN (VE.seqN ?_)
      refine VC.reg (VO.l (LO.mv (.r rfl)) rfl <| VO.l (LO.add (.r rfl) (.r rfl) (wi (by omega) (by omega))) rfl <| VO.l (LO.as (.r rfl)) rfl <| VO.nil ?_)
      refine VE.thenN fun a w ha hw => ⟨i + 1, (by omega), (by omega), ha.sub (.cons rfl (.cons rfl (.cons rfl (.cons rfl .nil)))), (by rw [ref_step (show i < l.length by omega)]; exact hw)⟩
    ·
      refine VC.exit (VE.thenX (VE.thenX (VE.inX (VE.seqN ?_))))
      refine VC.seq ?_
      refine VC.reg (VO.l (LO.lda (vs := [_, _, _, _]) A35 (.r rfl) (fun _ hw => cells_at hw 0 rfl ⟨_, rfl⟩) rfl) rfl <| VO.h0 <| HO.st 1 (vs := [_, _, _, _]) (C' := [_, _, _, _]) (L' := [_, _]) N35 rfl rfl rfl rfl rfl rfl rfl rfl <| VO.l (LO.as (.r rfl)) rfl <| VO.nil ?_)
      refine VE.seqN ?_
      refine VC.ret (VE.res (vs := [_, _]) rfl ⟨RV.agg (vs := [_, _, _, _]) A35 rfl (cells_blk 1 rfl ⟨_, rfl⟩) rfl, rfl, trivial⟩ (fun w hw => ?_))
      first | exact ⟨by rw [hullR, if_neg h1]; rfl, hw.nil⟩ | exact ⟨by rw [hullR, if_pos h1, h1, ref_end hull_self hF1 (by omega)]; rfl, hw.nil⟩

set_option maxRecDepth 20000 in
theorem Meet_c (p : Option Addr) (l : List Flow) (c : Nat) (w : World) (hl : Flows w p l) (hc : l.length ≤ c) :
  Calls Try.prog 38 #[.slice p l.length c] w fun e w' => e = .returned (.tuple #[flowV (meetV l), .agg #[.int .i64 (meetP l).1, .int .i64 (meetP l).2], .int .i64 (meetE l)]) ∧ St (bs w) [] w' := by
  refine enter (vs := [_]) (env := [(0, _)]) Try.func38 rfl rfl rfl rfl ?_
  refine VC.seq ?_
  refine VC.reg (VO.h rfl <| HO.alloc (C := #[_, _, _, _]) Z32 rfl fun b1 => VO.h rfl <| HO.alloc (C := #[_, _]) Z91 rfl fun b2 => VO.l (LO.as (.r rfl)) rfl <| VO.nil ?_)
  refine VE.seqN ?_
  refine VC.seq ?_
  refine VC.seq ?_
  refine VC.reg (VO.l (LO.mv (.r rfl)) rfl <| VO.l (LO.call (xs := [_]) (vs := [_]) C70 ⟨(.r rfl), trivial⟩ (fun w hw => checked_c p l c w (hl.keep w hw))) rfl <| VO.l (LO.as (.r rfl)) rfl <| VO.nil ?_)
  refine VE.seqN ?_
  refine VC.seq ?_
  refine VC.reg (VO.l (LO.mv (.r rfl)) rfl <| VO.l (LO.ne (.r rfl) (.r rfl)) rfl <| VO.nil ?_)
  refine VE.seqN ?_
  refine VC.cond rfl (fun h1 => ?_) (fun h1 => ?_)
  ·
    refine VC.seq ?_
    refine VC.drawH [[0, 1], [0], []] [some 0, some 1, some 2, none, none, some 2] mixed (by kernel_rfl) rfl (LX.l (fun _ hJ => LO.bd (ps := []) (vs := []) (C := [_, _, _, _]) B32  trivial rfl rfl) rfl <| LX.l (fun _ hJ => LO.lda (vs := [_, _]) A91 (.r rfl) (fun _ hw => cells_at (hJ _ hw) 0 rfl ⟨_, rfl⟩) rfl) rfl <| LX.l (fun _ hJ => LO.mv (.r rfl)) rfl <| LX.s <| LX.s <| LX.l (fun _ hJ => LO.as (.r rfl)) rfl <| LX.nil) (HX.s <| HX.s <| HX.s <| HX.h0 <| HO.st 1 (vs := [_, _, _, _]) (C' := [_, _, _, _]) (L' := [_, _]) N32 rfl rfl rfl rfl rfl rfl rfl rfl <| ⟨fun _ hw => hw.sel [0] rfl, HX.h0 <| HO.st 0 (vs := [_, _]) (C' := [_, _]) (L' := [_, _]) N91 rfl rfl rfl rfl rfl rfl rfl rfl <| ⟨fun _ hw => hw.sel [] rfl, HX.s <| HX.nil ?_⟩⟩)
    refine VE.seqN ?_
    refine VC.ret (VE.thenR (VE.res (vs := [_, _, _]) rfl ⟨RV.agg (vs := [_, _, _, _]) A32 rfl (cells_blk 1 rfl ⟨_, rfl⟩) rfl, RV.agg (vs := [_, _]) A91 rfl (cells_blk 0 rfl ⟨_, rfl⟩) rfl, rfl, trivial⟩ (fun w hw => ?_)))
    first | exact ⟨meA h1, hw.nil⟩ | exact ⟨meB h1 h2, hw.nil⟩ | exact ⟨meC h1 (by omega) (by omega) hN hR h5, hw.nil⟩ | exact ⟨meD h1 h2 hN (by omega), hw.nil⟩
  ·
    have h1 : flowsE l = 0 := Classical.not_not.1 h1
    have hF := flows_ok h1
    have hF1 := hF.1
    have hF2 := hF.2.1
    refine VC.skip (VE.seqN ?_)
    refine VC.seq ?_
    refine VC.reg (VO.l (LO.call (xs := []) (vs := []) C71 trivial (fun w _ => common_c w)) rfl <| VO.h rfl <| HO.alloc (C := #[_, _]) Z141 rfl fun b7 => VO.h0 <| HO.st 0 (vs := [_, _]) (C' := [_, _]) (L' := [_, _, _]) N141 rfl rfl rfl rfl rfl rfl rfl rfl <| VO.nil ?_)
    refine VE.seqN ?_
    refine VC.seq ?_
    refine VC.seq ?_
    refine VC.reg (VO.l (LO.lda (vs := [_, _]) A141 (.r rfl) (fun _ hw => cells_at hw 0 rfl ⟨_, rfl⟩) rfl) rfl <| VO.l (LO.mv (.r rfl)) rfl <| VO.l (LO.call (xs := [_, _]) (vs := [_, _]) C72 ⟨(.r rfl), (.r rfl), trivial⟩ (fun w hw => allC_c p l c w (hl.keep w hw) hF.1 hF.2.1 hc)) rfl <| VO.h rfl <| HO.alloc (C := #[_, _, _, _]) Z32 rfl fun b9 => VO.h0 <| HO.st 0 (vs := [_, _, _, _]) (C' := [_, _, _, _]) (L' := [_, _, _, _]) N32 rfl rfl rfl rfl rfl rfl rfl rfl <| VO.nil ?_)
    refine VE.seqN ?_
    refine VC.seq ?_
    refine VC.reg (VO.l (LO.lda (vs := [_, _, _, _]) A32 (.r rfl) (fun _ hw => cells_at hw 0 rfl ⟨_, rfl⟩) rfl) rfl <| VO.l (LO.call (xs := [_]) (vs := [_]) C34 ⟨(.r rfl), trivial⟩ (fun w _ => checkFlow_c (allF meetF l) w)) rfl <| VO.l (LO.eq (.r rfl) (.r rfl)) rfl <| VO.nil ?_)
    refine VE.seqN ?_
    refine VC.cond rfl (fun h2 => ?_) (fun h2 => ?_)
    ·
      refine VC.seq ?_
      refine VC.drawH [[0, 1, 2, 3], [0, 1, 2], [0, 1]] [some 0, some 1, none, none, some 2] mixed (by kernel_rfl) rfl (LX.l (fun _ hJ => LO.lda (vs := [_, _, _, _]) A32 (.r rfl) (fun _ hw => cells_at (hJ _ hw) 0 rfl ⟨_, rfl⟩) rfl) rfl <| LX.l (fun _ hJ => LO.lda (vs := [_, _]) A91 (.r rfl) (fun _ hw => cells_at (hJ _ hw) 2 rfl ⟨_, rfl⟩) rfl) rfl <| LX.s <| LX.s <| LX.l (fun _ hJ => LO.as (.r rfl)) rfl <| LX.nil) (HX.s <| HX.s <| HX.h0 <| HO.st 3 (vs := [_, _, _, _]) (C' := [_, _, _, _]) (L' := [_, _, _, _]) N32 rfl rfl rfl rfl rfl rfl rfl rfl <| ⟨fun _ hw => hw.sel [0, 1, 2] rfl, HX.h0 <| HO.st 2 (vs := [_, _]) (C' := [_, _]) (L' := [_, _, _, _]) N91 rfl rfl rfl rfl rfl rfl rfl rfl <| ⟨fun _ hw => hw.sel [0, 1] rfl, HX.s <| HX.nil ?_⟩⟩)
      refine VE.seqN ?_
      refine VC.ret (VE.thenR (VE.res (vs := [_, _, _]) rfl ⟨RV.agg (vs := [_, _, _, _]) A32 rfl (cells_blk 3 rfl ⟨_, rfl⟩) rfl, RV.agg (vs := [_, _]) A91 rfl (cells_blk 2 rfl ⟨_, rfl⟩) rfl, rfl, trivial⟩ (fun w hw => ?_)))
      first | exact ⟨meA h1, hw.nil⟩ | exact ⟨meB h1 h2, hw.nil⟩ | exact ⟨meC h1 (by omega) (by omega) hN hR h5, hw.nil⟩ | exact ⟨meD h1 h2 hN (by omega), hw.nil⟩
    ·
      refine VC.skip (VE.seqN ?_)
      refine VC.seq ?_
      refine VC.seq ?_
      refine VC.reg (VO.l (LO.mv (.r rfl)) rfl <| VO.l (LO.len S80 (.r rfl) rfl) rfl <| VO.l (LO.mv (.r rfl)) rfl <| VO.nil ?_)
      refine VE.seqN ?_
      refine VC.block ?_
      refine VC.loopK (α := Nat) 0 (fun gx => [(30, .int .i64 (gx : Nat))]) [(0, _), (2, _), (3, _), (6, _), (28, _), (29, _)] (fun gx => []) (fun gx => gx ≤ l.length ∧ NoTo l gx) (fun gx => l.length - gx) 0 (by exact ⟨Nat.zero_le _, noto_0⟩) (.cons rfl (.cons rfl (.cons rfl (.cons rfl (.cons rfl (.cons rfl (.cons rfl .nil))))))) (fun _ h => h) ?_
      rintro i ⟨hi, hN⟩
      refine VC.seq ?_
      refine VC.reg (VO.l (LO.lt (.r rfl) (.r rfl)) rfl <| VO.nil ?_)
      refine VE.seqN ?_
      refine VC.seq ?_
      refine VC.cond rfl (fun h3 => ?_) (fun h3 => ?_)
      ·
        refine VC.skip (VE.seqN ?_)
        refine VC.seq ?_
        refine VC.block ?_
        refine VC.seq ?_
        refine VC.reg (VO.l (LO.mv (.r rfl)) rfl <| VO.l (LO.ixs S80 N32 hl.some (.r rfl) (.r rfl) rfl (by omega)) rfl <| VO.l (LO.lda (vs := [_, _, _, _]) A32 (.r rfl) (fun w hw => cells_part (off := 0) ((hl.at (j := i) (by omega)) w hw) ⟨_, rfl⟩) rfl) rfl <| VO.h rfl <| HO.alloc (C := #[_, _, _, _]) Z32 rfl fun b15 => VO.l (LO.as (.r rfl)) rfl <| VO.h0 <| HO.st 0 (vs := [_, _, _, _]) (C' := [_, _, _, _]) (L' := [_, _, _, _, _]) N32 rfl rfl rfl rfl rfl rfl rfl rfl <| VO.nil ?_)
        refine VE.seqN ?_
        refine VC.seq ?_
        refine VC.reg (VO.l (LO.mv (.r rfl)) rfl <| VO.l (LO.mv (.r rfl)) rfl <| VO.l (LO.add (.r rfl) (.r rfl) (wi (by omega) (by omega))) rfl <| VO.l (LO.sl (l := (i + 1)) S80 N32 (.r rfl) (.r rfl) (by omega) (by omega)) rfl <| VO.l (LO.len S80 (.r rfl) rfl) rfl <| VO.l (LO.mv (.r rfl)) rfl <| VO.nil ?_)
        have hr := flows_drop (k := i + 1) hl (by omega) hc
        have hr1 : SlSome (slFrom p c (i + 1) 4) (l.length - (i + 1)) := by have := hr.some; rwa [List.length_drop] at this
        refine VE.seqN ?_
        refine VC.block ?_
        refine VC.loopK (α := Nat) 0 (fun gx => [(40, .int .i64 (gx : Nat))]) [(0, _), (2, _), (3, _), (6, _), (8, _), (9, _), (28, _), (29, _), (30, _), (38, _), (39, _)] (fun gx => []) (fun gx => gx ≤ l.length - (i + 1) ∧ NoRow l i gx) (fun gx => l.length - (i + 1) - gx) 0 (by exact ⟨Nat.zero_le _, norow_0⟩) (.cons rfl (.cons rfl (.cons rfl (.cons rfl (.cons rfl (.cons rfl (.cons rfl (.cons rfl (.cons rfl (.cons rfl (.cons rfl (.cons rfl .nil)))))))))))) (fun _ h => h) ?_
        rintro j ⟨hj, hR⟩
        refine VC.seq ?_
        refine VC.reg (VO.l (LO.lt (.r rfl) (.r rfl)) rfl <| VO.nil ?_)
        refine VE.seqN ?_
        refine VC.seq ?_
        refine VC.cond rfl (fun h4 => ?_) (fun h4 => ?_)
        ·
          refine VC.skip (VE.seqN ?_)
          refine VC.seq ?_
          refine VC.block ?_
          refine VC.seq ?_
          refine VC.reg (VO.l (LO.mv (.r rfl)) rfl <| VO.l (LO.ixs S80 N32 hr1 (.r rfl) (.r rfl) rfl (by omega)) rfl <| VO.l (LO.lda (vs := [_, _, _, _]) A32 (.r rfl) (hr.at (j := j) (by simp; omega)) rfl) rfl <| VO.h rfl <| HO.alloc (C := #[_, _, _, _]) Z32 rfl fun b17 => VO.l (LO.as (.r rfl)) rfl <| VO.h0 <| HO.st 0 (vs := [_, _, _, _]) (C' := [_, _, _, _]) (L' := [_, _, _, _, _, _]) N32 rfl rfl rfl rfl rfl rfl rfl rfl <| VO.nil ?_)
          refine VE.seqN ?_
          refine VC.seq ?_
          refine VC.reg (VO.l (LO.lda (vs := [_, _]) A141 (.r rfl) (fun _ hw => cells_at hw 3 rfl ⟨_, rfl⟩) rfl) rfl <| VO.l (LO.lda (vs := [_, _, _, _]) A32 (.r rfl) (fun _ hw => cells_at hw 1 rfl ⟨_, rfl⟩) rfl) rfl <| VO.l (LO.lda (vs := [_, _, _, _]) A32 (.r rfl) (fun _ hw => cells_at hw 0 rfl ⟨_, rfl⟩) rfl) rfl <| VO.l (LO.call (xs := [_, _, _]) (vs := [_, _, _]) C73 ⟨(.r rfl), (.r rfl), (.r rfl), trivial⟩ (fun w _ => ofC_c (l.getD i zF) ((l.drop (i + 1)).getD j zF) w)) rfl <| VO.l (LO.call (xs := [_]) (vs := [_]) C34 ⟨(.r rfl), trivial⟩ (fun w _ => checkFlow_c (meetF (l.getD i zF) ((l.drop (i + 1)).getD j zF)) w)) rfl <| VO.l (LO.ne (.r rfl) (.r rfl)) rfl <| VO.nil ?_)
          refine VE.seqN ?_
          refine VC.cond rfl (fun h5 => ?_) (fun h5 => ?_)
          ·
            refine VC.seq ?_
            refine VC.reg (VO.l (LO.bd (ps := []) (vs := []) (C := [_, _, _, _]) B32  trivial rfl rfl) rfl <| VO.l (LO.mv (.r rfl)) rfl <| VO.l (LO.mv (.r rfl)) rfl <| VO.l (LO.add (.r rfl) (.r rfl) (wi (by omega) (by omega))) rfl <| VO.l (LO.mv (.r rfl)) rfl <| VO.l (LO.add (.r rfl) (.r rfl) (wi (by omega) (by omega))) rfl <| VO.l (LO.bda (ps := [(_, _), (_, _)]) (vs := [(_, _), (_, _)]) (C := [_, _]) B91 rfl ⟨(.r rfl), (.r rfl), trivial⟩ rfl ⟨_, [_], [_, _], rfl, rfl, rfl, rfl, ⟨_, [_], [_, _], rfl, rfl, rfl, rfl, rfl⟩⟩) rfl <| VO.h0 <| HO.st 5 (vs := [_, _, _, _]) (C' := [_, _, _, _]) (L' := [_, _, _, _, _, _]) N32 rfl rfl rfl rfl rfl rfl rfl rfl <| VO.h0 <| HO.st 4 (vs := [_, _]) (C' := [_, _]) (L' := [_, _, _, _, _, _]) N91 rfl rfl rfl rfl rfl rfl rfl rfl <| VO.l (LO.as (.r rfl)) rfl <| VO.nil ?_)
            refine VE.seqN ?_
            refine VC.ret (VE.inR (VE.thenR (VE.thenR (VE.inR (VE.inR (VE.thenR (VE.thenR (VE.inR (VE.thenR (VE.res (vs := [_, _, _]) rfl ⟨RV.agg (vs := [_, _, _, _]) A32 rfl (cells_blk 5 rfl ⟨_, rfl⟩) rfl, RV.agg (vs := [_, _]) A91 rfl (cells_blk 4 rfl ⟨_, rfl⟩) rfl, rfl, trivial⟩ (fun w hw => ?_)))))))))))
            first | exact ⟨meA h1, hw.nil⟩ | exact ⟨meB h1 h2, hw.nil⟩ | exact ⟨meC h1 (by omega) (by omega) hN hR h5, hw.nil⟩ | exact ⟨meD h1 h2 hN (by omega), hw.nil⟩
          ·
            refine VC.skip (VE.inN (VE.seqN ?_))
            refine VC.reg (VO.l (LO.add (.r rfl) (.r rfl) (wi (by omega) (by omega))) rfl <| VO.l (LO.mv (.r rfl)) rfl <| VO.nil ?_)
            refine VE.thenN fun a w ha hw => ⟨j + 1, ⟨by omega, norow_next hR (by simpa using h5)⟩, (by omega), ha.sub (.cons rfl (.cons rfl (.cons rfl (.cons rfl (.cons rfl (.cons rfl (.cons rfl (.cons rfl (.cons rfl (.cons rfl (.cons rfl (.cons rfl .nil)))))))))))), hw.sel [1, 2, 3, 4, 5] rfl⟩
        ·
          refine VC.exit (VE.thenX (VE.thenX (VE.inX (VE.inN (VE.seqN ?_)))))
          refine VC.reg (VO.l (LO.add (.r rfl) (.r rfl) (wi (by omega) (by omega))) rfl <| VO.l (LO.mv (.r rfl)) rfl <| VO.nil ?_)
          refine VE.thenN fun a w ha hw => ⟨i + 1, ⟨by omega, noto_next hN hR (by omega)⟩, (by omega), ha.sub (.cons rfl (.cons rfl (.cons rfl (.cons rfl (.cons rfl (.cons rfl (.cons rfl .nil))))))), hw.sel [1, 2, 3, 4] rfl⟩
      ·
        refine VC.exit (VE.thenX (VE.thenX (VE.inX (VE.seqN ?_))))
        refine VC.seq ?_
        refine VC.drawH [[0, 1, 2, 3], [0, 1, 2], [0, 1]] [some 0, some 1, none, none, some 2] mixed (by kernel_rfl) rfl (LX.l (fun _ hJ => LO.bd (ps := []) (vs := []) (C := [_, _, _, _]) B32  trivial rfl rfl) rfl <| LX.l (fun _ hJ => LO.lda (vs := [_, _]) A91 (.r rfl) (fun _ hw => cells_at (hJ _ hw) 2 rfl ⟨_, rfl⟩) rfl) rfl <| LX.s <| LX.s <| LX.l (fun _ hJ => LO.as (.r rfl)) rfl <| LX.nil) (HX.s <| HX.s <| HX.h0 <| HO.st 3 (vs := [_, _, _, _]) (C' := [_, _, _, _]) (L' := [_, _, _, _]) N32 rfl rfl rfl rfl rfl rfl rfl rfl <| ⟨fun _ hw => hw.sel [0, 1, 2] rfl, HX.h0 <| HO.st 2 (vs := [_, _]) (C' := [_, _]) (L' := [_, _, _, _]) N91 rfl rfl rfl rfl rfl rfl rfl rfl <| ⟨fun _ hw => hw.sel [0, 1] rfl, HX.s <| HX.nil ?_⟩⟩)
        refine VE.seqN ?_
        refine VC.ret (VE.res (vs := [_, _, _]) rfl ⟨RV.agg (vs := [_, _, _, _]) A32 rfl (cells_blk 3 rfl ⟨_, rfl⟩) rfl, RV.agg (vs := [_, _]) A91 rfl (cells_blk 2 rfl ⟨_, rfl⟩) rfl, rfl, trivial⟩ (fun w hw => ?_))
        first | exact ⟨meA h1, hw.nil⟩ | exact ⟨meB h1 h2, hw.nil⟩ | exact ⟨meC h1 (by omega) (by omega) hN hR h5, hw.nil⟩ | exact ⟨meD h1 h2 hN (by omega), hw.nil⟩

set_option maxRecDepth 20000 in
theorem rMeet_c (p : Option Addr) (l : List Flow) (c : Nat) (w : World) (hl : Flows w p l) :
  Calls Try.prog 39 #[.slice p l.length c] w fun e w' => e = .returned (.tuple #[flowV (meetV l), .agg #[.int .i64 (meetP l).1, .int .i64 (meetP l).2], .int .i64 (meetE l)]) ∧ St (bs w) [] w' := by
  refine enter (vs := [_]) (env := [(0, _)]) Try.func39 rfl rfl rfl rfl ?_
  refine VC.seq ?_
  refine VC.reg (VO.h rfl <| HO.alloc (C := #[_, _, _, _]) Z35 rfl fun b1 => VO.h rfl <| HO.alloc (C := #[_, _]) Z91 rfl fun b2 => VO.l (LO.as (.r rfl)) rfl <| VO.nil ?_)
  refine VE.seqN ?_
  refine VC.seq ?_
  refine VC.reg (VO.l (LO.bda (ps := []) (vs := []) (C := [_, _]) B91 rfl trivial rfl rfl) rfl <| VO.h rfl <| HO.alloc (C := #[_, _]) Z91 rfl fun b3 => VO.h0 <| HO.st 0 (vs := [_, _]) (C' := [_, _]) (L' := [_, _, _]) N91 rfl rfl rfl rfl rfl rfl rfl rfl <| VO.nil ?_)
  refine VE.seqN ?_
  refine VC.seq ?_
  refine VC.reg (VO.l (LO.mv (.r rfl)) rfl <| VO.l (LO.call (xs := [_]) (vs := [_]) C74 ⟨(.r rfl), trivial⟩ (fun w hw => rflows_c p l c w (hl.keep w hw))) rfl <| VO.l (LO.as (.r rfl)) rfl <| VO.nil ?_)
  refine VE.seqN ?_
  refine VC.seq ?_
  refine VC.seq ?_
  refine VC.reg (VO.l (LO.mv (.r rfl)) rfl <| VO.l (LO.ne (.r rfl) (.r rfl)) rfl <| VO.nil ?_)
  refine VE.seqN ?_
  refine VC.cond rfl (fun h1 => ?_) (fun h1 => ?_)
  ·
    refine VC.seq ?_
    refine VC.drawH [[0, 1, 2], [0, 1], [0]] [some 0, some 1, some 2, none, none, some 2] mixed (by kernel_rfl) rfl (LX.l (fun _ hJ => LO.bd (ps := []) (vs := []) (C := [_, _, _, _]) B35  trivial rfl rfl) rfl <| LX.l (fun _ hJ => LO.lda (vs := [_, _]) A91 (.r rfl) (fun _ hw => cells_at (hJ _ hw) 0 rfl ⟨_, rfl⟩) rfl) rfl <| LX.l (fun _ hJ => LO.mv (.r rfl)) rfl <| LX.s <| LX.s <| LX.l (fun _ hJ => LO.as (.r rfl)) rfl <| LX.nil) (HX.s <| HX.s <| HX.s <| HX.h0 <| HO.st 2 (vs := [_, _, _, _]) (C' := [_, _, _, _]) (L' := [_, _, _]) N35 rfl rfl rfl rfl rfl rfl rfl rfl <| ⟨fun _ hw => hw.sel [0, 1] rfl, HX.h0 <| HO.st 1 (vs := [_, _]) (C' := [_, _]) (L' := [_, _, _]) N91 rfl rfl rfl rfl rfl rfl rfl rfl <| ⟨fun _ hw => hw.sel [0] rfl, HX.s <| HX.nil ?_⟩⟩)
    refine VE.seqN ?_
    refine VC.ret (VE.thenR (VE.res (vs := [_, _, _]) rfl ⟨RV.agg (vs := [_, _, _, _]) A35 rfl (cells_blk 2 rfl ⟨_, rfl⟩) rfl, RV.agg (vs := [_, _]) A91 rfl (cells_blk 1 rfl ⟨_, rfl⟩) rfl, rfl, trivial⟩ (fun w hw => ?_)))
    first | exact ⟨meA h1, hw.nil⟩ | exact ⟨meC2 h1 hF (by omega) (by omega) hN hR h5, hw.nil⟩ | exact ⟨by rw [ref_end meet_self hF1 (by omega)]; exact meE h1 hN (by omega), hw.nil⟩
  ·
    have h1 : flowsE l = 0 := Classical.not_not.1 h1
    have hF := flows_ok h1
    have hF1 := hF.1
    have hF2 := hF.2.1
    refine VC.skip (VE.seqN ?_)
    refine VC.seq ?_
    refine VC.seq ?_
    refine VC.reg (VO.l (LO.as (.r rfl)) rfl <| VO.nil ?_)
    refine VE.seqN ?_
    refine VC.block ?_
    refine VC.loopK (α := Nat) 0 (fun gx => [(7, .int .i64 (gx : Nat))]) [(0, _), (2, _), (3, _), (5, _)] (fun gx => []) (fun gx => gx ≤ l.length ∧ NoTo l gx) (fun gx => l.length - gx) 0 (by exact ⟨Nat.zero_le _, noto_0⟩) (.cons rfl (.cons rfl (.cons rfl (.cons rfl (.cons rfl .nil))))) (fun _ h => h) ?_
    rintro i ⟨hi, hN⟩
    refine VC.seq ?_
    refine VC.seq ?_
    refine VC.reg (VO.l (LO.mv (.r rfl)) rfl <| VO.l (LO.mv (.r rfl)) rfl <| VO.l (LO.len S86 (.r rfl) rfl) rfl <| VO.l (LO.lt (.r rfl) (.r rfl)) rfl <| VO.nil ?_)
    refine VE.seqN ?_
    refine VC.cond rfl (fun h3 => ?_) (fun h3 => ?_)
    ·
      refine VC.skip (VE.seqN ?_)
      refine VC.seq ?_
      refine VC.block ?_
      refine VC.seq ?_
      refine VC.reg (VO.l (LO.mv (.r rfl)) rfl <| VO.l (LO.add (.r rfl) (.r rfl) (wi (by omega) (by omega))) rfl <| VO.l (LO.as (.r rfl)) rfl <| VO.nil ?_)
      refine VE.seqN ?_
      refine VC.block ?_
      refine VC.loopK (α := Nat) 0 (fun gx => [(8, .int .i64 (gx : Nat))]) [(0, _), (2, _), (3, _), (5, _), (7, _)] (fun gx => []) (fun gx => (i + 1 ≤ gx ∧ gx ≤ l.length) ∧ NoRow2 l i gx) (fun gx => l.length - gx) (i + 1) (by exact ⟨by omega, norow2_0⟩) (.cons rfl (.cons rfl (.cons rfl (.cons rfl (.cons rfl (.cons rfl .nil)))))) (fun _ h => h) ?_
      rintro j ⟨hj, hR⟩
      refine VC.seq ?_
      refine VC.seq ?_
      refine VC.reg (VO.l (LO.mv (.r rfl)) rfl <| VO.l (LO.mv (.r rfl)) rfl <| VO.l (LO.len S86 (.r rfl) rfl) rfl <| VO.l (LO.lt (.r rfl) (.r rfl)) rfl <| VO.nil ?_)
      refine VE.seqN ?_
      refine VC.cond rfl (fun h4 => ?_) (fun h4 => ?_)
      ·
        refine VC.skip (VE.seqN ?_)
        refine VC.seq ?_
        refine VC.block ?_
        refine VC.seq ?_
        refine VC.drawB [⟨8, 9, fun b => .pointer (some ⟨b, 0, none⟩), 35, #[.int .i64 0, .int .i64 0, .int .i64 0, .int .i64 0]⟩, ⟨9, 10, fun b => .pointer (some ⟨b, 0, none⟩), 35, #[.int .i64 0, .int .i64 0, .int .i64 0, .int .i64 0]⟩] [[0, 1, 2], [0, 1, 2], [0, 1, 2], [0, 1, 2], [0, 1, 2]] [some 2, some 2, some 2, some 2, some 3, some 3, some 3, some 3, none, none, none, none] mixed (by kernel_rfl) rfl (LX.l (fun _ hJ => LO.mv (.r rfl)) rfl <| LX.l (fun _ hJ => LO.mv (.r rfl)) rfl <| LX.l (fun _ hJ => LO.ixs S86 N35 hl.some (.r rfl) (.r rfl) rfl (by omega)) rfl <| LX.l (fun _ hJ => LO.lda (vs := [_, _, _, _]) A35 (.r rfl) (fun w hw => cells_part (off := 0) ((hl.at (j := i) (by omega)) w (hJ _ hw)) ⟨_, rfl⟩) rfl) rfl <| LX.l (fun _ hJ => LO.mv (.r rfl)) rfl <| LX.l (fun _ hJ => LO.mv (.r rfl)) rfl <| LX.l (fun _ hJ => LO.ixs S86 N35 hl.some (.r rfl) (.r rfl) rfl (by omega)) rfl <| LX.l (fun _ hJ => LO.lda (vs := [_, _, _, _]) A35 (.r rfl) (fun w hw => cells_part (off := 0) ((hl.at (j := j) (by omega)) w (hJ _ hw)) ⟨_, rfl⟩) rfl) rfl <| LX.s <| LX.s <| LX.s <| LX.s <| LX.nil) (⟨⟨rfl, _, rfl, FO.alloc Z35 rfl⟩, ⟨⟨rfl, _, rfl, FO.alloc Z35 rfl⟩, trivial⟩⟩) (HY.s <| HY.s <| HY.s <| HY.s <| HY.s <| HY.s <| HY.s <| HY.s <| HY.f rfl fun b13 => ⟨selJ (L1 := [_, _, _]) [1, 2, 3] rfl rfl rfl, HY.f rfl fun b14 => ⟨selJ (L1 := [_, _, _]) [2, 3, 4] rfl rfl rfl, HY.h0 rfl fun X => HO.st 1 (vs := [_, _, _, _]) (C' := [_, _, _, _]) (L' := [_, _, _, _, _] ++ X) N35 rfl rfl rfl rfl rfl rfl rfl rfl <| ⟨[_, _, _, _, _], rfl, selJ (L1 := [_, _, _]) [2, 3, 4] rfl rfl rfl, HY.h0 rfl fun X => HO.st 0 (vs := [_, _, _, _]) (C' := [_, _, _, _]) (L' := [_, _, _, _, _] ++ X) N35 rfl rfl rfl rfl rfl rfl rfl rfl <| ⟨[_, _, _, _, _], rfl, selJ (L1 := [_, _, _]) [2, 3, 4] rfl rfl rfl, HY.nil ?_⟩⟩⟩⟩)
        refine VE.seqN ?_
        refine VC.seq ?_
        refine VC.reg (VO.l (LO.fa (r := 0) F35_0 (.r rfl) rfl) rfl <| VO.l (LO.fa (r := 0) F30_0 (.r rfl) rfl) rfl <| VO.l (LO.ld O3 (.r rfl) (fun _ hw => cells_at hw 1 rfl ⟨_, rfl⟩)) rfl <| VO.l (LO.fa (r := 0) F35_0 (.r rfl) rfl) rfl <| VO.l (LO.fa (r := 0) F30_0 (.r rfl) rfl) rfl <| VO.l (LO.ld O3 (.r rfl) (fun _ hw => cells_at hw 0 rfl ⟨_, rfl⟩)) rfl <| VO.l (LO.max (.r rfl) (.r rfl)) rfl <| VO.l (LO.fa (r := 0) F35_0 (.r rfl) rfl) rfl <| VO.l (LO.fa (r := 1) F30_1 (.r rfl) rfl) rfl <| VO.l (LO.ld O3 (.r rfl) (fun _ hw => cells_at hw 1 rfl ⟨_, rfl⟩)) rfl <| VO.l (LO.fa (r := 0) F35_0 (.r rfl) rfl) rfl <| VO.l (LO.fa (r := 1) F30_1 (.r rfl) rfl) rfl <| VO.l (LO.ld O3 (.r rfl) (fun _ hw => cells_at hw 0 rfl ⟨_, rfl⟩)) rfl <| VO.l (LO.min (.r rfl) (.r rfl)) rfl <| VO.l (LO.gt (.r rfl) (.r rfl)) rfl <| VO.l (LO.mv (.r rfl)) rfl <| VO.lg rfl rfl (GD.f _) (fun hg => LO.fa (r := 2) F35_1 (.r rfl) rfl) rfl <| VO.lg rfl rfl (GD.f _) (fun hg => LO.fa (r := 2) F30_0 (.g hg rfl) rfl) rfl <| VO.lg rfl rfl (GD.f _) (fun hg => LO.ld O3 (.g hg rfl) (fun _ hw => cells_at hw 1 rfl ⟨_, rfl⟩)) rfl <| VO.lg rfl rfl (GD.f _) (fun hg => LO.fa (r := 2) F35_1 (.r rfl) rfl) rfl <| VO.lg rfl rfl (GD.f _) (fun hg => LO.fa (r := 2) F30_0 (.g hg rfl) rfl) rfl <| VO.lg rfl rfl (GD.f _) (fun hg => LO.ld O3 (.g hg rfl) (fun _ hw => cells_at hw 0 rfl ⟨_, rfl⟩)) rfl <| VO.lg rfl rfl (GD.f _) (fun hg => LO.max (.g hg rfl) (.g hg rfl)) rfl <| VO.lg rfl rfl (GD.f _) (fun hg => LO.fa (r := 2) F35_1 (.r rfl) rfl) rfl <| VO.lg rfl rfl (GD.f _) (fun hg => LO.fa (r := 3) F30_1 (.g hg rfl) rfl) rfl <| VO.lg rfl rfl (GD.f _) (fun hg => LO.ld O3 (.g hg rfl) (fun _ hw => cells_at hw 1 rfl ⟨_, rfl⟩)) rfl <| VO.lg rfl rfl (GD.f _) (fun hg => LO.fa (r := 2) F35_1 (.r rfl) rfl) rfl <| VO.lg rfl rfl (GD.f _) (fun hg => LO.fa (r := 3) F30_1 (.g hg rfl) rfl) rfl <| VO.lg rfl rfl (GD.f _) (fun hg => LO.ld O3 (.g hg rfl) (fun _ hw => cells_at hw 0 rfl ⟨_, rfl⟩)) rfl <| VO.lg rfl rfl (GD.f _) (fun hg => LO.min (.g hg rfl) (.g hg rfl)) rfl <| VO.lg rfl rfl (GD.f _) (fun hg => LO.gt (.g hg rfl) (.g hg rfl)) rfl <| VO.l (LO.pkO (.r rfl) (.r rfl) rfl rfl) rfl <| VO.nil ?_)
        refine VE.seqN ?_
        refine VC.cond rfl (fun h5 => ?_) (fun h5 => ?_)
        ·
          refine VC.seq ?_
          refine VC.reg (VO.l (LO.bd (ps := []) (vs := []) (C := [_, _, _, _]) B35  trivial rfl rfl) rfl <| VO.l (LO.mv (.r rfl)) rfl <| VO.l (LO.mv (.r rfl)) rfl <| VO.l (LO.bda (ps := [(_, _), (_, _)]) (vs := [(_, _), (_, _)]) (C := [_, _]) B91 rfl ⟨(.r rfl), (.r rfl), trivial⟩ rfl ⟨_, [_], [_, _], rfl, rfl, rfl, rfl, ⟨_, [_], [_, _], rfl, rfl, rfl, rfl, rfl⟩⟩) rfl <| VO.h0 <| HO.st 4 (vs := [_, _, _, _]) (C' := [_, _, _, _]) (L' := [_, _, _, _, _]) N35 rfl rfl rfl rfl rfl rfl rfl rfl <| VO.h0 <| HO.st 3 (vs := [_, _]) (C' := [_, _]) (L' := [_, _, _, _, _]) N91 rfl rfl rfl rfl rfl rfl rfl rfl <| VO.l (LO.as (.r rfl)) rfl <| VO.nil ?_)
          refine VE.seqN ?_
          refine VC.ret (VE.inR (VE.thenR (VE.thenR (VE.inR (VE.inR (VE.thenR (VE.thenR (VE.inR (VE.thenR (VE.res (vs := [_, _, _]) rfl ⟨RV.agg (vs := [_, _, _, _]) A35 rfl (cells_blk 4 rfl ⟨_, rfl⟩) rfl, RV.agg (vs := [_, _]) A91 rfl (cells_blk 3 rfl ⟨_, rfl⟩) rfl, rfl, trivial⟩ (fun w hw => ?_)))))))))))
          first | exact ⟨meA h1, hw.nil⟩ | exact ⟨meC2 h1 hF (by omega) (by omega) hN hR h5, hw.nil⟩ | exact ⟨by rw [ref_end meet_self hF1 (by omega)]; exact meE h1 hN (by omega), hw.nil⟩
        ·
          refine VC.skip (VE.inN (VE.seqN ?_))
          refine VC.reg (VO.l (LO.mv (.r rfl)) rfl <| VO.l (LO.add (.r rfl) (.r rfl) (wi (by omega) (by omega))) rfl <| VO.l (LO.as (.r rfl)) rfl <| VO.nil ?_)
          refine VE.thenN fun a w ha hw => ⟨j + 1, ⟨by omega, norow2_next hF (by omega) (by omega) hR h5⟩, (by omega), ha.sub (.cons rfl (.cons rfl (.cons rfl (.cons rfl (.cons rfl (.cons rfl .nil)))))), hw.sel [2, 3, 4] rfl⟩
      ·
        refine VC.exit (VE.thenX (VE.thenX (VE.inX (VE.inN (VE.seqN ?_)))))
        refine VC.reg (VO.l (LO.mv (.r rfl)) rfl <| VO.l (LO.add (.r rfl) (.r rfl) (wi (by omega) (by omega))) rfl <| VO.l (LO.as (.r rfl)) rfl <| VO.nil ?_)
        refine VE.thenN fun a w ha hw => ⟨i + 1, ⟨by omega, noto_next2 hN hR (by omega)⟩, (by omega), ha.sub (.cons rfl (.cons rfl (.cons rfl (.cons rfl (.cons rfl .nil))))), hw⟩
    ·
      refine VC.exit (VE.thenX (VE.thenX (VE.inX (VE.seqN ?_))))
      refine VC.seq ?_
      refine VC.reg (VO.l (LO.mv (.r rfl)) rfl <| VO.l (LO.ixs S86 N35 hl.some (.r rfl) (.r rfl) (j := 0) rfl (by omega)) rfl <| VO.l (LO.lda (vs := [_, _, _, _]) A35 (.r rfl) (fun w hw => cells_part (off := 0) ((hl.at (j := 0) (by omega)) w hw) ⟨_, rfl⟩) rfl) rfl <| VO.h rfl <| HO.alloc (C := #[_, _, _, _]) Z35 rfl fun b19 => VO.h0 <| HO.st 0 (vs := [_, _, _, _]) (C' := [_, _, _, _]) (L' := [_, _, _, _]) N35 rfl rfl rfl rfl rfl rfl rfl rfl <| VO.nil ?_)
      refine VE.seqN ?_
      refine VC.seq ?_
      refine VC.seq ?_
      refine VC.reg (VO.l (LO.as (.r rfl)) rfl <| VO.nil ?_)
      refine VE.seqN ?_
      refine VC.block ?_
      refine VC.loopK (α := Nat) 1 (fun gx => [(12, .int .i64 (gx : Nat))]) [(0, _), (2, _), (3, _), (5, _), (11, _)] (fun gx => [blk b19 (.cells #[.int .i64 (refF meetF l gx).a, .int .i64 (refF meetF l gx).b, .int .i64 (refF meetF l gx).c, .int .i64 (refF meetF l gx).d] 35)]) (fun gx => gx ≤ l.length) (fun gx => l.length - gx) 0 (by exact Nat.zero_le _) (.cons rfl (.cons rfl (.cons rfl (.cons rfl (.cons rfl (.cons rfl .nil)))))) (fun _ h => h) ?_
      rintro i hi2
      refine VC.seq ?_
      refine VC.seq ?_
      refine VC.reg (VO.l (LO.mv (.r rfl)) rfl <| VO.l (LO.mv (.r rfl)) rfl <| VO.l (LO.len S86 (.r rfl) rfl) rfl <| VO.l (LO.lt (.r rfl) (.r rfl)) rfl <| VO.nil ?_)
      refine VE.seqN ?_
      refine VC.cond rfl (fun h6 => ?_) (fun h6 => ?_)
      ·
        refine VC.skip (VE.seqN ?_)
        refine VC.seq ?_
        refine VC.block ?_
        refine VC.seq ?_
        refine VC.drawH [[0, 1, 2, 3], [1, 2, 3]] [some 0, some 0, some 0, some 0, some 0, some 0, some 0, some 0, some 0, some 0, some 0, some 0, some 0, some 0, some 0, some 0, some 0, some 0, some 0, some 0, some 0, some 0, none] mixed (by kernel_rfl) rfl (LX.l (fun _ hJ => LO.fa (r := 0) F35_0 (.r rfl) rfl) rfl <| LX.l (fun _ hJ => LO.fa (r := 0) F30_0 (.r rfl) rfl) rfl <| LX.l (fun _ hJ => LO.ld O3 (.r rfl) (fun _ hw => cells_at (hJ _ hw) 0 rfl ⟨_, rfl⟩)) rfl <| LX.l (fun _ hJ => LO.mv (.r rfl)) rfl <| LX.l (fun _ hJ => LO.mv (.r rfl)) rfl <| LX.l (fun _ hJ => LO.ixs S86 N35 hl.some (.r rfl) (.r rfl) rfl (by omega)) rfl <| LX.l (fun _ hJ => LO.fa F35_0 (.r rfl) rfl) rfl <| LX.l (fun _ hJ => LO.fa F30_0 (.r rfl) rfl) rfl <| LX.l (fun _ hJ => LO.ld O3 (.r rfl) (fun w hw => cells_part (off := 0) ((hl.at (j := i) (by omega)) w (hJ _ hw)) ⟨_, rfl⟩)) rfl <| LX.l (fun _ hJ => LO.max (.r rfl) (.r rfl)) rfl <| LX.l (fun _ hJ => LO.fa (r := 0) F35_0 (.r rfl) rfl) rfl <| LX.l (fun _ hJ => LO.fa (r := 1) F30_1 (.r rfl) rfl) rfl <| LX.l (fun _ hJ => LO.ld O3 (.r rfl) (fun _ hw => cells_at (hJ _ hw) 0 rfl ⟨_, rfl⟩)) rfl <| LX.l (fun _ hJ => LO.mv (.r rfl)) rfl <| LX.l (fun _ hJ => LO.mv (.r rfl)) rfl <| LX.l (fun _ hJ => LO.ixs S86 N35 hl.some (.r rfl) (.r rfl) rfl (by omega)) rfl <| LX.l (fun _ hJ => LO.fa F35_0 (.r rfl) rfl) rfl <| LX.l (fun _ hJ => LO.fa F30_1 (.r rfl) rfl) rfl <| LX.l (fun _ hJ => LO.ld O3 (.r rfl) (fun w hw => cells_part (off := 1) ((hl.at (j := i) (by omega)) w (hJ _ hw)) ⟨_, rfl⟩)) rfl <| LX.l (fun _ hJ => LO.min (.r rfl) (.r rfl)) rfl <| LX.l (fun _ hJ => LO.bd (ps := [(_, _), (_, _)]) (vs := [(_, _), (_, _)]) (C := [_, _]) B30  ⟨(.r rfl), (.r rfl), trivial⟩ rfl ⟨_, [_], [_, _], rfl, rfl, rfl, rfl, ⟨_, [_], [_, _], rfl, rfl, rfl, rfl, rfl⟩⟩) rfl <| LX.l (fun _ hJ => LO.fa (r := 0) F35_0 (.r rfl) rfl) rfl <| LX.s <| LX.nil) (HX.s <| HX.s <| HX.s <| HX.s <| HX.s <| HX.s <| HX.s <| HX.s <| HX.s <| HX.s <| HX.s <| HX.s <| HX.s <| HX.s <| HX.s <| HX.s <| HX.s <| HX.s <| HX.s <| HX.s <| HX.s <| HX.s <| HX.h0 <| HO.st 0 (vs := [_, _]) (C' := [_, _, _, _]) (L' := [_, _, _, _]) N30 rfl rfl rfl rfl rfl rfl rfl rfl <| ⟨fun _ hw => hw.sel [1, 2, 3] rfl, HX.nil ?_⟩)
        refine VE.seqN ?_
        refine VC.drawH [[0, 1, 2, 3], [1, 2, 3]] [some 0, some 0, some 0, some 0, some 0, some 0, some 0, some 0, some 0, some 0, some 0, some 0, some 0, some 0, some 0, some 0, some 0, some 0, some 0, some 0, some 0, some 0, none] mixed (by kernel_rfl) rfl (LX.l (fun _ hJ => LO.fa (r := 2) F35_1 (.r rfl) rfl) rfl <| LX.l (fun _ hJ => LO.fa (r := 2) F30_0 (.r rfl) rfl) rfl <| LX.l (fun _ hJ => LO.ld O3 (.r rfl) (fun _ hw => cells_at (hJ _ hw) 0 rfl ⟨_, rfl⟩)) rfl <| LX.l (fun _ hJ => LO.mv (.r rfl)) rfl <| LX.l (fun _ hJ => LO.mv (.r rfl)) rfl <| LX.l (fun _ hJ => LO.ixs S86 N35 hl.some (.r rfl) (.r rfl) rfl (by omega)) rfl <| LX.l (fun _ hJ => LO.fa F35_1 (.r rfl) rfl) rfl <| LX.l (fun _ hJ => LO.fa F30_0 (.r rfl) rfl) rfl <| LX.l (fun _ hJ => LO.ld O3 (.r rfl) (fun w hw => cells_part (off := 2) ((hl.at (j := i) (by omega)) w (hJ _ hw)) ⟨_, rfl⟩)) rfl <| LX.l (fun _ hJ => LO.max (.r rfl) (.r rfl)) rfl <| LX.l (fun _ hJ => LO.fa (r := 2) F35_1 (.r rfl) rfl) rfl <| LX.l (fun _ hJ => LO.fa (r := 3) F30_1 (.r rfl) rfl) rfl <| LX.l (fun _ hJ => LO.ld O3 (.r rfl) (fun _ hw => cells_at (hJ _ hw) 0 rfl ⟨_, rfl⟩)) rfl <| LX.l (fun _ hJ => LO.mv (.r rfl)) rfl <| LX.l (fun _ hJ => LO.mv (.r rfl)) rfl <| LX.l (fun _ hJ => LO.ixs S86 N35 hl.some (.r rfl) (.r rfl) rfl (by omega)) rfl <| LX.l (fun _ hJ => LO.fa F35_1 (.r rfl) rfl) rfl <| LX.l (fun _ hJ => LO.fa F30_1 (.r rfl) rfl) rfl <| LX.l (fun _ hJ => LO.ld O3 (.r rfl) (fun w hw => cells_part (off := 3) ((hl.at (j := i) (by omega)) w (hJ _ hw)) ⟨_, rfl⟩)) rfl <| LX.l (fun _ hJ => LO.min (.r rfl) (.r rfl)) rfl <| LX.l (fun _ hJ => LO.bd (ps := [(_, _), (_, _)]) (vs := [(_, _), (_, _)]) (C := [_, _]) B30  ⟨(.r rfl), (.r rfl), trivial⟩ rfl ⟨_, [_], [_, _], rfl, rfl, rfl, rfl, ⟨_, [_], [_, _], rfl, rfl, rfl, rfl, rfl⟩⟩) rfl <| LX.l (fun _ hJ => LO.fa (r := 2) F35_1 (.r rfl) rfl) rfl <| LX.s <| LX.nil) (HX.s <| HX.s <| HX.s <| HX.s <| HX.s <| HX.s <| HX.s <| HX.s <| HX.s <| HX.s <| HX.s <| HX.s <| HX.s <| HX.s <| HX.s <| HX.s <| HX.s <| HX.s <| HX.s <| HX.s <| HX.s <| HX.s <| HX.h0 <| HO.st 0 (vs := [_, _]) (C' := [_, _, _, _]) (L' := [_, _, _, _]) N30 rfl rfl rfl rfl rfl rfl rfl rfl <| ⟨fun _ hw => hw.sel [1, 2, 3] rfl, HX.nil ?_⟩)
        refine VE.inN (VE.seqN ?_)
        refine VC.reg (VO.l (LO.mv (.r rfl)) rfl <| VO.l (LO.add (.r rfl) (.r rfl) (wi (by omega) (by omega))) rfl <| VO.l (LO.as (.r rfl)) rfl <| VO.nil ?_)
        refine VE.thenN fun a w ha hw => ⟨i + 1, (by omega), (by omega), ha.sub (.cons rfl (.cons rfl (.cons rfl (.cons rfl (.cons rfl (.cons rfl .nil)))))), (by rw [ref_step (show i < l.length by omega)]; exact hw)⟩
      ·
        refine VC.exit (VE.thenX (VE.thenX (VE.inX (VE.seqN ?_))))
        refine VC.seq ?_
        refine VC.drawH [[0, 1, 2, 3], [0, 1, 2], [0, 1]] [some 0, some 1, none, none, some 2] mixed (by kernel_rfl) rfl (LX.l (fun _ hJ => LO.lda (vs := [_, _, _, _]) A35 (.r rfl) (fun _ hw => cells_at (hJ _ hw) 0 rfl ⟨_, rfl⟩) rfl) rfl <| LX.l (fun _ hJ => LO.lda (vs := [_, _]) A91 (.r rfl) (fun _ hw => cells_at (hJ _ hw) 1 rfl ⟨_, rfl⟩) rfl) rfl <| LX.s <| LX.s <| LX.l (fun _ hJ => LO.as (.r rfl)) rfl <| LX.nil) (HX.s <| HX.s <| HX.h0 <| HO.st 3 (vs := [_, _, _, _]) (C' := [_, _, _, _]) (L' := [_, _, _, _]) N35 rfl rfl rfl rfl rfl rfl rfl rfl <| ⟨fun _ hw => hw.sel [0, 1, 2] rfl, HX.h0 <| HO.st 2 (vs := [_, _]) (C' := [_, _]) (L' := [_, _, _, _]) N91 rfl rfl rfl rfl rfl rfl rfl rfl <| ⟨fun _ hw => hw.sel [0, 1] rfl, HX.s <| HX.nil ?_⟩⟩)
        refine VE.seqN ?_
        refine VC.ret (VE.res (vs := [_, _, _]) rfl ⟨RV.agg (vs := [_, _, _, _]) A35 rfl (cells_blk 3 rfl ⟨_, rfl⟩) rfl, RV.agg (vs := [_, _]) A91 rfl (cells_blk 2 rfl ⟨_, rfl⟩) rfl, rfl, trivial⟩ (fun w hw => ?_))
        first | exact ⟨meA h1, hw.nil⟩ | exact ⟨meC2 h1 hF (by omega) (by omega) hN hR h5, hw.nil⟩ | exact ⟨by rw [ref_end meet_self hF1 (by omega)]; exact meE h1 hN (by omega), hw.nil⟩

end Go.Proofs.Ytdcjeoamhjplmaa
