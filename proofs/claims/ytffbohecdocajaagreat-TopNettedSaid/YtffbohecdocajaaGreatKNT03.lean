/-
  The neighbors of a pixel, one by one.
  How parts are found pixel by pixel: plain.
  Slices that are made empty, with room. No program stands in this text.
  Strings appended to slices of bytes that are owned; bytes as strings. No program stands in this text.
-/
import Derived.Test.YtffbohecdocajaaGreatKNT02

set_option linter.unusedSimpArgs false
namespace Go.Proofs.YtffbohecdocajaaGreat
open Go.SL Go.Proofs Go.Cast Go.Cell
set_option linter.unusedVariables false



theorem LO.eqv {P : Program} {β : Bs} {env : Env} {L : List Res} {o : Oper} {v v' : Value} (h : LO P β env L o v) (e : v = v') : LO P β env L o v' := e ▸ h
theorem dlt {a b : Nat} {x y : Int} (h1 : x = a) (h2 : y = b) : Value.bool (decide (x < y)) = .bool (decide (a < b)) := by
  subst h1; subst h2; exact congrArg Value.bool (decide_eq_decide.2 (by omega))
theorem yg2 {P : Program} {ro : Option Nat} {β : Bs} {N : Nat} {ds : List Deferred} {env : Env} {L : List Res} {Q : Exit → Act → World → Prop} (i : Nat) {ops : Array Oper} {d j t : Nat} {want c : Bool} {ty : TypeId} {pos : String} {aft : Array Edge} {rest : List Oper} {u : Value} {fx : Operand} {xs : List Operand} {vs : List Value} {aT : Array TypeId} {l : Nat} {r : Res} {post : Bool → Res → Prop} (hj : (ops[j]?).bind (·.dst) = some t) (ht : ev1 env t = some u) (hg : GD u want c) (hd : Nat.blt d N = true)
    (hfx : c = true → OV env fx (yv l)) (hx : c = true → OVs env xs vs) (hi : L[i]? = some r)
    (hy : c = true → ∀ w, r.inv w → (∀ k, r.fp k → k < w.heap.size) → (w.os = β.w.os ∧ w.tape = β.w.tape ∧ w.output = β.w.output ∧ β.w.heap.size ≤ w.heap.size) → YieldsTo P l vs w fun e w' => ∃ b r', e = .returned (.bool b) ∧ post b r' ∧ St ⟨w, r.fp⟩ [r'] w')
    (k : ∀ b r', (c = true → post b r') → (c = false → r' = r) → VO P ro β N ds ops ((d, gv c (.bool b)) :: env) (L.set i r') rest Q) :
    VO P ro β N ds ops env L (⟨some d, .call ⟨.value fx, xs.toArray, aT⟩, ty, pos, aft, some (j, want)⟩ :: rest) Q := by
  cases c with
  | true =>
    exact VO.hg (Kx := fun v L' => ∃ b r', v = .bool b ∧ L' = L.set i r' ∧ post b r') hj ht hg (fun q => HO.yield i (hfx q) (hx q) hi (hy q) fun b r' hp => ⟨b, r', rfl, rfl, hp⟩) hd fun v L' h1 _ => by
      obtain ⟨b, r', h2, h3, h4⟩ := h1 rfl
      subst h2; subst h3
      exact k b r' (fun _ => h4) (fun q => by cases q)
  | false =>
    refine VO.hg (Kx := fun _ _ => False) hj ht hg (fun q => by cases q) hd fun v L' _ h2 => ?_
    have h3 := h2 rfl
    subst h3
    have h4 := k true r (fun q => by cases q) (fun _ => rfl)
    have h5 : L'.set i r = L' := by
      apply List.ext_getElem?
      intro n
      rw [List.getElem?_set]
      split
      · rename_i q; subst q
        split
        · exact hi.symm
        · rename_i q; simp [List.getElem?_eq_none (Nat.not_lt.1 q)] at hi
      · rfl
    rw [h5] at h4
    exact h4
theorem nS {a b : Bool} (h : (!a && b) = true) : a = false := by cases a <;> simp_all
theorem nT {a b : Bool} (h : (!a && b) = true) : b = true := by cases a <;> simp_all
theorem nN {a : Bool} (h : (!a) = true) : a = false := by cases a <;> simp_all

set_option maxRecDepth 20000 in
theorem around_seq (g : Grid) (p bp bg : Nat) (hg0 : gridOk g) (hp : p < gW g * gH g) :
  SeqC Tryz.prog 264 [.pointer (some ⟨bp, 0, none⟩), .pointer (some ⟨bg, 0, none⟩)] (arCap g p bp bg) ((nb (gW g) (gH g) p).map nC) := by
  intro l J Jx w r hCap hyl hJ hi0 hf0
  obtain ⟨hW, hH, hW1, hW2, hH1, hH2⟩ := gWi hg0
  have hal := area_le hg0
  have hxl : p % gW g < gW g := Nat.mod_lt _ (by omega)
  have hyl2 : p / gW g < gH g := row_lt hp
  have hdy : (0 : Int) ≤ ((p / gW g : Nat) : Int) ∧ (0 : Int) ≤ ((p % gW g : Nat) : Int) := ⟨Int.natCast_nonneg _, Int.natCast_nonneg _⟩
  obtain ⟨D1, hD1⟩ : ∃ D, D = (decide (0 < p / gW g)) := ⟨_, rfl⟩
  obtain ⟨D2, hD2⟩ : ∃ D, D = (decide (0 < p % gW g)) := ⟨_, rfl⟩
  obtain ⟨D3, hD3⟩ : ∃ D, D = (decide (p % gW g + 1 < gW g)) := ⟨_, rfl⟩
  obtain ⟨D4, hD4⟩ : ∃ D, D = (decide (p / gW g + 1 < gH g)) := ⟨_, rfl⟩
  have hlen : ((nb (gW g) (gH g) p).map nC).length = D1.toNat + D2.toNat + D3.toNat + D4.toNat := by rw [List.length_map, nb_len, hD1, hD2, hD3, hD4]
  have hk1 : D1 = true → 0 + 1 ≤ ((nb (gW g) (gH g) p).map nC).length := fun h => by rw [hlen, h]; simp only [Bool.toNat_true]; omega
  have hk2 : D2 = true → 0 + D1.toNat + 1 ≤ ((nb (gW g) (gH g) p).map nC).length := fun h => by rw [hlen, h]; simp only [Bool.toNat_true]; omega
  have hk3 : D3 = true → 0 + D1.toNat + D2.toNat + 1 ≤ ((nb (gW g) (gH g) p).map nC).length := fun h => by rw [hlen, h]; simp only [Bool.toNat_true]; omega
  refine enterO (vs := [_,_,_]) (env := [(0,_), (1,_), (2,_)]) (St.one hi0 hf0) Tryz.func264 rfl rfl rfl rfl ?_
  refine VC.seq ?_
  refine VC.draw mixedv (LL.l (LO.ld O3v (.r rfl) (fun _ hw => sub_cells (off := 0) (hCap _ _ _ hJ (St.inv hw 0 _ rfl)).p ⟨_, rfl⟩)) rfl<|LL.l (LO.fa (r := 3) F88_3v (.r rfl) rfl) rfl<|LL.l (LO.ld O3v (.r rfl) (fun _ hw => sub_cells (off := 3) (hCap _ _ _ hJ (St.inv hw 0 _ rfl)).g ⟨_, rfl⟩)) rfl<|LL.l (LO.eqv (LO.rem (.r rfl) (.r rfl) (by omega)) (congrArg (Value.int .i64) (mod_n hg0 p))) rfl<|LL.l (LO.ld O3v (.r rfl) (fun _ hw => sub_cells (off := 0) (hCap _ _ _ hJ (St.inv hw 0 _ rfl)).p ⟨_, rfl⟩)) rfl<|LL.l (LO.fa (r := 3) F88_3v (.r rfl) rfl) rfl<|LL.l (LO.ld O3v (.r rfl) (fun _ hw => sub_cells (off := 3) (hCap _ _ _ hJ (St.inv hw 0 _ rfl)).g ⟨_, rfl⟩)) rfl<|LL.l (LO.eqv (LO.quo (.r rfl) (.r rfl) (by omega) (wi (by rw [div_n hg0]; omega) (by rw [div_n hg0]; omega))) (congrArg (Value.int .i64) (div_n hg0 p))) rfl<|LL.l (LO.as (.r rfl)) rfl<|LL.l (LO.as (.r rfl)) rfl<|LL.nil) (by kernel_rfl) ?_
  refine VE.seqN ?_
  refine VC.seq ?_
  refine VC.seq ?_
  refine VC.reg (VO.l (LO.mv (.r rfl)) rfl<|VO.l (LO.eqv (v' := .bool D1) (LO.gt (.r rfl) (.r rfl)) (by rw [hD1]; exact dlt rfl rfl)) rfl<|VO.l (LO.mv (.r rfl)) rfl<|VO.lg rfl rfl (GD.t _) (fun hg => LO.mv (.r rfl)) rfl<|VO.lg rfl rfl (GD.t _) (fun hg => LO.ld O3v (.r rfl) (fun _ hw => sub_cells (off := 0) (hCap _ _ _ hJ (St.inv hw 0 _ rfl)).p ⟨_, rfl⟩)) rfl<|VO.lg rfl rfl (GD.t _) (fun hg => LO.fa (r := 3) F88_3v (.r rfl) rfl) rfl<|VO.lg rfl rfl (GD.t _) (fun hg => LO.ld O3v (.g hg rfl) (fun _ hw => sub_cells (off := 3) (hCap _ _ _ hJ (St.inv hw 0 _ rfl)).g ⟨_, rfl⟩)) rfl<|VO.lg rfl rfl (GD.t _) (fun hg => LO.eqv (LO.sub (.g hg rfl) (.g hg rfl) (wi (by omega) (by omega))) (congrArg (Value.int .i64) (sub_n hg0 (of_decide_eq_true (hD1 ▸ hg))))) rfl<|yg2 0 (r := r) (vs := [_]) (post := fun b r' => if b = true then J (0 + 1) r' else Jx (0 + 1) r') rfl rfl (GD.t _) rfl (fun hg => .g hg rfl) (fun hg => ⟨.g hg rfl, trivial⟩) rfl (fun hg w2 hi hr hs => hyl (0) _ (by rw [List.getElem?_map, nb_1 (of_decide_eq_true (hD1 ▸ hg))]; rfl) r w2 (hJ) hi hr hs) fun b1 r1 hp1 hq1 => have hA1 := stage (J := J) (Jx := Jx) (s := false) (d := D1) (len := ((nb (gW g) (gH g) p).map nC).length) (fun _ => hJ) (fun q => by cases q) (hk1) hp1 hq1; VO.lg rfl rfl (GD.t _) (fun hg => LO.not (.g hg rfl)) rfl<|VO.l (LO.pkA (.r rfl) rfl rfl (.r rfl)) rfl<|VO.l (LO.mv (.r rfl)) rfl<|VO.lg rfl rfl (GD.f _) (fun hg => LO.mv (.r rfl)) rfl<|VO.lg rfl rfl (GD.f _) (fun hg => LO.eqv (v' := .bool D2) (LO.gt (.g hg rfl) (.r rfl)) (by rw [hD2]; exact dlt rfl rfl)) rfl<|VO.lg rfl rfl (GD.f _) (fun hg => LO.mv (.g hg rfl)) rfl<|VO.lg rfl rfl (GD.nt _ _) (fun hg => LO.mv (.r rfl)) rfl<|VO.lg rfl rfl (GD.nt _ _) (fun hg => LO.ld O3v (.r rfl) (fun _ hw => (hCap _ _ _ (hA1.1 (nS hg)) (St.inv hw 0 _ rfl)).p)) rfl<|VO.lg rfl rfl (GD.nt _ _) (fun hg => LO.eqv (LO.sub (.g hg rfl) (.r rfl) (wi (by omega) (by omega))) (congrArg (Value.int .i64) (sub1_n (of_decide_eq_true (hD2 ▸ nT hg))))) rfl<|yg2 0 (r := r1) (vs := [_]) (post := fun b r' => if b = true then J ((0 + D1.toNat) + 1) r' else Jx ((0 + D1.toNat) + 1) r') rfl rfl (GD.nt _ _) rfl (fun hg => .g hg rfl) (fun hg => ⟨.g hg rfl, trivial⟩) rfl (fun hg w2 hi hr hs => hyl ((0 + D1.toNat)) _ (by rw [hD1, List.getElem?_map, Nat.zero_add, nb_2 (of_decide_eq_true (hD2 ▸ nT hg))]; rfl) r1 w2 (hA1.1 (nS hg)) hi hr hs) fun b2 r2 hp2 hq2 => have hA2 := stage (J := J) (Jx := Jx) (s := (D1 && !b1)) (d := D2) (len := ((nb (gW g) (gH g) p).map nC).length) hA1.1 hA1.2 (hk2) hp2 hq2; VO.lg rfl rfl (GD.nt _ _) (fun hg => LO.not (.g hg rfl)) rfl<|VO.lg rfl rfl (GD.f _) (fun hg => LO.pkA (.g hg rfl) rfl (and_e hg) (.r rfl)) rfl<|VO.l (LO.pkO (.r rfl) (.r rfl) rfl rfl) rfl<|VO.l (LO.mv (.r rfl)) rfl<|VO.lg rfl rfl (GD.f _) (fun hg => LO.mv (.r rfl)) rfl<|VO.lg rfl rfl (GD.f _) (fun hg => LO.add (.g hg rfl) (.r rfl) (wi (by omega) (by omega))) rfl<|VO.lg rfl rfl (GD.f _) (fun hg => LO.fa (r := 3) F88_3v (.r rfl) rfl) rfl<|VO.lg rfl rfl (GD.f _) (fun hg => LO.ld (v := .int .i64 g.wide) O3v (.g hg rfl) (fun _ hw => sub_cells (off := 3) (hCap _ _ _ (hA2.1 (nN hg)) (St.inv hw 0 _ rfl)).g ⟨_, rfl⟩)) rfl<|VO.lg rfl rfl (GD.f _) (fun hg => LO.eqv (v' := .bool D3) (LO.lt (.g hg rfl) (.g hg rfl)) (by rw [hD3]; exact dlt rfl hW.symm)) rfl<|VO.lg rfl rfl (GD.f _) (fun hg => LO.mv (.g hg rfl)) rfl<|VO.lg rfl rfl (GD.nt _ _) (fun hg => LO.mv (.r rfl)) rfl<|VO.lg rfl rfl (GD.nt _ _) (fun hg => LO.ld O3v (.r rfl) (fun _ hw => (hCap _ _ _ (hA2.1 (nS hg)) (St.inv hw 0 _ rfl)).p)) rfl<|VO.lg rfl rfl (GD.nt _ _) (fun hg => LO.add (.g hg rfl) (.r rfl) (wi (by omega) (by omega))) rfl<|yg2 0 (r := r2) (vs := [_]) (post := fun b r' => if b = true then J ((0 + D1.toNat + D2.toNat) + 1) r' else Jx ((0 + D1.toNat + D2.toNat) + 1) r') rfl rfl (GD.nt _ _) rfl (fun hg => .g hg rfl) (fun hg => ⟨.g hg rfl, trivial⟩) rfl (fun hg w2 hi hr hs => hyl ((0 + D1.toNat + D2.toNat)) _ (by rw [hD1, hD2, List.getElem?_map, Nat.zero_add, nb_3 (of_decide_eq_true (hD3 ▸ nT hg))]; rfl) r2 w2 (hA2.1 (nS hg)) hi hr hs) fun b3 r3 hp3 hq3 => have hA3 := stage (J := J) (Jx := Jx) (s := ((D1 && !b1) || (D2 && !b2))) (d := D3) (len := ((nb (gW g) (gH g) p).map nC).length) hA2.1 hA2.2 (hk3) hp3 hq3; VO.lg rfl rfl (GD.nt _ _) (fun hg => LO.not (.g hg rfl)) rfl<|VO.lg rfl rfl (GD.f _) (fun hg => LO.pkA (.g hg rfl) rfl (and_e hg) (.r rfl)) rfl<|VO.l (LO.pkO (.r rfl) (.r rfl) rfl rfl) rfl<|VO.nil ?_)
  refine VE.seqN ?_
  refine VC.cond rfl (fun h49 => ?_) (fun h49 => ?_)
  ·
    obtain ⟨n3, hn3, hx3⟩ := hA3.2 (by simpa using h49)
    have hE := seq_stop (J := J) (xs := ((nb (gW g) (gH g) p).map nC)) hn3 hx3
    refine VC.ret (VE.thenR (VE.res (vs := []) rfl trivial (fun w hw => ?_)))
    exact ⟨rfl, seq_endv hE hw⟩
  ·
    have hJ := hA3.1 (by simpa using h49)
    refine VC.skip (VE.seqN ?_)
    refine VC.seq ?_
    refine VC.reg (VO.l (LO.mv (.r rfl)) rfl<|VO.l (LO.add (.r rfl) (.r rfl) (wi (by omega) (by omega))) rfl<|VO.l (LO.fa (r := 4) F88_4v (.r rfl) rfl) rfl<|VO.l (LO.ld O3v (.r rfl) (fun _ hw => sub_cells (off := 4) (hCap _ _ _ hJ (St.inv hw 0 _ rfl)).g ⟨_, rfl⟩)) rfl<|VO.l (LO.eqv (v' := .bool D4) (LO.lt (.r rfl) (.r rfl)) (by rw [hD4]; exact dlt rfl hH.symm)) rfl<|VO.nil ?_)
    refine VE.seqN ?_
    refine VC.cond rfl (fun h54 => ?_) (fun h54 => ?_)
    ·
      refine VC.reg (VO.l (LO.mv (.r rfl)) rfl<|VO.l (LO.ld O3v (.r rfl) (fun _ hw => sub_cells (off := 0) (hCap _ _ _ hJ (St.inv hw 0 _ rfl)).p ⟨_, rfl⟩)) rfl<|VO.l (LO.fa (r := 3) F88_3v (.r rfl) rfl) rfl<|VO.l (LO.ld O3v (.r rfl) (fun _ hw => sub_cells (off := 3) (hCap _ _ _ hJ (St.inv hw 0 _ rfl)).g ⟨_, rfl⟩)) rfl<|VO.l (LO.add (.r rfl) (.r rfl) (wi (by omega) (by omega))) rfl<|VO.h rfl<|HO.yield 0 (r := r3) (vs := [_]) (post := fun b r' => if b = true then J (0 + D1.toNat + D2.toNat + D3.toNat + 1) r' else Jx (0 + D1.toNat + D2.toNat + D3.toNat + 1) r') (.r rfl) ⟨.r rfl, trivial⟩ rfl (fun w2 hi hr hs => hyl (0 + D1.toNat + D2.toNat + D3.toNat) _ (by rw [hD1, hD2, hD3, List.getElem?_map, Nat.zero_add, nb_4 (of_decide_eq_true (hD4 ▸ h54))]; show some [Value.int .i64 ((p + gW g : Nat) : Int)] = some [Value.int .i64 ((p : Int) + g.wide)]; rw [← hW]; rfl) r3 w2 hJ hi hr hs) fun b4 r4 hp4 => VO.nil ?_)
      have hE : J ((nb (gW g) (gH g) p).map nC).length r4 ∨ ∃ n, n ≤ ((nb (gW g) (gH g) p).map nC).length ∧ Jx n r4 := by
        have e4 : 0 + D1.toNat + D2.toNat + D3.toNat + 1 = ((nb (gW g) (gH g) p).map nC).length := by rw [hlen, show D4 = true from h54]; simp only [Bool.toNat_true]; omega
        rw [e4] at hp4
        cases b4 with
        | true => rw [if_pos rfl] at hp4; exact .inl hp4
        | false => rw [if_neg (by decide)] at hp4; exact .inr ⟨_, Nat.le_refl _, hp4⟩
      refine VE.resN (vs := []) rfl trivial (fun w hw => ?_)
      exact ⟨rfl, seq_endv hE hw⟩
    ·
      have hE := seq_full (J := J) (Jx := Jx) (xs := ((nb (gW g) (gH g) p).map nC)) (r := r3) (by rw [hlen, show D4 = false by simpa using h54]; simp only [Bool.toNat_false, Nat.add_zero]; rw [Nat.zero_add] at hJ; exact hJ)
      refine VC.skip (VE.resN (vs := []) rfl trivial (fun w hw => ?_))
      exact ⟨rfl, seq_endv hE hw⟩

end Go.Proofs.YtffbohecdocajaaGreat

namespace Go.Cell
set_option linter.unusedVariables false
section
variable (W H : Nat) (S : Nat → Bool)
/-- The number of a pixel's part while the pixels of 'l' are given the next number. -/
def ofV (p : Nat) (l : List Nat) (q : Nat) : Int := if q ∈ l then ((partsTo W H S p).length : Int) else idxL (partsTo W H S p) q
def ofA (p : Nat) (l : List Nat) : List Int := (List.range (W * H)).map (ofV W H S p l)
end
section
variable {W H : Nat} {S : Nat → Bool} {p q r : Nat} {l : List Nat}
theorem ofA_len : (ofA W H S p l).length = W * H := by unfold ofA; simp
theorem ofA_get (h : q < W * H) : (ofA W H S p l)[q]? = some (ofV W H S p l q) := by
  unfold ofA; rw [List.getElem?_map, List.getElem?_range h]; rfl
theorem ofA_zero : List.replicate (W * H) (-1 : Int) = ofA W H S 0 [] := by
  refine List.ext_getElem? fun q => ?_
  by_cases h : q < W * H
  · rw [ofA_get h, List.getElem?_replicate, if_pos h]; simp [ofV, partsTo, idxL]
  · rw [List.getElem?_eq_none (by simpa using h), List.getElem?_eq_none (by rw [ofA_len]; omega)]
theorem ofA_set (hr : r < W * H) : (ofA W H S p l).set r ((partsTo W H S p).length : Int) = ofA W H S p (l ++ [r]) := by
  refine List.ext_getElem? fun q => ?_
  by_cases h : q < W * H
  · rw [ofA_get h, List.getElem?_set]
    by_cases e : r = q
    · subst e
      rw [if_pos rfl, if_pos (by rw [ofA_len]; exact h)]
      unfold ofV; rw [if_pos (by simp)]
    · rw [if_neg e, ofA_get h]
      unfold ofV
      have : (q ∈ l ++ [r]) ↔ q ∈ l := by simp; intro z; exact absurd z.symm e
      by_cases z : q ∈ l
      · rw [if_pos z, if_pos (this.2 z)]
      · rw [if_neg z, if_neg (fun y => z (this.1 y))]
  · rw [List.getElem?_eq_none (by rw [List.length_set, ofA_len]; omega), List.getElem?_eq_none (by rw [ofA_len]; omega)]
/-- A pixel that begins no new part. -/
theorem of_old (hp : p < W * H) (h : 0 ≤ ofV W H S p [] p ∨ S p = false) : partsTo W H S (p + 1) = partsTo W H S p := by
  refine partsTo_old fun ⟨h1, h2⟩ => ?_
  rcases h with h | h
  · unfold ofV at h
    rw [if_neg (by simp), idx_neg h2] at h
    omega
  · rw [h] at h1; cases h1
theorem ofA_old (h : partsTo W H S (p + 1) = partsTo W H S p) : ofA W H S (p + 1) [] = ofA W H S p [] := by unfold ofA ofV; rw [h]
/-- One that begins a new part. -/
theorem of_new (h : ¬ 0 ≤ ofV W H S p [] p) : ∀ l, l ∈ partsTo W H S p → p ∉ l := by
  unfold ofV at h
  rw [if_neg (by simp)] at h
  exact idx_neg_iff.1 (by omega)
/-- What holds of the list of a part's pixels found so far, of which so many have been looked at. -/
structure WL (W H : Nat) (S : Nat → Bool) (p : Nat) (l : List Nat) (i : Nat) : Prop where
  nod : l.Nodup
  mem : ∀ q, q ∈ l → q < W * H ∧ Cn W H S p q
  self : p ∈ l
  cl : ∀ (j q r : Nat), j < i → l[j]? = some q → r ∈ nb W H q → S r = true → r ∈ l
  le : i ≤ l.length
theorem WL.one (hp : p < W * H) (hs : S p = true) : WL W H S p [p] 0 := ⟨by simp, fun q hq => by simp at hq; subst hq; exact ⟨hp, .refl hs⟩, by simp, fun j q r hj => absurd hj (Nat.not_lt_zero _), Nat.zero_le _⟩
theorem WL.len {i : Nat} (h : WL W H S p l i) : l.length ≤ W * H := by
  have := length_le_of_subset (m := List.range (W * H)) h.nod (fun x hx => List.mem_range.2 (h.mem x hx).1)
  simpa using this
theorem WL.full (h : WL W H S p l l.length) (hp : p < W * H) (hs : S p = true) : ∀ q, q ∈ l ↔ q ∈ compL W H S p := fun q => by
  rw [mem_compL hp hs]
  refine ⟨fun z => (h.mem q z).2, fun z => ?_⟩
  refine z.closed (X := fun x => x ∈ l) h.self fun a b ha hb hS => ?_
  obtain ⟨j, hj⟩ := List.mem_iff_getElem?.1 ha
  exact h.cl j a b (List.getElem?_eq_some_iff.1 hj).1 hj hb hS
theorem ofA_next (hp : p < W * H) (hs : S p = true) (hn : ∀ l, l ∈ partsTo W H S p → p ∉ l) (h : ∀ q, q ∈ l ↔ q ∈ compL W H S p) : ofA W H S p l = ofA W H S (p + 1) [] := by
  unfold ofA
  refine List.map_congr_left fun q hq => ?_
  have hq := List.mem_range.1 hq
  have e2 : ofV W H S (p + 1) [] q = if idxL (partsTo W H S p) q = -1 then (if q ∈ compL W H S p then ((partsTo W H S p).length : Int) else -1) else idxL (partsTo W H S p) q := by
    unfold ofV
    rw [if_neg (by simp), partsTo_new hs hn, idx_app]
  rw [e2]
  unfold ofV
  by_cases z : q ∈ l
  · rw [if_pos z]
    have z2 := (h q).1 z
    have hno : ∀ m, m ∈ partsTo W H S p → q ∉ m := fun m hm hqm => by
      have h1 := (mem_compL hp hs).1 z2
      obtain ⟨_,_, h2,_⟩ := parts_cn (Nat.le_of_lt hp) hm hqm
      exact hn m hm ((h2 p).2 (h1.symm hp))
    rw [if_pos (idx_neg hno), if_pos z2]
  · rw [if_neg z]
    by_cases y : idxL (partsTo W H S p) q = -1
    · rw [if_pos y, if_neg (fun z2 => z ((h q).2 z2)), y]
    · rw [if_neg y]
/-- The neighbors of one pixel are looked at, one by one. -/
structure WN (W H : Nat) (S : Nat → Bool) (p : Nat) (l : List Nat) (q k : Nat) (m : List Nat) : Prop where
  nod : m.Nodup
  mem : ∀ z, z ∈ m → z < W * H ∧ Cn W H S p z
  pre : ∃ t, m = l ++ t
  dn : ∀ (j r : Nat), j < k → (nb W H q)[j]? = some r → S r = true → r ∈ m
theorem WN.zero {i : Nat} (h : WL W H S p l i) : WN W H S p l q 0 l := ⟨h.nod, h.mem, ⟨[], by simp⟩, fun j r hj => absurd hj (Nat.not_lt_zero _)⟩
theorem WN.len {k : Nat} {m : List Nat} (h : WN W H S p l q k m) : m.length ≤ W * H := by
  have := length_le_of_subset (m := List.range (W * H)) h.nod (fun x hx => List.mem_range.2 (h.mem x hx).1)
  simpa using this
/-- A neighbor that is not taken. -/
theorem WN.skip {k : Nat} {m : List Nat} (h : WN W H S p l q k m) (hr : (nb W H q)[k]? = some r) (hx : S r = true → r ∈ m) : WN W H S p l q (k + 1) m := by
  refine ⟨h.nod, h.mem, h.pre, fun j z hj hz hs => ?_⟩
  rcases Nat.lt_or_ge j k with y | y
  · exact h.dn j z y hz hs
  · have : j = k := by omega
    subst this
    rw [hr] at hz; cases hz
    exact hx hs
/-- One that is taken. -/
theorem WN.take {k i : Nat} {m : List Nat} (h : WN W H S p l q k m) (h0 : WL W H S p l i) (hi : l[i]? = some q) (hr : (nb W H q)[k]? = some r) (hx : r ∉ m) (hs : S r = true) : WN W H S p l q (k + 1) (m ++ [r]) := by
  have hq := h0.mem q (List.mem_of_getElem? hi)
  have hrn := List.mem_of_getElem? hr
  obtain ⟨t, ht⟩ := h.pre
  refine ⟨List.nodup_append.2 ⟨h.nod, by simp, fun a ha b hb => by simp at hb; subst hb; intro e; subst e; exact hx ha⟩, fun z hz => ?_, ⟨t ++ [r], by rw [ht, List.append_assoc]⟩, fun j z hj hz hS => ?_⟩
  · rcases List.mem_append.1 hz with y | y
    · exact h.mem z y
    · simp at y; subst y; exact ⟨nb_lt hq.1 hrn, .step hq.2 hrn hs⟩
  · rcases Nat.lt_or_ge j k with y | y
    · exact List.mem_append_left _ (h.dn j z y hz hS)
    · have : j = k := by omega
      subst this
      rw [hr] at hz; cases hz
      simp
/-- Whether a neighbor has no number yet. -/
theorem of_neg {k i : Nat} {m : List Nat} (h : WN W H S p l q k m) (h0 : WL W H S p l i) (hp : p < W * H) (hi : l[i]? = some q) (hr : (nb W H q)[k]? = some r) (hn : ∀ l, l ∈ partsTo W H S p → p ∉ l) (hs : S r = true) : ofV W H S p m r < 0 ↔ r ∉ m := by
  have hq := h0.mem q (List.mem_of_getElem? hi)
  have hrn := List.mem_of_getElem? hr
  unfold ofV
  by_cases z : r ∈ m
  · rw [if_pos z]; exact ⟨fun y => by omega, fun y => absurd z y⟩
  · rw [if_neg z]
    refine ⟨fun _ => z, fun _ => ?_⟩
    refine idx_neg_iff.2 fun x hx hrx => ?_
    obtain ⟨_,_, h2,_⟩ := parts_cn (Nat.le_of_lt hp) hx hrx
    have hc : Cn W H S p r := .step hq.2 hrn hs
    exact hn x hx ((h2 p).2 (hc.symm hp))
theorem WN.done {k i : Nat} {m : List Nat} (h : WN W H S p l q k m) (h0 : WL W H S p l i) (hi : l[i]? = some q) (hk : (nb W H q).length ≤ k) : WL W H S p m (i + 1) := by
  obtain ⟨t, ht⟩ := h.pre
  have hil := (List.getElem?_eq_some_iff.1 hi).1
  refine ⟨h.nod, h.mem, by rw [ht]; exact List.mem_append_left _ h0.self, fun j z r hj hz hr hs => ?_, by rw [ht, List.length_append]; omega⟩
  rcases Nat.lt_or_ge j i with y | y
  · rw [ht, List.getElem?_append_left (by omega)] at hz
    rw [ht]; exact List.mem_append_left _ (h0.cl j z r y hz hr hs)
  · have : j = i := by omega
    subst this
    rw [ht, List.getElem?_append_left hil, hi] at hz; cases hz
    obtain ⟨n, hn⟩ := List.mem_iff_getElem?.1 hr
    exact h.dn n r (by have := (List.getElem?_eq_some_iff.1 hn).1; omega) hn hs
end
end Go.Cell

namespace Go.SL
set_option linter.unusedVariables false
open Go.RowKit
section
variable {P : Program} {β : Bs} {env : Env} {L : List Res}
variable {ty : TypeId} {pos : String} {aft : Array Edge}
set_option maxRecDepth 8000 in
theorem run_mks0 {T E z by_ n : Nat} {zero : Value} (hT : IsSlice P T E) (hE : EInfo P E z by_ zero) (hz1 : 0 < z) (hn : by_ * n ≤ 281474976710656) (hn2 : n ≤ 281474976710656) (w : World) : (Instr.makeSlice T (.int .i64 0) (.int .i64 (n : Int))).run P w = .ok (.slice (some ⟨w.heap.size, 0, none⟩) 0 n) (w.alloc (.cells (List.replicate n zero.cells.toList).flatten.toArray E)) := by
  obtain ⟨h1, h2, h3, h4, h5⟩ := hE
  have hw64 : IntKind.wrap .i64 (n : Int) = n := wi (by omega) (by omega)
  have hw0 : IntKind.wrap .i64 (0 : Int) = 0 := rfl
  obtain ⟨i, hi, hib⟩ := run_bytes h2 w
  have hcells := mk_cells h4 hz1 n
  have t1 : decide ((by_ : Int) * n > 2 ^ 48) = false := by
    have h1 : (by_ : Int) * n ≤ 281474976710656 := by omega
    have h3 : ¬ ((by_ : Int) * n > 281474976710656) := by omega
    rw [show ((2 : Int) ^ 48) = 281474976710656 from rfl, decide_eq_false h3]
  have t0 : decide ((by_ : Int) * 0 > 2 ^ 48) = false := by rw [Int.mul_zero]; rfl
  have c1 : decide ((n : Int) < 0) = false := by rw [decide_eq_false_iff_not]; omega
  have c0 : decide ((0 : Int) < 0) = false := rfl
  have c2 : decide ((0 : Int) > n) = false := by rw [decide_eq_false_iff_not]; omega
  unfold Instr.makeSlice
  rw [Sem.run_bind, run_underlying hT, Result.andThen_ok]
  have ha : (asInt (.int .i64 (n : Int))).run P w = .ok (n : Int) w := rfl
  have ha0 : (asInt (.int .i64 (0 : Int))).run P w = .ok (0 : Int) w := rfl
  dsimp only
  rw [Sem.run_bind, ha0, Result.andThen_ok, Sem.run_bind, ha, Result.andThen_ok, Sem.run_bind, hi, Result.andThen_ok]
  simp only [hib, hw64, hw0, t1, t0, c0, c1, c2, Bool.or_self, Bool.false_eq_true, if_false, Sem.run_bind, run_askRoom, Result.andThen_ok, run_size h1, Int.toNat_natCast, Int.toNat_zero]
  by_cases q : n * z = 0
  · have hn0 : n = 0 := by
      rcases Nat.mul_eq_zero.1 q with q | q
      · exact q
      · omega
    subst hn0
    simp [newRow, run_newObj]
    congr 2
    exact Array.ext' (by simp [Array.toList_range])
  · simp only [q, if_false, Sem.run_bind, run_zero h3, Result.andThen_ok, Sem.run_pure, hcells, newRow, run_newObj]
    rfl
/-- A slice that is made empty, with room. -/
theorem HO.mks0 {K : Value → List Res → Prop} {dd : Option Nat} {x y : Operand} {T E z by_ n : Nat} {zero : Value} {e : Int} (hT : IsSlice P T E) (hE : EInfo P E z by_ zero) (hx : OV env x (.int .i64 0)) (hy : OV env y (.int .i64 e)) (he : e = (n : Int)) (hz1 : 0 < z) (hn : by_ * n ≤ 281474976710656) (hn2 : n ≤ 281474976710656)
    (k : ∀ b, K (.slice (some ⟨b, 0, none⟩) 0 n) (own E z (some ⟨b, 0, none⟩) n [] :: L)) : HO P β env L ⟨dd, .makeSlice T x y, ty, pos, aft, none⟩ K := by
  intro a w h hw
  have ex : a.eval x = .int .i64 0 := by obtain ⟨u, hu, q⟩ := hx; subst q; exact h x (by simp [Op.operands]) _ hu
  have ey : a.eval y = .int .i64 e := by obtain ⟨u, hu, q⟩ := hy; subst q; exact h y (by simp [Op.operands]) _ hu
  subst he
  have hrun := run_mks0 hT hE hz1 hn hn2 w
  obtain ⟨h1, h2, h3, h4, h5⟩ := hE
  have hfl : ∀ n, (List.replicate n zero.cells.toList).flatten.length = n * z := fun n => by
    rw [flatten_len (z := z) (fun r hr => by rw [(List.mem_replicate.1 hr).2, Array.length_toList, h4])]; simp
  refine .inl ⟨_, w.alloc (.cells (List.replicate n zero.cells.toList).flatten.toArray E),_,_, ?_, .inl rfl, k w.heap.size, ?_⟩
  · simp only [execOp, ex, ey, Sem.run_bind, hrun, Result.andThen_ok, Sem.run_pure]
  · have s1 := hw.alloc (.cells (List.replicate n zero.cells.toList).flatten.toArray E)
    exact s1.conv 0 (r' := own E z (some ⟨w.heap.size, 0, none⟩) n []) rfl (fun k hk => hk.2) ⟨by simp, fun r hr => (by cases hr), fun q => (by cases q), fun a' ha' => by
      cases ha'
      exact ⟨rfl, rfl,_, (List.replicate n zero.cells.toList).flatten, heap_alloc_new w _, by simp, by rw [List.size_toArray, hfl]⟩⟩
end
end Go.SL

namespace Go.SL
set_option linter.unusedVariables false
set_option linter.unusedSimpArgs false
open Go.RowKit
section
variable {P : Program} {ro : Option Nat} {β : Bs} {N : Nat} {ds : List Deferred} {env : Env} {L : List Res} {Q : Exit → Act → World → Prop}
/-- A string is appended to a slice of bytes that is owned. -/
theorem run_appendS {w : World} (hw : St β L w) (i : Nat) {T T' ty E z by_ : Nat} {zero : Value} {p : Option Addr} {q : ByteArray} {cap : Nat} {rows rs : List (List Value)} (hT : IsSlice P T E) (hT' : P.underlying T' = some .string) (hE : EInfo P E z by_ zero)
    (hi : L[i]? = some (own E z p cap rows)) (hq : ∀ w, (Builtin.firstCells z rs.length (.string q)).run P w = .ok rs.flatten.toArray w) (hql : q.size = rs.length) (hr : ∀ r ∈ rs, r.length = z) (h1 : ∀ r ∈ rs, allOne r = true) (hn : (2 * (rows.length + rs.length) + 768) * by_ ≤ 281474976710656) {aT : Array TypeId} (ha0 : aT[0]? = some T) (ha1 : aT[1]? = some T') :
    ∃ p' cap' w', (Builtin.append_ aT ty #[.slice p rows.length cap, .string q]).run P w = .ok (.slice p' (rows.length + rs.length) cap') w' ∧ St β (L.set i (own E z p' cap' (rows ++ rs))) w' ∧ (rs ≠ [] → p' ≠ none) ∧ (p ≠ none → p' ≠ none) := by
  obtain ⟨hz, hby, hze, hzz, hb0⟩ := hE
  obtain ⟨o1, o2, o3, o4⟩ := hw.inv i _ hi
  obtain ⟨ti, hti, htb⟩ := run_bytes hby w
  have hnew : (Builtin.firstCells z rs.length (.string q)).run P w = .ok rs.flatten.toArray w := hq w
  have hhas : ∀ r' ∈ rows ++ rs, r'.length = z := by
    intro r' hr'
    rcases List.mem_append.1 hr' with q | q
    · exact o2 r' q
    · exact hr r' q
  have hu' : (underlying T').run P w = .ok .string w := run_underlying hT' w
  have hu : (underlying T).run P w = .ok (.slice E) w := run_underlying hT w
  have hone : ∀ u ∈ rs.flatten, u.oneCell' = true := by
    intro u hu
    obtain ⟨r, hr', hu'⟩ := List.mem_flatten.1 hu
    exact allOne_spec (h1 r hr') u hu'
  have hni : ¬ ((rows.length + rs.length : Nat) : Int) > IntKind.i64.max := by
    have : rows.length + rs.length ≤ 281474976710656 := by
      have : (2 * (rows.length + rs.length) + 768) * 1 ≤ (2 * (rows.length + rs.length) + 768) * by_ := Nat.mul_le_mul_left _ hb0
      omega
    have hm : IntKind.i64.max = 9223372036854775807 := rfl
    rw [hm]
    omega
  have hlt : i < L.length := by
    rcases Nat.lt_or_ge i L.length with h' | h'
    · exact h'
    · simp [List.getElem?_eq_none h'] at hi
  have hfl := flatten_len o2
  have hfl2 := flatten_len hr
  by_cases hc : rows.length + rs.length ≤ cap
  · -- there is room
    cases p with
    | none =>
      have h3 := o3 rfl
      have e1 : rows = [] := h3.1
      have e2 : rs = [] := by
        have : rs.length = 0 := by omega
        exact List.length_eq_zero_iff.1 this
      subst e1; subst e2
      have e3 : cap = 0 := h3.2
      subst e3
      refine ⟨none, 0, w, ?_, ?_, by simp, by simp⟩
      · have : (Builtin.firstCells z 0 (.string q)).run P w = .ok #[] w := by simpa using hnew
        simp [Builtin.append_, ha0, ha1, hu, hu', run_size hz, Builtin.lenOf, hql, this]
      · have e : L.set i (own E z none 0 ([] ++ [])) = L := by
          have e0 : own E z none 0 ([] ++ []) = own E z none 0 [] := rfl
          rw [e0]
          refine List.ext_getElem? fun k => ?_
          by_cases ek : k = i
          · subst ek; rw [List.getElem?_set_self hlt, hi]
          · rw [List.getElem?_set_ne (Ne.symm ek)]
        rw [e]; exact hw
    | some a =>
      obtain ⟨g1, g2, C, spare, g3, g4, g5⟩ := o4 a rfl
      have hadd : a.add (rows.length * z) = ⟨a.block, rows.length * z, none⟩ := add0 g1 g2 _
      have hfit : rows.length * z + rs.flatten.length ≤ C.size := by
        rw [g5, hfl2]
        have := Nat.mul_le_mul_right z hc
        rw [Nat.add_mul] at this; omega
      have hst := run_storeCells_at P a.block (rows.length * z) E rs.flatten 0 C w g3 (by simpa using hfit) hone
      simp only [Nat.add_zero] at hst
      refine ⟨some a, cap, w.setRow a.block (C.toList.take (rows.length * z) ++ rs.flatten ++ C.toList.drop (rows.length * z + rs.flatten.length)).toArray, ?_, ?_, by simp, by simp⟩
      · simp only [Builtin.append_, ha0, ha1, Sem.run_bind, List.getElem?_toArray, List.getElem?_cons_zero, List.getElem?_cons_succ, hu, hu', run_size hz, Builtin.lenOf, hql, Result.andThen_ok, Sem.run_pure, Bool.false_eq_true, if_false, Bool.not_false, if_true, hc, hnew, hadd, hst]
      · have hw1 := hw.conv i (r' := blk a.block (.cells C E)) hi (fun k hk => ⟨by simp, hk⟩) g3
        have hi1 : (L.set i (blk a.block (.cells C E)))[i]? = some (blk a.block (.cells C E)) := by simp [hlt]
        have hw2 := hw1.setRow (C' := (C.toList.take (rows.length * z) ++ rs.flatten ++ C.toList.drop (rows.length * z + rs.flatten.length)).toArray) hi1
        rw [List.set_set] at hw2
        have hi2 : (L.set i (blk a.block (.cells (C.toList.take (rows.length * z) ++ rs.flatten ++ C.toList.drop (rows.length * z + rs.flatten.length)).toArray E)))[i]? = some (blk a.block (.cells (C.toList.take (rows.length * z) ++ rs.flatten ++ C.toList.drop (rows.length * z + rs.flatten.length)).toArray E)) := by simp [hlt]
        have hfin : (own E z (some a) cap (rows ++ rs)).inv (w.setRow a.block (C.toList.take (rows.length * z) ++ rs.flatten ++ C.toList.drop (rows.length * z + rs.flatten.length)).toArray) := by
          refine ⟨by simp; omega, hhas, fun h => (by cases h), fun a' ha' => ?_⟩
          cases ha'
          refine ⟨g1, g2,_, C.toList.drop (rows.length * z + rs.flatten.length), hw2.inv i _ hi2, ?_, ?_⟩
          · have : C.toList.take (rows.length * z) = rows.flatten := by rw [g4, List.take_append_of_le_length (by omega), List.take_of_length_le (by omega)]
            simp [this]
          · have := hfit
            simp only [List.size_toArray, List.length_append, List.length_take, List.length_drop, Array.length_toList]
            rw [← g5]; omega
        have hw3 := hw2.conv (r' := own E z (some a) cap (rows ++ rs)) i hi2 (fun k hk => hk.2) hfin
        rwa [List.set_set] at hw3
  · -- a new array
    have hcap : ¬ rows.length + rs.length ≤ cap := hc
    have hncap : ¬ (Builtin.nextslicecap (rows.length + rs.length) cap * ti.bytes > 2 ^ 48) := by
      have h2 := nextcap_le (need := rows.length + rs.length) (cap := cap) (by omega)
      have h3 := Nat.mul_le_mul_right by_ h2
      rw [htb]; omega
    generalize hcc : Question.cut (.appendCap (rows.length + rs.length) cap E) (w.tape w.drawn (.appendCap (rows.length + rs.length) cap E)) = cap'
    have hge : rows.length + rs.length ≤ cap' := by rw [← hcc]; simp [Question.cut]
    have hrows : Go.SL.Rows w z p rows := own_rows hw i hi
    have hold : (Builtin.firstCells z rows.length (.slice p rows.length cap)).run P w.drew = .ok rows.flatten.toArray w.drew := first_rows (rows_drew hrows) o2
    have hnew' : (Builtin.firstCells z rs.length (.string q)).run P w.drew = .ok rs.flatten.toArray w.drew := hq w.drew
    have hti' : (typeInfo E).run P w.drew = .ok ti w.drew := by
      cases hq : P.info? E with
      | none => simp [typeInfo, hq] at hti
      | some i => simp [typeInfo, hq] at hti ⊢; exact hti
    refine ⟨some ⟨w.heap.size, 0, none⟩, cap', (World.alloc w.drew (.cells (rows.flatten.toArray ++ rs.flatten.toArray ++ Builtin.zeroCells zero.cells (cap' - (rows.length + rs.length))) E)), ?_, ?_, by simp, by simp⟩
    · have hb1 : ti.bytes ≠ 0 := by omega
      have hncap' : ¬ (281474976710656 < Builtin.nextslicecap (rows.length + rs.length) cap * ti.bytes) := by omega
      simp [Builtin.append_, ha0, ha1, hu, hu', run_size hz, Builtin.lenOf, hql, hcap, hti, hb1, hncap', Question.forced, hcc, hti', hold, hnew', run_zero hze, newRow]
      congr 2
      apply Array.ext'
      simp
    · have hw' := (hw.drew (w.drawn + 1) : St β L w.drew).alloc (.cells (rows.flatten.toArray ++ rs.flatten.toArray ++ Builtin.zeroCells zero.cells (cap' - (rows.length + rs.length))) E)
      have hm : St β (L.set i (blk w.heap.size (.cells (rows.flatten.toArray ++ rs.flatten.toArray ++ Builtin.zeroCells zero.cells (cap' - (rows.length + rs.length))) E))) (World.alloc w.drew (.cells (rows.flatten.toArray ++ rs.flatten.toArray ++ Builtin.zeroCells zero.cells (cap' - (rows.length + rs.length))) E)) := by
        refine hw'.map (fun k => if k = i then 0 else k + 1) ?_ ?_
        · intro a b hab _ _
          by_cases e1 : a = i <;> by_cases e2 : b = i <;> simp [e1, e2] <;> omega
        · intro k s hs
          right
          by_cases e : k = i
          · subst e; simp [hlt] at hs; simp [hs]
          · rw [List.getElem?_set_ne (Ne.symm e)] at hs
            simp [e, hs]
      have hi2 : (L.set i (blk w.heap.size (.cells (rows.flatten.toArray ++ rs.flatten.toArray ++ Builtin.zeroCells zero.cells (cap' - (rows.length + rs.length))) E)))[i]? = some (blk w.heap.size (.cells (rows.flatten.toArray ++ rs.flatten.toArray ++ Builtin.zeroCells zero.cells (cap' - (rows.length + rs.length))) E)) := by simp [hlt]
      have hfin : (own E z (some ⟨w.heap.size, 0, none⟩) cap' (rows ++ rs)).inv (World.alloc w.drew (.cells (rows.flatten.toArray ++ rs.flatten.toArray ++ Builtin.zeroCells zero.cells (cap' - (rows.length + rs.length))) E)) := by
        refine ⟨by simp; omega, hhas, fun h => (by cases h), fun a' ha' => ?_⟩
        cases ha'
        refine ⟨rfl, rfl,_, (Builtin.zeroCells zero.cells (cap' - (rows.length + rs.length))).toList, hm.inv i _ hi2, by simp, ?_⟩
        simp only [Array.size_append, List.size_toArray, hfl, hfl2, zeroCells_size, hzz]
        rw [← Nat.add_mul, ← Nat.add_mul]
        congr 1; omega
      have := hm.conv (r' := own E z (some ⟨w.heap.size, 0, none⟩) cap' (rows ++ rs)) i hi2 (fun k hk => hk.2) hfin
      rwa [List.set_set] at this



def byC (b : Int) : List Value := [.int .u8 b]
/-- The bytes of a string. -/
def bysS (s : ByteArray) : List Int := s.data.toList.map fun b => (b.toNat : Int)
theorem bysS_len (s : ByteArray) : (bysS s).length = s.size := by unfold bysS; rw [List.length_map, Array.length_toList]; rfl
theorem first_str (s : ByteArray) (w : World) : (Builtin.firstCells 1 ((bysS s).map byC).length (.string s)).run P w = .ok ((bysS s).map byC).flatten.toArray w := by
  rw [List.length_map, bysS_len]
  have e : s.extract 0 s.size = s := by
    apply ByteArray.ext
    simp [ByteArray.data_extract]
  have e2 : ((bysS s).map byC).flatten = s.data.toList.map fun b => Value.int .u8 b.toNat := by
    unfold bysS
    rw [List.map_map]
    induction s.data.toList with
    | nil => rfl
    | cons b l ih => rw [List.map_cons, List.flatten_cons, ih]; rfl
  simp only [Builtin.firstCells, e, e2, Sem.run_pure]
  congr 1
  apply Array.ext'
  simp
variable {ty : TypeId} {pos : String} {aft : Array Edge} {dd : Option Nat}
/-- append(x, s...), x owned, s a string. -/
theorem HO.appS {l : List Int} (i : Nat) (LF : Res → List Res) {K : Value → List Res → Prop} {x y : Operand} {T T' E by_ : Nat} {aT : Array TypeId} {zero : Value} {p : Option Addr} {q : ByteArray} {n cap : Nat} (hT : IsSlice P T E) (hT' : P.underlying T' = some .string) (hE : EInfo P E 1 by_ zero) (hx : OV env x (.slice p n cap)) (hy : OV env y (.string q))
    (hi : L[i]? = some (own E 1 p cap (l.map byC))) (ha0 : aT[0]? = some T) (ha1 : aT[1]? = some T') (hL : ∀ R : Res, L.set i R = LF R) (hn : n = l.length) (hs : (2 * (n + q.size) + 768) * by_ ≤ 281474976710656)
    (k : ∀ p' cap', K (.slice p' (n + q.size) cap') (LF (own E 1 p' cap' ((l ++ bysS q).map byC)))) : HO P β env L ⟨dd, .call ⟨.builtin .append, #[x, y], aT⟩, ty, pos, aft, none⟩ K := by
  intro a w h hw
  subst hn
  have hq : q.size = ((bysS q).map byC).length := by rw [List.length_map, bysS_len]
  obtain ⟨p', cap', w', h2, h3, h4, h5⟩ := run_appendS (ty := ty) hw i hT hT' hE hi (q := q) (rs := (bysS q).map byC) (fun w => first_str q w) hq (by intro r hr; obtain ⟨b,_, rfl⟩ := List.mem_map.1 hr; rfl) (by intro r hr; obtain ⟨b,_, rfl⟩ := List.mem_map.1 hr; rfl) (by rw [List.length_map, ← hq]; exact hs) ha0 ha1
  rw [← hq] at h2
  refine .inl ⟨_, w',_,_, ?_, .inl rfl, k p' cap', ?_⟩
  · have ex : a.eval x = .slice p l.length cap := by obtain ⟨u, hu, e⟩ := hx; subst e; exact h x (by simp [Op.operands, Call.operands]) _ hu
    have ey : a.eval y = .string q := by obtain ⟨u, hu, e⟩ := hy; subst e; exact h y (by simp [Op.operands, Call.operands]) _ hu
    simp only [List.length_map] at h2
    simp [execOp, resolve, invoke, builtin, ex, ey, h2]
  · rw [List.map_append, ← hL]; exact h3
/-- The string of some bytes. -/
def strB (l : List Int) : ByteArray := l.foldl (fun s n => s.push (UInt8.ofNat n.toNat)) ByteArray.empty
theorem for_b2s {f : Value → ByteArray → Sem (ForInStep ByteArray)} (hf : ∀ n s, f (.int .u8 n) s = pure (ForInStep.yield (s.push (UInt8.ofNat n.toNat)))) : ∀ (l : List Int) (s : ByteArray) (w : World), (forIn (m := Sem) (l.map fun b => Value.int .u8 b) s f).run P w = .ok (l.foldl (fun s n => s.push (UInt8.ofNat n.toNat)) s) w
  | [], s, w => rfl
  | b :: l, s, w => by
    rw [List.map_cons, List.forIn_cons, hf]
    simp only [Sem.run_bind, Sem.run_pure, Result.andThen_ok, List.foldl_cons]
    exact for_b2s hf l _ w
theorem run_b2s {w : World} {p : Option Addr} {l : List Int} {c : Nat} (h : RO 1 byC w p l) : (Conv.bytesToString (.slice p l.length c)).run P w = .ok (.string (strB l)) w := by
  have e2 : ∀ l : List Int, (l.map byC).flatten = l.map fun b => Value.int .u8 b := fun l => by
    induction l with
    | nil => rfl
    | cons b l ih => rw [List.map_cons, List.flatten_cons, ih]; rfl
  have hf : (Builtin.firstCells 1 (l.map byC).length (.slice p (l.map byC).length c)).run P w = .ok (l.map byC).flatten.toArray w := first_rows h (fun r hr => by obtain ⟨b,_, rfl⟩ := List.mem_map.1 hr; rfl)
  rw [e2, List.length_map] at hf
  cases p with
  | none =>
    have h0 : l = [] := by simpa using h.nil rfl
    subst h0
    rfl
  | some a =>
    simp only [Builtin.firstCells, Nat.mul_one] at hf
    simp only [Conv.bytesToString, Sem.run_bind, hf, Result.andThen_ok]
    rw [← Array.forIn_toList]
    rw [for_b2s (fun n s => rfl)]
    rfl
/-- string(x), x a slice of bytes. -/
theorem LO.b2s {d : Option Nat} {g : Option (Nat × Bool)} {sT dT E : Nat} {x : Operand} {p : Option Addr} {l : List Int} {c n : Nat} (hs : IsSlice P sT E) (hE : P.underlying E = some (.int .u8)) (hd : P.underlying dT = some .string) (hx : OV env x (.slice p n c)) (hn : n = l.length) (hr : ∀ w, St β L w → RO 1 byC w p l) : LO P β env L ⟨d, .convert sT dT x, ty, pos, aft, g⟩ (.string (strB l)) :=
  .of_run fun a w h hw => ⟨w, by
    subst hn
    have hb := run_b2s (P := P) (c := c) (hr w hw)
    simp only [execOp, h x (by simp [Op.operands]) _ hx, convert, Sem.run_bind, run_underlying hs, run_underlying hd, Result.andThen_ok, run_underlying hE, hb, Sem.run_pure], hw⟩
/-- Some elements are appended to a slice that has no room. -/
theorem run_appendF {w : World} (hw : St β L w) {T T' ty E z by_ : Nat} {zero : Value} {p q : Option Addr} {c2 : Nat} {rows rs : List (List Value)} (hT : IsSlice P T E) (hT' : IsSlice P T' E) (hE : EInfo P E z by_ zero)
    (hp : Go.SL.Rows w z p rows) (o2 : ∀ r ∈ rows, r.length = z) (hq : Go.SL.Rows w z q rs) (hr : ∀ r ∈ rs, r.length = z) (h0 : 0 < rs.length) (hn : (2 * (rows.length + rs.length) + 768) * by_ ≤ 281474976710656) {aT : Array TypeId} (ha0 : aT[0]? = some T) (ha1 : aT[1]? = some T') :
    ∃ cap' w', (Builtin.append_ aT ty #[.slice p rows.length rows.length, .slice q rs.length c2]).run P w = .ok (.slice (some ⟨w.heap.size, 0, none⟩) (rows.length + rs.length) cap') w' ∧ St β (own E z (some ⟨w.heap.size, 0, none⟩) cap' (rows ++ rs) :: L) w' := by
  obtain ⟨hz, hby, hze, hzz, hb0⟩ := hE
  obtain ⟨ti, hti, htb⟩ := run_bytes hby w
  have hhas : ∀ r' ∈ rows ++ rs, r'.length = z := by
    intro r' hr'
    rcases List.mem_append.1 hr' with q | q
    · exact o2 r' q
    · exact hr r' q
  have hu' : (underlying T').run P w = .ok (.slice E) w := run_underlying hT' w
  have hu : (underlying T).run P w = .ok (.slice E) w := run_underlying hT w
  have hni : ¬ ((rows.length + rs.length : Nat) : Int) > IntKind.i64.max := by
    have : rows.length + rs.length ≤ 281474976710656 := by
      have : (2 * (rows.length + rs.length) + 768) * 1 ≤ (2 * (rows.length + rs.length) + 768) * by_ := Nat.mul_le_mul_left _ hb0
      omega
    have hm : IntKind.i64.max = 9223372036854775807 := rfl
    rw [hm]
    omega
  have hfl := flatten_len o2
  have hfl2 := flatten_len hr
  have hcap : ¬ rows.length + rs.length ≤ rows.length := by omega
  have hncap : ¬ (Builtin.nextslicecap (rows.length + rs.length) rows.length * ti.bytes > 2 ^ 48) := by
    have h2 := nextcap_le (need := rows.length + rs.length) (cap := rows.length) (by omega)
    have h3 := Nat.mul_le_mul_right by_ h2
    rw [htb]; omega
  generalize hcc : Question.cut (.appendCap (rows.length + rs.length) rows.length E) (w.tape w.drawn (.appendCap (rows.length + rs.length) rows.length E)) = cap'
  have hge : rows.length + rs.length ≤ cap' := by rw [← hcc]; simp [Question.cut]
  have hold : (Builtin.firstCells z rows.length (.slice p rows.length rows.length)).run P w.drew = .ok rows.flatten.toArray w.drew := first_rows (rows_drew hp) o2
  have hnew' : (Builtin.firstCells z rs.length (.slice q rs.length c2)).run P w.drew = .ok rs.flatten.toArray w.drew := first_rows (rows_drew hq) hr
  have hti' : (typeInfo E).run P w.drew = .ok ti w.drew := by
    cases hq : P.info? E with
    | none => simp [typeInfo, hq] at hti
    | some i => simp [typeInfo, hq] at hti ⊢; exact hti
  refine ⟨cap', (World.alloc w.drew (.cells (rows.flatten.toArray ++ rs.flatten.toArray ++ Builtin.zeroCells zero.cells (cap' - (rows.length + rs.length))) E)), ?_, ?_⟩
  · have hb1 : ti.bytes ≠ 0 := by omega
    have hncap' : ¬ (281474976710656 < Builtin.nextslicecap (rows.length + rs.length) rows.length * ti.bytes) := by omega
    have h0' : ¬ rs.length = 0 := by omega
    have h0'' : ¬ rs = [] := fun e => by rw [e] at h0; exact absurd h0 (Nat.lt_irrefl _)
    simp [Builtin.append_, ha0, ha1, hu, hu', run_size hz, Builtin.lenOf, hcap, h0', h0'', hti, hb1, hncap', Question.forced, hcc, hti', hold, hnew', run_zero hze, newRow]
    congr 2
    apply Array.ext'
    simp
  · have hw' := (hw.drew (w.drawn + 1) : St β L w.drew).alloc (.cells (rows.flatten.toArray ++ rs.flatten.toArray ++ Builtin.zeroCells zero.cells (cap' - (rows.length + rs.length))) E)
    have hfin : (own E z (some ⟨w.heap.size, 0, none⟩) cap' (rows ++ rs)).inv (World.alloc w.drew (.cells (rows.flatten.toArray ++ rs.flatten.toArray ++ Builtin.zeroCells zero.cells (cap' - (rows.length + rs.length))) E)) := by
      refine ⟨by simp; omega, hhas, fun h => (by cases h), fun a' ha' => ?_⟩
      cases ha'
      refine ⟨rfl, rfl,_, (Builtin.zeroCells zero.cells (cap' - (rows.length + rs.length))).toList, hw'.inv 0 _ rfl, by simp, ?_⟩
      simp only [Array.size_append, List.size_toArray, hfl, hfl2, zeroCells_size, hzz]
      rw [← Nat.add_mul, ← Nat.add_mul]
      congr 1; omega
    have := hw'.conv (r' := own E z (some ⟨w.heap.size, 0, none⟩) cap' (rows ++ rs)) 0 rfl (fun k hk => hk.2) hfin
    simpa using this
/-- append(x, y...), x without room. -/
theorem HO.appF {α : Type} {f : α → List Value} {l m : List α} {K : Value → List Res → Prop} {x y : Operand} {T T' E z by_ : Nat} {aT : Array TypeId} {zero : Value} {p q : Option Addr} {n n2 c2 : Nat} (hT : IsSlice P T E) (hT' : IsSlice P T' E) (hE : EInfo P E z by_ zero) (hx : OV env x (.slice p n n)) (hy : OV env y (.slice q n2 c2))
    (hp : ∀ w, St β L w → Go.SL.Rows w z p (l.map f)) (hq : ∀ w, St β L w → Go.SL.Rows w z q (m.map f)) (hz : ∀ a, (f a).length = z) (ha0 : aT[0]? = some T) (ha1 : aT[1]? = some T') (hn : n = l.length) (hn2 : n2 = m.length) (h0 : 0 < m.length) (hs : (2 * (n + n2) + 768) * by_ ≤ 281474976710656)
    (k : ∀ b cap', K (.slice (some ⟨b, 0, none⟩) (n + n2) cap') (own E z (some ⟨b, 0, none⟩) cap' ((l ++ m).map f) :: L)) : HO P β env L ⟨dd, .call ⟨.builtin .append, #[x, y], aT⟩, ty, pos, aft, none⟩ K := by
  intro a w h hw
  subst hn; subst hn2
  obtain ⟨cap', w', h2, h3⟩ := run_appendF (ty := ty) (c2 := c2) hw hT hT' hE (hp w hw) (by intro r hr; obtain ⟨b,_, rfl⟩ := List.mem_map.1 hr; exact hz b) (hq w hw) (by intro r hr; obtain ⟨b,_, rfl⟩ := List.mem_map.1 hr; exact hz b) (by rw [List.length_map]; exact h0) (by simpa using hs) ha0 ha1
  refine .inl ⟨_, w',_,_, ?_, .inl rfl, k w.heap.size cap', ?_⟩
  · have ex : a.eval x = .slice p l.length l.length := by obtain ⟨u, hu, e⟩ := hx; subst e; exact h x (by simp [Op.operands, Call.operands]) _ hu
    have ey : a.eval y = .slice q m.length c2 := by obtain ⟨u, hu, e⟩ := hy; subst e; exact h y (by simp [Op.operands, Call.operands]) _ hu
    simp only [List.length_map] at h2
    simp [execOp, resolve, invoke, builtin, ex, ey, h2]
  · rw [List.map_append]; exact h3
theorem freeze_end {w : World} {b E : Nat} {C : Array Value} (hb : w.heap[b]? = some (.cells C E)) : w.freeze ⟨b, C.size, none⟩ 1 = w.putObj b (.cells C E (C.size, C.size + 1)) := by
  have hlt : b < w.heap.size := (Array.getElem?_eq_some_iff.1 hb).1
  have hbe : w.heap[b] = .cells C E := (Array.getElem?_eq_some_iff.1 hb).2
  unfold World.freeze World.putObj
  rw [if_neg (by decide)]
  congr 1
  refine Array.ext_getElem? fun k => ?_
  rw [Array.getElem?_modify, Array.getElem?_setIfInBounds]
  by_cases q : b = k
  · subst q
    rw [if_pos rfl, if_pos rfl, if_pos hlt, hb]; rfl
  · rw [if_neg q, if_neg q]
/-- []byte(x), x a slice of a block of its own: the block's end is marked. -/
theorem HO.cvB {K : Value → List Res → Prop} (i : Nat) (LF : Res → List Res) {T E b n c : Nat} {C : Array Value} {x : Operand} (hT : IsSlice P T E) (hE : P.underlying E = some (.int .u8)) (hx : OV env x (.slice (some ⟨b, 0, none⟩) n c)) (hi : L[i]? = some (blk b (.cells C E))) (hL : ∀ R : Res, L.set i R = LF R)
    (k : K (.slice (some ⟨b, 0, none⟩) n c) (LF (blk b (.cells C E (C.size, C.size + 1))))) : HO P β env L ⟨dd, .convert T T x, ty, pos, aft, none⟩ K := by
  intro a w h hw
  have hb : w.heap[b]? = some (.cells C E) := hw.inv i _ hi
  have ex : a.eval x = .slice (some ⟨b, 0, none⟩) n c := by obtain ⟨u, hu, e⟩ := hx; subst e; exact h x (by simp [Op.operands]) _ hu
  refine .inl ⟨_, w.putObj b (.cells C E (C.size, C.size + 1)),_,_, ?_, .inl rfl, k, by rw [← hL]; exact hw.obj i hi⟩
  have hsh : w.shape? b = some (E, C.size) := by simp [World.shape?, hb]
  have hm : (markStringish ⟨b, 0, none⟩).run P w = .ok () (w.putObj b (.cells C E (C.size, C.size + 1))) := by
    unfold markStringish
    simp only [shape, Sem.run_bind, Sem.run, hsh, Result.andThen_ok]
    simp only [freeze, Sem.run, freeze_end hb]
  simp only [execOp, ex, convert, Sem.run_bind, run_underlying hT, Result.andThen_ok, run_underlying hE, beq_self_eq_true, hm, Sem.run_pure]
end
end Go.SL
