/-
  THE STAGE'S THEOREM.
-/
import Derived.Test.YtdcjeoamhjplmaaWL
namespace Go.Proofs.Ytdcjeoamhjplmaa
open Go.SL Go.Proofs Go.Cast
set_option linter.unusedVariables false

theorem F75_0 : FieldAt Try.prog 75 0 0 := ⟨_, _, Try.underlying75, rfl, rfl, 0, by kernel_rfl⟩
theorem O73 : IsOne Try.prog 73 := ⟨⟨_, Try.underlying73, rfl⟩, by kernel_rfl⟩
theorem S73 : IsSlice Try.prog 73 4 := Try.underlying73
theorem F75_1 : FieldAt Try.prog 75 1 1 := ⟨_, _, Try.underlying75, rfl, rfl, 0, by kernel_rfl⟩
theorem F75_2 : FieldAt Try.prog 75 2 2 := ⟨_, _, Try.underlying75, rfl, rfl, 0, by kernel_rfl⟩
theorem F75_3 : FieldAt Try.prog 75 3 3 := ⟨_, _, Try.underlying75, rfl, rfl, 0, by kernel_rfl⟩
theorem B70 : Builds Try.prog 70 [(0, 5), (5, 1)] [.int .i64 0, .int .i64 0, .int .i64 0, .int .i64 0, .int .i64 0, .slice none 0 0] := Builds.mk fun _ => by kernel_rfl
theorem Z70 : ZeroOf Try.prog 70 (.agg #[.int .i64 0, .int .i64 0, .int .i64 0, .int .i64 0, .int .i64 0, .slice none 0 0]) := by unfold ZeroOf; kernel_rfl
theorem N70 : (Try.prog.info? 70).map (·.size) = some 6 := by kernel_rfl
theorem C28 : IsFn Try.prog 28 := ⟨_, Try.func28, by decide, rfl⟩
theorem C29 : IsFn Try.prog 29 := ⟨_, Try.func29, by decide, rfl⟩
theorem F75_4 : FieldAt Try.prog 75 4 4 := ⟨_, _, Try.underlying75, rfl, rfl, 0, by kernel_rfl⟩
theorem I30 : EInfo Try.prog 30 2 16 (.agg #[.int .i64 0, .int .i64 0]) := ⟨by kernel_rfl, by kernel_rfl, by unfold ZeroOf; kernel_rfl, rfl, by decide⟩
theorem N68 : (Try.prog.info? 68).map (·.size) = some 1 := by kernel_rfl


def Bools (w : World) (p : Option Addr) (l : List Bool) : Prop := Go.SL.Rows w 1 p (l.map fun b => [.bool b])
theorem Bools.some {w : World} {p : Option Addr} {l : List Bool} (h : Bools w p l) : SlSome p l.length := Go.SL.Rows.some h (by simp)
theorem Bools.at {w0 : World} {p : Option Addr} {l : List Bool} (h : Bools w0 p l) {L : List Res} {j : Nat} (hj : j < l.length) : ∀ w, St (bs w0) L w → Cells w ⟨pb p, po p + j * 1, none⟩ [.bool (l.getD j false)] :=
  fun w hw => (Go.SL.Rows.keep h w hw).cells j _ (by simp [List.getElem?_eq_getElem hj, List.getD])
theorem vt_bd {v t : Int} (h1 : -100000 ≤ v) (h2 : v ≤ 100000) (h3 : 0 ≤ t) (h4 : t ≤ 120) : -12000000 ≤ v * t ∧ v * t ≤ 12000000 := by
  have a : v * t ≤ 100000 * t := Int.mul_le_mul_of_nonneg_right h2 h3
  have b : -100000 * t ≤ v * t := Int.mul_le_mul_of_nonneg_right h1 h3
  omega
theorem gt_bd {v t : Int} (h1 : 0 ≤ v) (h2 : v ≤ 10000) (h3 : 0 ≤ t) (h4 : t ≤ 120) : 0 ≤ v * t ∧ v * t ≤ 1200000 := by
  have a : v * t ≤ 10000 * t := Int.mul_le_mul_of_nonneg_right h2 h3
  have := Int.mul_nonneg h1 h3
  omega
/-- What is chosen of a cloud: some of its pixels, and all that are sure. -/
def TL (c : Cloud) (l : List Int) (i : Nat) : Prop := (∀ n, n ∈ l → n ∈ c.may) ∧ (∀ n, n ∈ c.may.take i → n ∈ c.sure → n ∈ l) ∧ l.length ≤ i
section
variable {g : Grid} {c : Cloud} {l : List Int} {i : Nat} {mi : Int}
theorem tl_0 : TL c [] 0 := ⟨by simp, by simp, Nat.le_refl _⟩
theorem tl_add (h : c.may[i]? = some mi) (k : TL c l i) : TL c (l ++ [mi]) (i + 1) := by
  refine ⟨fun n hn => ?_, fun n hn hs => ?_, by have := k.2.2; simp; omega⟩
  · rcases List.mem_append.1 hn with q | q
    · exact k.1 n q
    · rw [List.mem_singleton.1 q]; exact List.mem_of_getElem? h
  · rw [take_at h] at hn
    rcases List.mem_append.1 hn with q | q
    · exact List.mem_append.2 (.inl (k.2.1 n q hs))
    · exact List.mem_append.2 (.inr q)
theorem tl_skip {P : Prop} (h : c.may[i]? = some mi) (k : TL c l i) (q : ¬ (memB c.sure mi = true ∨ P)) : TL c l (i + 1) := by
  refine ⟨k.1, fun n hn hs => ?_, by have := k.2.2; omega⟩
  rw [take_at h] at hn
  rcases List.mem_append.1 hn with r | r
  · exact k.2.1 n r hs
  · rw [List.mem_singleton.1 r] at hs
    exact absurd (.inl (by unfold memB; exact decide_eq_true hs)) q
theorem tl_bd (hc : cloudE g c = 0) (k : TL c l i) : ∀ n, n ∈ l → 0 ≤ n ∧ n < g.wide * g.high := fun n hn => by
  have := (sure_may hc).2 n (k.1 n hn); omega
theorem tl_all (hc : cloudE g c = 0) (k : TL c l i) (hi : c.may.length ≤ i) : ∀ n, n ∈ c.sure → n ∈ l := fun n hn => by
  refine k.2.1 n ?_ hn
  rw [List.take_of_length_le hi]; exact (sure_may hc).1 n hn
end
section
variable {g : Grid} {c : Cloud} {l : List Int} {p t vx vy e e' x y u v : Int}
theorem come_in {px lo hi grow : Int} (h1 : lo ≤ v) (h2 : v ≤ hi) (ht : 0 ≤ t) (he : e ≤ grow * t) (h3 : u * 1000000 < px * 1000000 - v * t + 1000000 + e) (h4 : px * 1000000 - v * t - e < (u + 1) * 1000000) : comeLo lo grow t ≤ px - u ∧ px - u ≤ comeHi hi grow t := by
  have m1 : lo * t ≤ v * t := Int.mul_le_mul_of_nonneg_right h1 ht
  have m2 : v * t ≤ hi * t := Int.mul_le_mul_of_nonneg_right h2 ht
  refine lead_iff.1 ?_
  unfold leadB
  simp only [Bool.and_eq_true, decide_eq_true_eq, Int.sub_mul, Int.add_mul]
  generalize lo * t = a1 at *
  generalize hi * t = a2 at *
  generalize grow * t = a3 at *
  generalize v * t = a4 at *
  omega
/-- The place where a pixel was. -/
def wasX (g : Grid) (p t vx : Int) : Int := p.tmod g.wide * 1000000 - vx * t
def wasY (g : Grid) (p t vy : Int) : Int := p.tdiv g.wide * 1000000 - vy * t
theorem tru_met (hc : cloudE g c = 0) (hg : gridOk g) (ht : 0 ≤ t) (hx : c.flow.a ≤ vx ∧ vx ≤ c.flow.b) (hy : c.flow.c ≤ vy ∧ vy ≤ c.flow.d) (he : e ≤ c.grow * t) (hl : ∀ n, n ∈ l → n ∈ c.may) (h : metB g l (wasX g p t vx) (wasY g p t vy) e = true) : stateOf g c p t ≠ 0 := by
  have o := cloudE_ok hc
  have n1 := cloudE_neg hc
  unfold metB at h
  rw [List.any_eq_true] at h
  obtain ⟨n, hn, h⟩ := h
  obtain ⟨⟨⟨r1, r2⟩, r3⟩, r4⟩ := of_decide_eq_true h
  unfold wasX wasY at *
  have hb := (sure_may hc).2 n (hl n hn)
  have hp := tmod_bd (g := g) (p := n) hg hb.1 (by omega)
  have e2 := Int.mul_tdiv_add_tmod n g.wide
  have s := (state_some (g := g) (c := c) (p := p) o.1 o.2.1 o.2.2 ht n1.2).2 ⟨p.tdiv g.wide - n.tdiv g.wide, p.tmod g.wide - n.tmod g.wide, come_in hy.1 hy.2 ht he r3 r4, come_in hx.1 hx.2 ht he r1 r2, by
    rw [show p.tmod g.wide - (p.tmod g.wide - n.tmod g.wide) = n.tmod g.wide by omega, show p.tdiv g.wide - (p.tdiv g.wide - n.tdiv g.wide) = n.tdiv g.wide by omega]
    exact ⟨by omega, by omega, by rw [Int.mul_comm, e2]; exact hl n hn⟩⟩
  unfold stateOf
  by_cases q : (srcs g c p t).all (memB c.sure) = true
  · rw [if_pos q]; decide
  · rw [if_neg q, if_pos s]; decide
theorem tru_whole (hc : cloudE g c = 0) (ht : 0 ≤ t) (hx : c.flow.a ≤ vx ∧ vx ≤ c.flow.b) (hy : c.flow.c ≤ vy ∧ vy ≤ c.flow.d) (he : e ≤ c.grow * t) (hl : ∀ n, n ∈ c.sure → n ∈ l) (h : stateOf g c p t = 2) : wholeB g l (wasX g p t vx) (wasY g p t vy) e = true := by
  have o := cloudE_ok hc
  have n1 := cloudE_neg hc
  unfold wholeB
  refine (@decide_eq_true_eq _ (Classical.propDecidable _)).mpr ?_
  rintro v u hv hu ⟨⟨⟨r1, r2⟩, r3⟩, r4⟩
  unfold wasX wasY at *
  have s := (state_all (g := g) (c := c) (p := p) o.1 o.2.1 o.2.2 ht n1.1).1 h (p.tdiv g.wide - v) (p.tmod g.wide - u) (come_in hy.1 hy.2 ht he r3 r4) (come_in hx.1 hx.2 ht he r1 r2)
  rw [show p.tmod g.wide - (p.tmod g.wide - u) = u by omega, show p.tdiv g.wide - (p.tdiv g.wide - v) = v by omega] at s
  exact ⟨s.1, s.2.1, hl _ s.2.2⟩
theorem whole_met (hg : gridOk g) (hx : -20000000 ≤ x ∧ x ≤ 20000000) (hy : -20000000 ≤ y ∧ y ≤ 20000000) (he : 0 ≤ e) (he' : 0 ≤ e') (h : wholeB g l x y e = true) : metB g l x y e' = true := by
  unfold wholeB at h
  have h := (@decide_eq_true_eq _ (Classical.propDecidable _)).mp h
  have hgw : 1 ≤ g.wide := by unfold gridOk at hg; omega
  obtain ⟨u, hu1, hu2⟩ : ∃ u : Int, u * 1000000 ≤ x ∧ x < (u + 1) * 1000000 := ⟨x / 1000000, by omega, by omega⟩
  obtain ⟨v, hv1, hv2⟩ : ∃ v : Int, v * 1000000 ≤ y ∧ y < (v + 1) * 1000000 := ⟨y / 1000000, by omega, by omega⟩
  have s := h v u (by omega) (by omega) (by unfold rectP; omega)
  unfold metB
  rw [List.any_eq_true]
  refine ⟨_, s.2.2, decide_eq_true ?_⟩
  have hu := s.1
  have hv := s.2.1
  have h0 : 0 ≤ v * g.wide := Int.mul_nonneg (by omega) (by omega)
  have hn : 0 ≤ v * g.wide + u := by omega
  unfold touP
  rw [Int.tmod_eq_emod_of_nonneg hn, Int.tdiv_eq_ediv_of_nonneg hn, Int.add_comm (v * g.wide), Int.mul_comm v, Int.add_mul_emod_self_left, Int.add_mul_ediv_left _ _ (by omega), Int.emod_eq_of_lt (by omega) (by omega), Int.ediv_eq_zero_of_lt (by omega) (by omega), Int.zero_add]
  unfold rectP; omega
theorem tru_out (hc : cloudE g c = 0) (hg : gridOk g) (ht : 0 ≤ t) (hx : c.flow.a ≤ vx ∧ vx ≤ c.flow.b) (hy : c.flow.c ≤ vy ∧ vy ≤ c.flow.d) (he0 : 0 ≤ e) (he : e ≤ c.grow * t) (hg0 : 0 ≤ c.grow * t) (hl : ∀ n, n ∈ l → n ∈ c.may) (hs : ∀ n, n ∈ c.sure → n ∈ l) (hbx : -20000000 ≤ p.tmod g.wide * 1000000 - vx * t ∧ p.tmod g.wide * 1000000 - vx * t ≤ 20000000) (hby : -20000000 ≤ p.tdiv g.wide * 1000000 - vy * t ∧ p.tdiv g.wide * 1000000 - vy * t ≤ 20000000)
    (h : ((stateOf g c p t = 0 ∧ metB g l (p.tmod g.wide * 1000000 - vx * t) (p.tdiv g.wide * 1000000 - vy * t) e = true) ∨ (stateOf g c p t = 2 ∧ ¬ wholeB g l (p.tmod g.wide * 1000000 - vx * t) (p.tdiv g.wide * 1000000 - vy * t) 0 = true)) ∨ (wholeB g l (p.tmod g.wide * 1000000 - vx * t) (p.tdiv g.wide * 1000000 - vy * t) 0 = true ∧ ¬ metB g l (p.tmod g.wide * 1000000 - vx * t) (p.tdiv g.wide * 1000000 - vy * t) e = true)) : False := by
  rcases h with (⟨h, k⟩ | ⟨h, k⟩) | ⟨h, k⟩
  · exact tru_met hc hg ht hx hy he hl k h
  · exact k (tru_whole hc ht hx hy hg0 hs h)
  · exact k (whole_met hg hbx hby (Int.le_refl 0) he0 h)
theorem tru_in (hc : cloudE g c = 0) (hg : gridOk g) (ht : 0 ≤ t) (hx : c.flow.a ≤ vx ∧ vx ≤ c.flow.b) (hy : c.flow.c ≤ vy ∧ vy ≤ c.flow.d) (he0 : 0 ≤ e) (he : e ≤ c.grow * t) (hg0 : 0 ≤ c.grow * t) (hl : ∀ n, n ∈ l → n ∈ c.may) (hs : ∀ n, n ∈ c.sure → n ∈ l) (hbx : -20000000 ≤ p.tmod g.wide * 1000000 - vx * t ∧ p.tmod g.wide * 1000000 - vx * t ≤ 20000000) (hby : -20000000 ≤ p.tdiv g.wide * 1000000 - vy * t ∧ p.tdiv g.wide * 1000000 - vy * t ≤ 20000000)
    (h : ((stateOf g c p t = 0 ∧ (wholeB g l (p.tmod g.wide * 1000000 - vx * t) (p.tdiv g.wide * 1000000 - vy * t) e = true ∨ metB g l (p.tmod g.wide * 1000000 - vx * t) (p.tdiv g.wide * 1000000 - vy * t) 0 = true)) ∨ (stateOf g c p t = 2 ∧ ¬ wholeB g l (p.tmod g.wide * 1000000 - vx * t) (p.tdiv g.wide * 1000000 - vy * t) e = true)) ∨ (wholeB g l (p.tmod g.wide * 1000000 - vx * t) (p.tdiv g.wide * 1000000 - vy * t) e = true ∧ ¬ (wholeB g l (p.tmod g.wide * 1000000 - vx * t) (p.tdiv g.wide * 1000000 - vy * t) e = true ∨ metB g l (p.tmod g.wide * 1000000 - vx * t) (p.tdiv g.wide * 1000000 - vy * t) 0 = true))) : False := by
  rcases h with (⟨h, k | k⟩ | ⟨h, k⟩) | ⟨h, k⟩
  · exact tru_met hc hg ht hx hy he hl (whole_met hg hbx hby he0 he0 k) h
  · exact tru_met hc hg ht hx hy hg0 hl k h
  · exact k (tru_whole hc ht hx hy he hs h)
  · exact k (.inl h)
end
/-- What a later field has. -/
def VOk (d : Draft) (t : Int) (vf : List Span) (k : Nat) : Prop := vf.length = k ∧ ∀ j, j < k → (vf.getD j ⟨0, 0⟩ = ⟨5, 5⟩ ∨ vf.getD j ⟨0, 0⟩ = ⟨0, 0⟩) ∧ (stateOf (dG d) (dC d) (j : Nat) t = 2 → vf.getD j ⟨0, 0⟩ = ⟨5, 5⟩) ∧ (stateOf (dG d) (dC d) (j : Nat) t = 0 → vf.getD j ⟨0, 0⟩ = ⟨0, 0⟩)
section
variable {d : Draft} {t : Int} {vf : List Span} {k : Nat}
theorem v_0 : VOk d t [] 0 := ⟨rfl, fun _ h => by omega⟩
theorem v_add {x : Span} (h : VOk d t vf k) (h1 : x = ⟨5, 5⟩ ∨ x = ⟨0, 0⟩) (h2 : stateOf (dG d) (dC d) (k : Nat) t = 2 → x = ⟨5, 5⟩) (h3 : stateOf (dG d) (dC d) (k : Nat) t = 0 → x = ⟨0, 0⟩) : VOk d t (vf ++ [x]) (k + 1) := by
  obtain ⟨hl, h⟩ := h
  refine ⟨by simp [hl], fun j hj => ?_⟩
  by_cases q : j < k
  · have e : (vf ++ [x]).getD j ⟨0, 0⟩ = vf.getD j ⟨0, 0⟩ := by rw [List.getD_eq_getElem?_getD, List.getD_eq_getElem?_getD, List.getElem?_append_left (by omega)]
    rw [e]; exact h j q
  · obtain rfl : j = k := by omega
    have e : (vf ++ [x]).getD j ⟨0, 0⟩ = x := by rw [List.getD_eq_getElem?_getD, List.getElem?_append_right (by omega), hl]; simp
    rw [e]; exact ⟨h1, h2, h3⟩
theorem v_step {T C : Prop} (hv : VOk d t vf k) (h : ¬ (((stateOf (dG d) (dC d) (k : Nat) t = 0 ∧ T) ∨ (stateOf (dG d) (dC d) (k : Nat) t = 2 ∧ ¬ C)) ∨ (C ∧ ¬ T))) (h7 : T) : VOk d t (vf ++ [⟨5, 5⟩]) (k + 1) :=
  v_add hv (.inl rfl) (fun _ => rfl) (fun q => absurd (.inl (.inl ⟨q, h7⟩)) h)
theorem v_step0 {T C : Prop} (hv : VOk d t vf k) (h : ¬ (((stateOf (dG d) (dC d) (k : Nat) t = 0 ∧ T) ∨ (stateOf (dG d) (dC d) (k : Nat) t = 2 ∧ ¬ C)) ∨ (C ∧ ¬ T))) (h7 : ¬ T) : VOk d t (vf ++ [⟨0, 0⟩]) (k + 1) :=
  v_add hv (.inr rfl) (fun q => by
    by_cases hC : C
    · exact absurd (.inr ⟨hC, h7⟩) h
    · exact absurd (.inl (.inr ⟨q, hC⟩)) h) (fun _ => rfl)
theorem tru_end (hE : atE (dG d) [dC d] t = 0) (hV : VOk d t vf k) (hk : (k : Int) = dW d * dH d) (hg : gridOk (dG d)) (h1 : 1 ≤ dW d * dH d) : heldL (atL (dG d) [dC d] t) ⟨dG d, vf⟩ 5 = [] ∧ heldE (atL (dG d) [dC d] t) ⟨dG d, vf⟩ 5 = 0 := by
  have hgd : (dG d).wide * (dG d).high = dW d * dH d := rfl
  have hL := at1len hE (by omega)
  have hsl : (atL (dG d) [dC d] t).length = vf.length := by have := hV.1; omega
  have hst : ∀ j, j < k → (atL (dG d) [dC d] t).getD j 0 = stateOf (dG d) (dC d) (j : Nat) t := fun j hj => by
    rw [List.getD_eq_getElem?_getD, at1L hE (by omega)]; rfl
  have h0 : heldE (atL (dG d) [dC d] t) ⟨dG d, vf⟩ 5 = 0 := by
    have hf : fieldE 1073741824 ⟨dG d, vf⟩ = 0 := by
      unfold fieldE
      rw [if_neg (fun q => q hg), if_neg (by intro q; have := hV.1; dsimp only at q; omega)]
      refine firstE_zero fun j hj => if_pos ?_
      have := (hV.2 j (by have := hV.1; dsimp only at hj; omega)).1
      dsimp only
      rcases this with q | q
      · rw [q]; unfold spanOk; decide
      · rw [q]; unfold spanOk; decide
    unfold heldE
    rw [if_neg (fun q => q hf), if_neg (fun q => q hsl), if_neg (by decide)]
    refine firstE_zero fun j hj => if_pos ?_
    rw [hst j (by have := hV.1; omega)]
    have := stateOf_3 (dG d) (dC d) (j : Nat) t
    omega
  refine ⟨?_, h0⟩
  have hT : ∀ n, n ≤ k → heldTo (atL (dG d) [dC d] t) ⟨dG d, vf⟩ 5 n = [] := by
    intro n
    induction n with
    | zero => intro _; rfl
    | succ n ih =>
      intro hn
      unfold heldTo
      rw [if_neg, ih (by omega)]
      have := (hV.2 n (by omega)).2
      unfold heldAt
      rw [hst n (by omega)]
      dsimp only
      rintro (⟨q, r⟩ | ⟨q, r⟩)
      · rw [this.1 q] at r; dsimp only at r; omega
      · rw [this.2 q] at r; dsimp only at r; omega
  unfold heldL
  rw [if_neg (fun q => q h0)]
  exact hT _ (by have := hV.1; omega)
end

set_option maxRecDepth 20000 in
theorem CastTruth_c (d : Draft) (pp : Option Addr) (cp : Nat) (al : List Bool) (pa : Option Addr) (ca : Nat) (wx wy we : Int) (inw : Bool) (ld : Int) (w : World) (hd : dOk d) (hp : Byts w pp d.pix) (ha : Bools w pa al) (hx1 : 0 ≤ wx) (hx2 : wx ≤ 4294967295) (hy1 : 0 ≤ wy) (hy2 : wy ≤ 4294967295) (he1 : 0 ≤ we) (he2 : we ≤ 4294967295) (hl1 : 0 ≤ ld) (hl2 : ld ≤ 255) :
  Calls Try.prog 9 #[.agg #[.int .u8 d.wide, .int .u8 d.high, .slice pp d.pix.length cp, .int .i32 d.x0, .int .i32 d.x1, .int .i32 d.y0, .int .i32 d.y1, .int .u16 d.grow], .agg #[.slice pa al.length ca, .int .u32 wx, .int .u32 wy, .int .u32 we, .bool inw], .int .u8 ld] w fun e w' => e = .returned (.bool true) ∧ St (bs w) [] w' := by
  have hdk := hd
  obtain ⟨⟨hd1, hd2⟩, ⟨hd3, hd4⟩, ⟨hd5, hd6⟩, ⟨hd7, hd8⟩, ⟨hd9, hd10⟩, ⟨hd11, hd12⟩, hd13, hd14⟩ := hd
  have hd := hdk
  have hw8 : 1 ≤ dW d ∧ dW d ≤ 8 := dW_bd hd1
  have hh8 : 1 ≤ dH d ∧ dH d ≤ 8 := dH_bd hd3
  have har := mul8 hw8.1 hw8.2 hh8.1 hh8.2
  have hld := tmod_pos hl1 (n := 121) (by decide)
  have hgd : (dG d).wide * (dG d).high = dW d * dH d := rfl
  have hgw : (dG d).wide = dW d := rfl
  have hgh : (dG d).high = dH d := rfl
  have hfl := dF_bd d
  have hgr0 : 0 ≤ (dC d).grow ∧ (dC d).grow ≤ 10000 := dgrow_bd hd13
  have hgr8 := dG_ok hdk
  have hpx := pick_bd (lo := (dC d).flow.a) (hi := (dC d).flow.b) (n := wx) (by omega) hx1
  have hpy := pick_bd (lo := (dC d).flow.c) (hi := (dC d).flow.d) (n := wy) (by omega) hy1
  have hvx := vt_bd (v := (pickI (dC d).flow.a (dC d).flow.b wx)) (t := ld.tmod 121) (by omega) (by omega) hld.1 (by omega)
  have hvy := vt_bd (v := (pickI (dC d).flow.c (dC d).flow.d wy)) (t := ld.tmod 121) (by omega) (by omega) hld.1 (by omega)
  have hgt := gt_bd hgr0.1 hgr0.2 hld.1 (by omega)
  have hed := tmod_pos he1 (n := (dC d).grow * ld.tmod 121 + 1) (by omega)
  refine enter (vs := [_, _, _]) (env := [(0, _), (1, _), (2, _)]) Try.func9 rfl rfl rfl rfl ?_
  refine VC.seq ?_
  refine VC.reg (VO.h rfl <| HO.box (C := #[_, _, _, _, _, _, _, _]) rfl rfl fun b1 => VO.h rfl <| HO.box (C := #[_, _, _, _, _]) rfl rfl fun b2 => VO.l (LO.as (.r rfl)) rfl <| VO.nil ?_)
  refine VE.seqN ?_
  refine VC.seq ?_
  refine VC.reg (VO.l (LO.lda (vs := [_, _, _, _, _, _, _, _]) A49 (.r rfl) (fun _ hw => cells_at hw 1 rfl ⟨_, rfl⟩) rfl) rfl <| VO.h rfl <| HO.callx (xs := [_]) (vs := [_]) C20 ⟨(.r rfl), trivial⟩ (fun w hw => made_c d pp cp w hd (hp.keep w hw)) fun x _ => VO.h rfl <| HO.lo (LO.mv (.r rfl)) <| VO.h rfl <| HO.lo (LO.ex (.r rfl) rfl) <| VO.h rfl <| HO.lo (LO.ex (.r rfl) rfl) <| VO.h rfl <| HO.lo (LO.ex (.r rfl) rfl) <| VO.h rfl <| HO.alloc (C := #[_, _, _, _, _]) Z23 rfl fun b5 => VO.h rfl <| HO.alloc (C := #[_, _, _, _, _, _, _]) Z34 rfl fun b6 => VO.h0 <| HO.st 1 (vs := [_, _, _, _, _]) (C' := [_, _, _, _, _]) (L' := [_, _, _, _, _, _]) N23 rfl rfl rfl rfl rfl rfl rfl rfl <| VO.h0 <| HO.st 0 (vs := [_, _, _, _, _, _, _]) (C' := [_, _, _, _, _, _, _]) (L' := [_, _, _, _, _, _]) N34 rfl rfl rfl rfl rfl rfl rfl rfl <| VO.h rfl <| HO.lo (LO.as (.r rfl)) <| VO.nil ?_)
  refine VE.seqN ?_
  refine VC.seq ?_
  refine VC.seq ?_
  refine VC.reg (VO.l (LO.mv (.r rfl)) rfl <| VO.l (LO.not (.r rfl)) rfl <| VO.nil ?_)
  refine VE.seqN ?_
  refine VC.cond rfl (fun h1 => ?_) (fun h1 => ?_)
  ·
    refine VC.seq ?_
    refine VC.reg (VO.l (LO.call (xs := []) (vs := []) C14 trivial (fun w _ => works_c w)) rfl <| VO.l (LO.as (.r rfl)) rfl <| VO.nil ?_)
    refine VE.seqN ?_
    refine VC.ret (VE.thenR (VE.res (vs := [_]) rfl ⟨rfl, trivial⟩ (fun w hw => ?_)))
    first | exact ⟨rfl, hw.nil⟩ | exact ⟨by simp [resV]; exact hz, hw.nil⟩
  ·
    have h1 : (0 : Int) < ((dC d).may.length : Int) := Classical.not_not.1 h1
    have hcl0 := dC_ok hdk (by omega)
    have hE := at1E hcl0 (t := ld.tmod 121) (by omega) (by omega)
    have hLn := at1len hE (by show 0 ≤ dW d * dH d; omega)
    have hsm := sure_may hcl0
    refine VC.skip (VE.seqN ?_)
    refine VC.seq ?_
    refine VC.reg (VO.l (LO.mv (.r rfl)) rfl <| VO.l (LO.cv ⟨_, Try.underlying5⟩ Try.underlying3 (.r rfl) (wi (by omega) (by omega))) rfl <| VO.l (LO.rem (.r rfl) (.r rfl) (by omega)) rfl <| VO.l (LO.as (.r rfl)) rfl <| VO.nil ?_)
    refine VE.seqN ?_
    refine VC.seq ?_
    refine VC.reg (VO.l (LO.lda (vs := [_, _, _, _, _]) A23 (.r rfl) (fun _ hw => cells_at hw 1 rfl ⟨_, rfl⟩) rfl) rfl <| VO.l (LO.lda (vs := [_, _, _, _, _, _, _]) A34 (.r rfl) (fun _ hw => cells_at hw 0 rfl ⟨_, rfl⟩) rfl) rfl <| VO.h rfl <| HO.bs (ps := [(_, _)]) (vs := [(_, _)]) (Z := [_, _, _, _, _, _, _]) (C := [_, _, _, _, _, _, _]) S24 Z34 N34 ⟨(.r rfl), trivial⟩ rfl rfl rfl rfl ⟨_, [_, _, _, _, _, _, _], [_, _, _, _, _, _, _], rfl, rfl, rfl, rfl, rfl⟩ fun b9 => VO.l (LO.mv (.r rfl)) rfl <| VO.h rfl <| HO.callx (xs := [_, _, _]) (vs := [_, _, _]) C17 ⟨(.r rfl), (.r rfl), (.r rfl), trivial⟩ (fun w hw => At_c (dG d) [cpD d x] (some ⟨_, 0, none⟩) 1 (ld.tmod 121) w (by show 1 < _; decide) (cloudsOne (cells_at hw 0 rfl ⟨[], rfl⟩) (own_rows hw 3 rfl) (own_rows hw 4 rfl) (dC_len d).1 (dC_len d).2)) fun y _ => VO.h rfl <| HO.lo (LO.mv (.r rfl)) <| VO.h rfl <| HO.lo (LO.ex (.r rfl) rfl) <| VO.h rfl <| HO.lo (LO.ex (.r rfl) rfl) <| VO.h rfl <| HO.lo (LO.as (.r rfl)) <| VO.h rfl <| HO.lo (LO.as (.r rfl)) <| VO.nil ?_)
    refine VE.seqN ?_
    refine VC.seq ?_
    refine VC.seq ?_
    refine VC.reg (VO.l (LO.mv (.r rfl)) rfl <| VO.l (LO.ne (.r rfl) (.r rfl)) rfl <| VO.l (LO.mv (.r rfl)) rfl <| VO.lg rfl rfl (GD.f _) (fun hg => LO.mv (.r rfl)) rfl <| VO.lg rfl rfl (GD.f _) (fun hg => LO.len S28 (.g hg rfl) rfl) rfl <| VO.lg rfl rfl (GD.f _) (fun hg => LO.fa (r := 3) F23_3 (.r rfl) rfl) rfl <| VO.lg rfl rfl (GD.f _) (fun hg => LO.ld O3 (.g hg rfl) (fun _ hw => cells_at hw 3 rfl ⟨_, rfl⟩)) rfl <| VO.lg rfl rfl (GD.f _) (fun hg => LO.fa (r := 4) F23_4 (.r rfl) rfl) rfl <| VO.lg rfl rfl (GD.f _) (fun hg => LO.ld O3 (.g hg rfl) (fun _ hw => cells_at hw 3 rfl ⟨_, rfl⟩)) rfl <| VO.lg rfl rfl (GD.f _) (fun hg => LO.mul (.g hg rfl) (.g hg rfl) (wi (by omega) (by omega))) rfl <| VO.lg rfl rfl (GD.f _) (fun hg => LO.ne (.g hg rfl) (.g hg rfl)) rfl <| VO.l (LO.pkO (.r rfl) (.r rfl) rfl rfl) rfl <| VO.nil ?_)
    refine VE.seqN ?_
    refine VC.cond rfl (fun h2 => ?_) (fun h2 => ?_)
    ·
      (exfalso; (rcases h2 with q | q; exact q hE; exact q hLn))
    ·
      refine VC.skip (VE.seqN ?_)
      refine VC.seq ?_
      refine VC.reg (VO.l (LO.as (.r rfl)) rfl <| VO.nil ?_)
      refine VE.seqN ?_
      refine VC.weak (env' := [(4, _), (7, _), (8, _), (10, _), (11, _), (13, _)]) (.cons rfl (.cons rfl (.cons rfl (.cons rfl (.cons rfl (.cons rfl .nil)))))) (fun _ h => h) ?_
      refine VC.seq ?_
      refine VC.seq ?_
      refine VC.reg (VO.l (LO.as (.r rfl)) rfl <| VO.nil ?_)
      refine VE.seqN ?_
      refine VC.block ?_
      refine VC.loopK (α := Nat × (List Int) × (Option Addr) × Nat) 0 (fun gx => [(13, .slice gx.2.2.1 gx.2.1.length gx.2.2.2), (14, .int .i64 (gx.1 : Nat))]) [(4, _), (7, _), (8, _), (10, _), (11, _)] (fun gx => [own 3 1 gx.2.2.1 gx.2.2.2 (gx.2.1.map fun n => [.int .i64 n])]) (fun gx => gx.1 ≤ (dC d).may.length ∧ TL (dC d) gx.2.1 gx.1) (fun gx => (dC d).may.length - gx.1) (0, [], none, 0) (by exact ⟨Nat.zero_le _, tl_0⟩) (.cons rfl (.cons rfl (.cons rfl (.cons rfl (.cons rfl (.cons rfl (.cons rfl .nil))))))) (fun _ h => (h.ownNil 3 1)) ?_
      rintro ⟨i, lt, pl, cl⟩ ⟨hk, hI⟩
      show VC _ _ _ _ _ ([(13, .slice pl lt.length cl), (14, .int .i64 (i : Nat))] ++ _) ([own 3 1 pl cl (lt.map fun n => [.int .i64 n])] ++ _) _ _
      have hk : i ≤ (dC d).may.length := hk
      have hI : TL (dC d) lt i := hI
      have hlb := (dC_len d).2
      have hI2 := hI.2.2
      refine VC.seq ?_
      refine VC.seq ?_
      refine VC.reg (VO.l (LO.mv (.r rfl)) rfl <| VO.l (LO.fa (r := 1) F34_1 (.r rfl) rfl) rfl <| VO.l (LO.ld O28 (.r rfl) (fun _ hw => cells_at hw 3 rfl ⟨_, rfl⟩)) rfl <| VO.l (LO.len S28 (.r rfl) rfl) rfl <| VO.l (LO.lt (.r rfl) (.r rfl)) rfl <| VO.nil ?_)
      refine VE.seqN ?_
      refine VC.cond rfl (fun h3 => ?_) (fun h3 => ?_)
      ·
        obtain ⟨mi, hmi⟩ : ∃ mi, (dC d).may[i]? = some mi := ⟨_, List.getElem?_eq_getElem (by omega)⟩
        have hil : i < (dC d).may.length := (List.getElem?_eq_some_iff.1 hmi).1
        refine VC.skip (VE.seqN ?_)
        refine VC.seq ?_
        refine VC.block ?_
        refine VC.seq ?_
        refine VC.draw mixed (LL.l (LO.fa (r := 0) F34_0 (.r rfl) rfl) rfl <| LL.l (LO.ld O28 (.r rfl) (fun _ hw => cells_at hw 3 rfl ⟨_, rfl⟩)) rfl <| LL.l (LO.fa (r := 1) F34_1 (.r rfl) rfl) rfl <| LL.l (LO.ld O28 (.r rfl) (fun _ hw => cells_at hw 3 rfl ⟨_, rfl⟩)) rfl <| LL.l (LO.mv (.r rfl)) rfl <| LL.l (LO.ixo S28 N3 (fun _ hw => (own_rows hw 6 rfl).some (by simp)) (.r rfl) (.r rfl) rfl hil) rfl <| LL.l (LO.ld O3 (.r rfl) (fun w hw => cells_part (off := 0) (own_cell hw 6 rfl hmi) ⟨_, rfl⟩)) rfl <| LL.l (LO.call (xs := [_, _]) (vs := [_, _]) C22 ⟨(.r rfl), (.r rfl), trivial⟩ (fun w hw => has_c _ (dC d).sure _ _ w (dC_len d).1 (own_rows hw 5 rfl))) rfl <| LL.l (LO.mv (.r rfl)) rfl <| LL.lg rfl rfl (GD.f _) (fun hg => LO.mv (.r rfl)) rfl <| LL.lg rfl rfl (GD.f _) (fun hg => LO.fa (r := 0) F75_0 (.r rfl) rfl) rfl <| LL.lg rfl rfl (GD.f _) (fun hg => LO.ld O73 (.g hg rfl) (fun _ hw => cells_at hw 7 rfl ⟨_, rfl⟩)) rfl <| LL.lg rfl rfl (GD.f _) (fun hg => LO.len S73 (.g hg rfl) rfl) rfl <| LL.lg rfl rfl (GD.f _) (fun hg => LO.lt (.g hg rfl) (.g hg rfl)) rfl <| LL.lg rfl rfl (GD.f _) (fun hg => LO.mv (.g hg rfl)) rfl <| LL.lg rfl rfl (GD.nt _ _) (fun hg => LO.fa (r := 0) F75_0 (.r rfl) rfl) rfl <| LL.lg rfl rfl (GD.nt _ _) (fun hg => LO.ld O73 (.g hg rfl) (fun _ hw => cells_at hw 7 rfl ⟨_, rfl⟩)) rfl <| LL.lg rfl rfl (GD.nt _ _) (fun hg => LO.mv (.r rfl)) rfl <| LL.lg rfl rfl (GD.nt _ _) (fun hg => LO.ixs S73 N4 ha.some (.g hg rfl) (.g hg rfl) rfl (by have := narB hg; omega)) rfl <| LL.lg rfl rfl (GD.nt _ _) (fun hg => LO.ld O4 (.g hg rfl) (fun w hw => cells_part (off := 0) ((ha.at (j := i) (by exact narB hg)) w hw) ⟨_, rfl⟩)) rfl <| LL.lg rfl rfl (GD.f _) (fun hg => LO.pkA (.g hg rfl) rfl (and_e hg) (.r rfl)) rfl <| LL.l (LO.pkO (.r rfl) (.r rfl) rfl rfl) rfl <| LL.nil) (by kernel_rfl) ?_
        refine VE.seqN ?_
        refine VC.cond rfl (fun h4 => ?_) (fun h4 => ?_)
        ·
          refine VC.reg (VO.l (LO.mv (.r rfl)) rfl <| VO.l (LO.fa (r := 1) F34_1 (.r rfl) rfl) rfl <| VO.l (LO.ld O28 (.r rfl) (fun _ hw => cells_at hw 3 rfl ⟨_, rfl⟩)) rfl <| VO.l (LO.mv (.r rfl)) rfl <| VO.l (LO.ixo S28 N3 (fun _ hw => (own_rows hw 6 rfl).some (by simp)) (.r rfl) (.r rfl) rfl hil) rfl <| VO.l (LO.ld O3 (.r rfl) (fun w hw => cells_part (off := 0) (own_cell hw 6 rfl hmi) ⟨_, rfl⟩)) rfl <| VO.h rfl <| HO.bs (ps := [(_, _)]) (vs := [(_, _)]) (Z := [_]) (C := [_]) S28 Z3 N3 ⟨(.r rfl), trivial⟩ rfl rfl rfl rfl ⟨_, [_], [_], rfl, rfl, rfl, rfl, rfl⟩ fun b12 => VO.h rfl <| HO.appT (mi) 1 0 (fun R => [_, R, _, _, _, _, _, _, _, _]) S28 S28 I3 (.r rfl) (.r rfl) rfl rfl rfl rfl rfl rfl rfl (fun _ => rfl) rfl (by omega) fun p7 c7 => VO.h rfl <| HO.lo (LO.as (.r rfl)) <| VO.nil ?_)
          refine VE.inN (VE.seqN ?_)
          refine VC.weak (env' := [(4, _), (7, _), (8, _), (10, _), (11, _), (13, _), (14, _)]) (.cons rfl (.cons rfl (.cons rfl (.cons rfl (.cons rfl (.cons rfl (.cons rfl .nil))))))) (fun _ h => h) ?_
          refine VC.reg (VO.l (LO.mv (.r rfl)) rfl <| VO.l (LO.add (.r rfl) (.r rfl) (wi (by omega) (by omega))) rfl <| VO.l (LO.as (.r rfl)) rfl <| VO.nil ?_)
          refine VE.thenN fun a w ha hw => ⟨(i + 1, lt ++ [mi], _, _), (by first | exact ⟨by dsimp only; omega, tl_add hmi hI⟩ | exact ⟨by dsimp only; omega, tl_skip hmi hI h4⟩), (by dsimp only; omega), ha.sub (.cons rfl (.cons rfl (.cons rfl (.cons rfl (.cons rfl (.cons rfl (.cons rfl .nil))))))), hw.sel [1, 2, 3, 4, 5, 6, 7, 8, 9] rfl⟩
        ·
          refine VC.skip (VE.inN (VE.seqN ?_))
          refine VC.reg (VO.l (LO.mv (.r rfl)) rfl <| VO.l (LO.add (.r rfl) (.r rfl) (wi (by omega) (by omega))) rfl <| VO.l (LO.as (.r rfl)) rfl <| VO.nil ?_)
          refine VE.thenN fun a w ha hw => ⟨(i + 1, lt, _, _), (by first | exact ⟨by dsimp only; omega, tl_add hmi hI⟩ | exact ⟨by dsimp only; omega, tl_skip hmi hI h4⟩), (by dsimp only; omega), ha.sub (.cons rfl (.cons rfl (.cons rfl (.cons rfl (.cons rfl (.cons rfl (.cons rfl .nil))))))), hw⟩
      ·
        have hltm : ∀ n, n ∈ lt → 0 ≤ n ∧ n < (dG d).wide * (dG d).high := tl_bd hcl0 hI
        have hltn : lt.length < 1000000000000 := by have := (dC_len d).2; have := hI.2.2; omega
        have hlts := tl_all hcl0 hI (by omega)
        refine VC.exit (VE.thenX (VE.thenX (VE.inX (VE.seqN ?_))))
        refine VC.seq ?_
        refine VC.draw mixed (LL.l (LO.fa (r := 2) F34_2 (.r rfl) rfl) rfl <| LL.l (LO.fa (r := 2) F32_0 (.r rfl) rfl) rfl <| LL.l (LO.lda (vs := [_, _]) A30 (.r rfl) (fun _ hw => cells_at hw 3 rfl ⟨_, rfl⟩) rfl) rfl <| LL.l (LO.fa (r := 1) F75_1 (.r rfl) rfl) rfl <| LL.l (LO.ld O50 (.r rfl) (fun _ hw => cells_at hw 7 rfl ⟨_, rfl⟩)) rfl <| LL.l (LO.call (xs := [_, _]) (vs := [_, _]) C27 ⟨(.r rfl), (.r rfl), trivial⟩ (fun w _ => pick_c _ _ _ w (by omega) (by omega) (by omega) (by omega) (by omega))) rfl <| LL.l (LO.fa (r := 2) F34_2 (.r rfl) rfl) rfl <| LL.l (LO.fa (r := 4) F32_1 (.r rfl) rfl) rfl <| LL.l (LO.lda (vs := [_, _]) A30 (.r rfl) (fun _ hw => cells_at hw 3 rfl ⟨_, rfl⟩) rfl) rfl <| LL.l (LO.fa (r := 2) F75_2 (.r rfl) rfl) rfl <| LL.l (LO.ld O50 (.r rfl) (fun _ hw => cells_at hw 7 rfl ⟨_, rfl⟩)) rfl <| LL.l (LO.call (xs := [_, _]) (vs := [_, _]) C27 ⟨(.r rfl), (.r rfl), trivial⟩ (fun w _ => pick_c _ _ _ w (by omega) (by omega) (by omega) (by omega) (by omega))) rfl <| LL.l (LO.as (.r rfl)) rfl <| LL.l (LO.as (.r rfl)) rfl <| LL.nil) (by kernel_rfl) ?_
        refine VE.seqN ?_
        refine VC.seq ?_
        refine VC.reg (VO.l (LO.fa (r := 3) F75_3 (.r rfl) rfl) rfl <| VO.l (LO.ld O50 (.r rfl) (fun _ hw => cells_at hw 7 rfl ⟨_, rfl⟩)) rfl <| VO.l (LO.cv ⟨_, Try.underlying50⟩ Try.underlying3 (.r rfl) (wi (by omega) (by omega))) rfl <| VO.l (LO.fa (r := 6) F34_3 (.r rfl) rfl) rfl <| VO.l (LO.ld O3 (.r rfl) (fun _ hw => cells_at hw 3 rfl ⟨_, rfl⟩)) rfl <| VO.l (LO.mv (.r rfl)) rfl <| VO.l (LO.mul (.r rfl) (.r rfl) (wi (by omega) (by omega))) rfl <| VO.l (LO.add (.r rfl) (.r rfl) (wi (by omega) (by omega))) rfl <| VO.l (LO.rem (.r rfl) (.r rfl) (by omega)) rfl <| VO.l (LO.as (.r rfl)) rfl <| VO.nil ?_)
        refine VE.seqN ?_
        refine VC.seq ?_
        refine VC.reg (VO.l (LO.lda (vs := [_, _, _, _, _]) A23 (.r rfl) (fun _ hw => cells_at hw 4 rfl ⟨_, rfl⟩) rfl) rfl <| VO.l (LO.bd (ps := [(_, _)]) (vs := [(_, _)]) (C := [_, _, _, _, _, _]) B70 ⟨(.r rfl), trivial⟩ rfl ⟨_, [_, _, _, _, _], [_, _, _, _, _, _], rfl, rfl, rfl, rfl, rfl⟩) rfl <| VO.h rfl <| HO.alloc (C := #[_, _, _, _, _, _]) Z70 rfl fun b13 => VO.h0 <| HO.st 0 (vs := [_, _, _, _, _, _]) (C' := [_, _, _, _, _, _]) (L' := [_, _, _, _, _, _, _, _, _, _]) N70 rfl rfl rfl rfl rfl rfl rfl rfl <| VO.nil ?_)
        refine VE.seqN ?_
        refine VC.seq ?_
        refine VC.seq ?_
        refine VC.reg (VO.l (LO.as (.r rfl)) rfl <| VO.nil ?_)
        refine VE.seqN ?_
        refine VC.block ?_
        refine VC.loopK (α := Nat × (List Span) × (Option Addr) × Nat) 1 (fun gx => [(19, .int .i64 (gx.1 : Nat))]) [(4, _), (7, _), (10, _), (11, _), (13, _), (15, _), (16, _), (17, _), (18, _)] (fun gx => [blk b13 (.cells #[.int .i64 (dG d).x, .int .i64 (dG d).y, .int .i64 (dG d).size, .int .i64 (dG d).wide, .int .i64 (dG d).high, .slice gx.2.2.1 gx.2.1.length gx.2.2.2] 70), own 30 2 gx.2.2.1 gx.2.2.2 (gx.2.1.map Span.cells)]) (fun gx => (gx.1 : Int) ≤ dW d * dH d ∧ VOk d (ld.tmod 121) gx.2.1 gx.1) (fun gx => (dW d * dH d).toNat - gx.1) (0, [], none, 0) (by exact ⟨by dsimp only; omega, v_0⟩) (.cons rfl (.cons rfl (.cons rfl (.cons rfl (.cons rfl (.cons rfl (.cons rfl (.cons rfl (.cons rfl (.cons rfl .nil)))))))))) (fun _ h => ((h.ownNil 30 2)).sel [1, 0, 2, 3, 4, 5, 6, 7, 8, 9, 10] rfl) ?_
        rintro ⟨k, vf, pf, cf⟩ ⟨hk, hV⟩
        show VC _ _ _ _ _ ([(19, .int .i64 (k : Nat))] ++ _) ([blk b13 (.cells #[.int .i64 (dG d).x, .int .i64 (dG d).y, .int .i64 (dG d).size, .int .i64 (dG d).wide, .int .i64 (dG d).high, .slice pf vf.length cf] 70), own 30 2 pf cf (vf.map Span.cells)] ++ _) _ _
        have hk : (k : Int) ≤ dW d * dH d := hk
        have hV : VOk d (ld.tmod 121) vf k := hV
        have hVl := hV.1
        refine VC.seq ?_
        refine VC.seq ?_
        refine VC.reg (VO.l (LO.mv (.r rfl)) rfl <| VO.l (LO.fa (r := 3) F23_3 (.r rfl) rfl) rfl <| VO.l (LO.ld O3 (.r rfl) (fun _ hw => cells_at hw 6 rfl ⟨_, rfl⟩)) rfl <| VO.l (LO.fa (r := 4) F23_4 (.r rfl) rfl) rfl <| VO.l (LO.ld O3 (.r rfl) (fun _ hw => cells_at hw 6 rfl ⟨_, rfl⟩)) rfl <| VO.l (LO.mul (.r rfl) (.r rfl) (wi (by omega) (by omega))) rfl <| VO.l (LO.lt (.r rfl) (.r rfl)) rfl <| VO.nil ?_)
        refine VE.seqN ?_
        refine VC.cond rfl (fun h5 => ?_) (fun h5 => ?_)
        ·
          have hkn : k < (dW d * dH d).toNat := by omega
          have hq1 := at1L hE (n := k) hkn
          have hk1 := (List.getElem?_eq_some_iff.1 hq1).1
          have hpk := tmod_bd (g := dG d) (p := (k : Nat)) hgr8 (by omega) (by show (k : Int) < dW d * dH d; omega)
          refine VC.skip (VE.seqN ?_)
          refine VC.seq ?_
          refine VC.block ?_
          refine VC.seq ?_
          refine VC.draw mixed (LL.l (LO.mv (.r rfl)) rfl <| LL.l (LO.fa (r := 3) F23_3 (.r rfl) rfl) rfl <| LL.l (LO.ld O3 (.r rfl) (fun _ hw => cells_at hw 6 rfl ⟨_, rfl⟩)) rfl <| LL.l (LO.rem (.r rfl) (.r rfl) (by omega)) rfl <| LL.l (LO.mul (.r rfl) (.r rfl) (wi (by omega) (by omega))) rfl <| LL.l (LO.mv (.r rfl)) rfl <| LL.l (LO.mv (.r rfl)) rfl <| LL.l (LO.mul (.r rfl) (.r rfl) (wi (by omega) (by omega))) rfl <| LL.l (LO.sub (.r rfl) (.r rfl) (wi (by omega) (by omega))) rfl <| LL.l (LO.mv (.r rfl)) rfl <| LL.l (LO.fa (r := 3) F23_3 (.r rfl) rfl) rfl <| LL.l (LO.ld O3 (.r rfl) (fun _ hw => cells_at hw 6 rfl ⟨_, rfl⟩)) rfl <| LL.l (LO.quo (.r rfl) (.r rfl) (by omega) (wi (by omega) (by omega))) rfl <| LL.l (LO.mul (.r rfl) (.r rfl) (wi (by omega) (by omega))) rfl <| LL.l (LO.mv (.r rfl)) rfl <| LL.l (LO.mv (.r rfl)) rfl <| LL.l (LO.mul (.r rfl) (.r rfl) (wi (by omega) (by omega))) rfl <| LL.l (LO.sub (.r rfl) (.r rfl) (wi (by omega) (by omega))) rfl <| LL.l (LO.as (.r rfl)) rfl <| LL.l (LO.as (.r rfl)) rfl <| LL.nil) (by kernel_rfl) ?_
          refine VE.seqN ?_
          refine VC.seq ?_
          refine VC.draw mixed (LL.l (LO.lda (vs := [_, _, _, _, _]) A23 (.r rfl) (fun _ hw => cells_at hw 6 rfl ⟨_, rfl⟩) rfl) rfl <| LL.l (LO.mv (.r rfl)) rfl <| LL.l (LO.mv (.r rfl)) rfl <| LL.l (LO.mv (.r rfl)) rfl <| LL.l (LO.mv (.r rfl)) rfl <| LL.l (LO.call (xs := [_, _, _, _, _]) (vs := [_, _, _, _, _]) C28 ⟨(.r rfl), (.r rfl), (.r rfl), (.r rfl), (.r rfl), trivial⟩ (fun w hw => met_c (dG d) pl lt cl _ _ _ w hgr8 (by omega) (by omega) hltn hltm (by omega) (by omega) (by omega) (own_rows hw 2 rfl))) rfl <| LL.l (LO.lda (vs := [_, _, _, _, _]) A23 (.r rfl) (fun _ hw => cells_at hw 6 rfl ⟨_, rfl⟩) rfl) rfl <| LL.l (LO.mv (.r rfl)) rfl <| LL.l (LO.mv (.r rfl)) rfl <| LL.l (LO.mv (.r rfl)) rfl <| LL.l (LO.call (xs := [_, _, _, _, _]) (vs := [_, _, _, _, _]) C29 ⟨(.r rfl), (.r rfl), (.r rfl), (.r rfl), (.r rfl), trivial⟩ (fun w hw => whole_c (dG d) pl lt cl _ _ _ w hgr8 (by omega) (by omega) hltn hltm (by omega) (by omega) (by omega) (own_rows hw 2 rfl))) rfl <| LL.l (LO.as (.r rfl)) rfl <| LL.l (LO.as (.r rfl)) rfl <| LL.nil) (by kernel_rfl) ?_
          refine VE.seqN ?_
          refine VC.weak (env' := [(4, _), (7, _), (10, _), (11, _), (13, _), (15, _), (16, _), (17, _), (18, _), (19, _), (20, _), (21, _), (22, _), (23, _)]) (.cons rfl (.cons rfl (.cons rfl (.cons rfl (.cons rfl (.cons rfl (.cons rfl (.cons rfl (.cons rfl (.cons rfl (.cons rfl (.cons rfl (.cons rfl (.cons rfl .nil)))))))))))))) (fun _ h => h) ?_
          refine VC.seq ?_
          refine VC.seq ?_
          refine VC.reg (VO.l (LO.fa (r := 4) F75_4 (.r rfl) rfl) rfl <| VO.l (LO.ld O4 (.r rfl) (fun _ hw => cells_at hw 9 rfl ⟨_, rfl⟩)) rfl <| VO.nil ?_)
          refine VE.seqN ?_
          refine VC.cond rfl (fun h6 => ?_) (fun h6 => ?_)
          ·
            refine VC.seq ?_
            refine VC.reg (VO.l (LO.lda (vs := [_, _, _, _, _]) A23 (.r rfl) (fun _ hw => cells_at hw 6 rfl ⟨_, rfl⟩) rfl) rfl <| VO.l (LO.mv (.r rfl)) rfl <| VO.l (LO.mv (.r rfl)) rfl <| VO.l (LO.mv (.r rfl)) rfl <| VO.l (LO.mv (.r rfl)) rfl <| VO.l (LO.call (xs := [_, _, _, _, _]) (vs := [_, _, _, _, _]) C29 ⟨(.r rfl), (.r rfl), (.r rfl), (.r rfl), (.r rfl), trivial⟩ (fun w hw => whole_c (dG d) pl lt cl _ _ _ w hgr8 (by omega) (by omega) hltn hltm (by omega) (by omega) (by omega) (own_rows hw 2 rfl))) rfl <| VO.l (LO.as (.r rfl)) rfl <| VO.nil ?_)
            refine VE.seqN ?_
            refine VC.reg (VO.l (LO.mv (.r rfl)) rfl <| VO.l (LO.mv (.r rfl)) rfl <| VO.lg rfl rfl (GD.f _) (fun hg => LO.lda (vs := [_, _, _, _, _]) A23 (.r rfl) (fun _ hw => cells_at hw 6 rfl ⟨_, rfl⟩) rfl) rfl <| VO.lg rfl rfl (GD.f _) (fun hg => LO.mv (.r rfl)) rfl <| VO.lg rfl rfl (GD.f _) (fun hg => LO.mv (.r rfl)) rfl <| VO.lg rfl rfl (GD.f _) (fun hg => LO.mv (.r rfl)) rfl <| VO.lg rfl rfl (GD.f _) (fun hg => LO.call (xs := [_, _, _, _, _]) (vs := [_, _, _, _, _]) C28 ⟨(.g hg rfl), (.g hg rfl), (.g hg rfl), (.g hg rfl), (.r rfl), trivial⟩ (fun w hw => met_c (dG d) pl lt cl _ _ _ w hgr8 (by omega) (by omega) hltn hltm (by omega) (by omega) (by omega) (own_rows hw 2 rfl))) rfl <| VO.l (LO.pkO (.r rfl) (.r rfl) rfl rfl) rfl <| VO.l (LO.as (.r rfl)) rfl <| VO.nil ?_)
            refine VE.seqN ?_
            refine VC.seq ?_
            refine VC.seq ?_
            refine VC.reg (VO.l (LO.mv (.r rfl)) rfl <| VO.l (LO.mv (.r rfl)) rfl <| VO.l (LO.ixo S28 N3 (fun _ hw => (own_rows hw 3 rfl).some (by simp)) (.r rfl) (.r rfl) rfl hk1) rfl <| VO.l (LO.ld O3 (.r rfl) (fun w hw => cells_part (off := 0) (own_cell hw 3 rfl hq1) ⟨_, rfl⟩)) rfl <| VO.l (LO.eq (.r rfl) (.r rfl)) rfl <| VO.l (LO.mv (.r rfl)) rfl <| VO.lg rfl rfl (GD.t _) (fun hg => LO.mv (.r rfl)) rfl <| VO.l (LO.pkA (.r rfl) rfl rfl (.r rfl)) rfl <| VO.l (LO.mv (.r rfl)) rfl <| VO.lg rfl rfl (GD.f _) (fun hg => LO.mv (.r rfl)) rfl <| VO.lg rfl rfl (GD.f _) (fun hg => LO.mv (.r rfl)) rfl <| VO.lg rfl rfl (GD.f _) (fun hg => LO.ixo S28 N3 (fun _ hw => (own_rows hw 3 rfl).some (by simp)) (.g hg rfl) (.g hg rfl) rfl hk1) rfl <| VO.lg rfl rfl (GD.f _) (fun hg => LO.ld O3 (.g hg rfl) (fun w hw => cells_part (off := 0) (own_cell hw 3 rfl hq1) ⟨_, rfl⟩)) rfl <| VO.lg rfl rfl (GD.f _) (fun hg => LO.eq (.g hg rfl) (.r rfl)) rfl <| VO.lg rfl rfl (GD.f _) (fun hg => LO.mv (.g hg rfl)) rfl <| VO.lg rfl rfl (GD.nt _ _) (fun hg => LO.mv (.r rfl)) rfl <| VO.lg rfl rfl (GD.nt _ _) (fun hg => LO.not (.g hg rfl)) rfl <| VO.lg rfl rfl (GD.f _) (fun hg => LO.pkA (.g hg rfl) rfl (and_e hg) (.r rfl)) rfl <| VO.l (LO.pkO (.r rfl) (.r rfl) rfl rfl) rfl <| VO.l (LO.mv (.r rfl)) rfl <| VO.lg rfl rfl (GD.f _) (fun hg => LO.mv (.r rfl)) rfl <| VO.lg rfl rfl (GD.f _) (fun hg => LO.mv (.g hg rfl)) rfl <| VO.lg rfl rfl (GD.nt _ _) (fun hg => LO.mv (.r rfl)) rfl <| VO.lg rfl rfl (GD.nt _ _) (fun hg => LO.not (.g hg rfl)) rfl <| VO.lg rfl rfl (GD.f _) (fun hg => LO.pkA (.g hg rfl) rfl (and_e hg) (.r rfl)) rfl <| VO.l (LO.pkO (.r rfl) (.r rfl) rfl rfl) rfl <| VO.nil ?_)
            refine VE.seqN ?_
            refine VC.weak (env' := [(4, _), (7, _), (10, _), (11, _), (13, _), (15, _), (16, _), (17, _), (18, _), (19, _), (22, _), (197, _)]) (.cons rfl (.cons rfl (.cons rfl (.cons rfl (.cons rfl (.cons rfl (.cons rfl (.cons rfl (.cons rfl (.cons rfl (.cons rfl (.cons rfl .nil)))))))))))) (fun _ h => h) ?_
            refine VC.cond rfl (fun h7 => ?_) (fun h7 => ?_)
            ·
              (exfalso; (first | exact tru_out hcl0 hgr8 hld.1 hpx hpy (by omega) (by omega) (by omega) hI.1 hlts (by omega) (by omega) h7 | exact tru_in hcl0 hgr8 hld.1 hpx hpy (by omega) (by omega) (by omega) hI.1 hlts (by omega) (by omega) h7))
            ·
              refine VC.skip (VE.seqN ?_)
              refine VC.seq ?_
              refine VC.reg (VO.l (LO.call (xs := [_]) (vs := [_]) C30 ⟨(.r rfl), trivial⟩ (fun w _ => point_c _ w)) rfl <| VO.h rfl <| HO.alloc (C := #[_, _]) Z30 rfl fun b17 => VO.h0 <| HO.st 0 (vs := [_, _]) (C' := [_, _]) (L' := [_, _, _, _, _, _, _, _, _, _, _, _]) N30 rfl rfl rfl rfl rfl rfl rfl rfl <| VO.nil ?_)
              refine VE.seqN ?_
              refine VC.seq ?_
              refine VC.seq ?_
              refine VC.reg (VO.l (LO.mv (.r rfl)) rfl <| VO.nil ?_)
              refine VE.seqN ?_
              refine VC.cond rfl (fun h8 => ?_) (fun h8 => ?_)
              ·
                refine VC.reg (VO.l (LO.call (xs := [_]) (vs := [_]) C30 ⟨(.r rfl), trivial⟩ (fun w _ => point_c _ w)) rfl <| VO.h0 <| HO.st 0 (vs := [_, _]) (C' := [_, _]) (L' := [_, _, _, _, _, _, _, _, _, _, _, _]) N30 rfl rfl rfl rfl rfl rfl rfl rfl <| VO.nil ?_)
                refine VE.seqN ?_
                refine VC.reg (VO.l (LO.fa (r := 5) F70_1 (.r rfl) rfl) rfl <| VO.l (LO.ld O68 (.r rfl) (fun _ hw => cells_at hw 1 rfl ⟨_, rfl⟩)) rfl <| VO.l (LO.lda (vs := [_, _]) A30 (.r rfl) (fun _ hw => cells_at hw 0 rfl ⟨_, rfl⟩) rfl) rfl <| VO.h rfl <| HO.bs (ps := [(_, _)]) (vs := [(_, _)]) (Z := [_, _]) (C := [_, _]) S68 Z30 N30 ⟨(.r rfl), trivial⟩ rfl rfl rfl rfl ⟨_, [_, _], [_, _], rfl, rfl, rfl, rfl, rfl⟩ fun b20 => VO.h rfl <| HO.appT (⟨5, 5⟩) 3 0 (fun R => [_, _, _, R, _, _, _, _, _, _, _, _, _]) S68 S68 I30 (.r rfl) (.r rfl) rfl rfl rfl rfl rfl rfl rfl (fun _ => rfl) rfl (by omega) fun p4 c4 => VO.l (LO.fa (r := 5) F70_1 (.r rfl) rfl) rfl <| VO.h0 <| HO.st 2 (vs := [_]) (C' := [_, _, _, _, _, _]) (L' := [_, _, _, _, _, _, _, _, _, _, _, _, _]) N68 rfl rfl rfl rfl rfl rfl rfl rfl <| VO.nil ?_)
                refine VE.inN (VE.seqN ?_)
                refine VC.reg (VO.l (LO.mv (.r rfl)) rfl <| VO.l (LO.add (.r rfl) (.r rfl) (wi (by omega) (by omega))) rfl <| VO.l (LO.as (.r rfl)) rfl <| VO.nil ?_)
                refine VE.thenN fun a w ha hw => ⟨(k + 1, vf ++ [Span.mk 5 5], _, _), (by first | exact ⟨by dsimp only; omega, v_step hV h7 h8⟩ | exact ⟨by dsimp only; omega, v_step0 hV h7 h8⟩), (by dsimp only; omega), ha.sub (.cons rfl (.cons rfl (.cons rfl (.cons rfl (.cons rfl (.cons rfl (.cons rfl (.cons rfl (.cons rfl (.cons rfl .nil)))))))))), hw.sel [2, 3, 4, 5, 6, 7, 8, 9, 10, 11, 12] rfl⟩
              ·
                refine VC.skip (VE.seqN ?_)
                refine VC.reg (VO.l (LO.fa (r := 5) F70_1 (.r rfl) rfl) rfl <| VO.l (LO.ld O68 (.r rfl) (fun _ hw => cells_at hw 1 rfl ⟨_, rfl⟩)) rfl <| VO.l (LO.lda (vs := [_, _]) A30 (.r rfl) (fun _ hw => cells_at hw 0 rfl ⟨_, rfl⟩) rfl) rfl <| VO.h rfl <| HO.bs (ps := [(_, _)]) (vs := [(_, _)]) (Z := [_, _]) (C := [_, _]) S68 Z30 N30 ⟨(.r rfl), trivial⟩ rfl rfl rfl rfl ⟨_, [_, _], [_, _], rfl, rfl, rfl, rfl, rfl⟩ fun b22 => VO.h rfl <| HO.appT (⟨0, 0⟩) 3 0 (fun R => [_, _, _, R, _, _, _, _, _, _, _, _, _]) S68 S68 I30 (.r rfl) (.r rfl) rfl rfl rfl rfl rfl rfl rfl (fun _ => rfl) rfl (by omega) fun p4 c4 => VO.l (LO.fa (r := 5) F70_1 (.r rfl) rfl) rfl <| VO.h0 <| HO.st 2 (vs := [_]) (C' := [_, _, _, _, _, _]) (L' := [_, _, _, _, _, _, _, _, _, _, _, _, _]) N68 rfl rfl rfl rfl rfl rfl rfl rfl <| VO.nil ?_)
                refine VE.inN (VE.seqN ?_)
                refine VC.reg (VO.l (LO.mv (.r rfl)) rfl <| VO.l (LO.add (.r rfl) (.r rfl) (wi (by omega) (by omega))) rfl <| VO.l (LO.as (.r rfl)) rfl <| VO.nil ?_)
                refine VE.thenN fun a w ha hw => ⟨(k + 1, vf ++ [Span.mk 0 0], _, _), (by first | exact ⟨by dsimp only; omega, v_step hV h7 h8⟩ | exact ⟨by dsimp only; omega, v_step0 hV h7 h8⟩), (by dsimp only; omega), ha.sub (.cons rfl (.cons rfl (.cons rfl (.cons rfl (.cons rfl (.cons rfl (.cons rfl (.cons rfl (.cons rfl (.cons rfl .nil)))))))))), hw.sel [2, 3, 4, 5, 6, 7, 8, 9, 10, 11, 12] rfl⟩
          ·
            refine VC.skip (VE.seqN ?_)
            refine VC.seq ?_
            refine VC.seq ?_
            refine VC.reg (VO.l (LO.mv (.r rfl)) rfl <| VO.l (LO.mv (.r rfl)) rfl <| VO.l (LO.ixo S28 N3 (fun _ hw => (own_rows hw 3 rfl).some (by simp)) (.r rfl) (.r rfl) rfl hk1) rfl <| VO.l (LO.ld O3 (.r rfl) (fun w hw => cells_part (off := 0) (own_cell hw 3 rfl hq1) ⟨_, rfl⟩)) rfl <| VO.l (LO.eq (.r rfl) (.r rfl)) rfl <| VO.l (LO.mv (.r rfl)) rfl <| VO.lg rfl rfl (GD.t _) (fun hg => LO.mv (.r rfl)) rfl <| VO.l (LO.pkA (.r rfl) rfl rfl (.r rfl)) rfl <| VO.l (LO.mv (.r rfl)) rfl <| VO.lg rfl rfl (GD.f _) (fun hg => LO.mv (.r rfl)) rfl <| VO.lg rfl rfl (GD.f _) (fun hg => LO.mv (.r rfl)) rfl <| VO.lg rfl rfl (GD.f _) (fun hg => LO.ixo S28 N3 (fun _ hw => (own_rows hw 3 rfl).some (by simp)) (.g hg rfl) (.g hg rfl) rfl hk1) rfl <| VO.lg rfl rfl (GD.f _) (fun hg => LO.ld O3 (.g hg rfl) (fun w hw => cells_part (off := 0) (own_cell hw 3 rfl hq1) ⟨_, rfl⟩)) rfl <| VO.lg rfl rfl (GD.f _) (fun hg => LO.eq (.g hg rfl) (.r rfl)) rfl <| VO.lg rfl rfl (GD.f _) (fun hg => LO.mv (.g hg rfl)) rfl <| VO.lg rfl rfl (GD.nt _ _) (fun hg => LO.mv (.r rfl)) rfl <| VO.lg rfl rfl (GD.nt _ _) (fun hg => LO.not (.g hg rfl)) rfl <| VO.lg rfl rfl (GD.f _) (fun hg => LO.pkA (.g hg rfl) rfl (and_e hg) (.r rfl)) rfl <| VO.l (LO.pkO (.r rfl) (.r rfl) rfl rfl) rfl <| VO.l (LO.mv (.r rfl)) rfl <| VO.lg rfl rfl (GD.f _) (fun hg => LO.mv (.r rfl)) rfl <| VO.lg rfl rfl (GD.f _) (fun hg => LO.mv (.g hg rfl)) rfl <| VO.lg rfl rfl (GD.nt _ _) (fun hg => LO.mv (.r rfl)) rfl <| VO.lg rfl rfl (GD.nt _ _) (fun hg => LO.not (.g hg rfl)) rfl <| VO.lg rfl rfl (GD.f _) (fun hg => LO.pkA (.g hg rfl) rfl (and_e hg) (.r rfl)) rfl <| VO.l (LO.pkO (.r rfl) (.r rfl) rfl rfl) rfl <| VO.nil ?_)
            refine VE.seqN ?_
            refine VC.weak (env' := [(4, _), (7, _), (10, _), (11, _), (13, _), (15, _), (16, _), (17, _), (18, _), (19, _), (22, _), (197, _)]) (.cons rfl (.cons rfl (.cons rfl (.cons rfl (.cons rfl (.cons rfl (.cons rfl (.cons rfl (.cons rfl (.cons rfl (.cons rfl (.cons rfl .nil)))))))))))) (fun _ h => h) ?_
            refine VC.cond rfl (fun h7 => ?_) (fun h7 => ?_)
            ·
              (exfalso; (first | exact tru_out hcl0 hgr8 hld.1 hpx hpy (by omega) (by omega) (by omega) hI.1 hlts (by omega) (by omega) h7 | exact tru_in hcl0 hgr8 hld.1 hpx hpy (by omega) (by omega) (by omega) hI.1 hlts (by omega) (by omega) h7))
            ·
              refine VC.skip (VE.seqN ?_)
              refine VC.seq ?_
              refine VC.reg (VO.l (LO.call (xs := [_]) (vs := [_]) C30 ⟨(.r rfl), trivial⟩ (fun w _ => point_c _ w)) rfl <| VO.h rfl <| HO.alloc (C := #[_, _]) Z30 rfl fun b24 => VO.h0 <| HO.st 0 (vs := [_, _]) (C' := [_, _]) (L' := [_, _, _, _, _, _, _, _, _, _, _, _]) N30 rfl rfl rfl rfl rfl rfl rfl rfl <| VO.nil ?_)
              refine VE.seqN ?_
              refine VC.seq ?_
              refine VC.seq ?_
              refine VC.reg (VO.l (LO.mv (.r rfl)) rfl <| VO.nil ?_)
              refine VE.seqN ?_
              refine VC.cond rfl (fun h8 => ?_) (fun h8 => ?_)
              ·
                refine VC.reg (VO.l (LO.call (xs := [_]) (vs := [_]) C30 ⟨(.r rfl), trivial⟩ (fun w _ => point_c _ w)) rfl <| VO.h0 <| HO.st 0 (vs := [_, _]) (C' := [_, _]) (L' := [_, _, _, _, _, _, _, _, _, _, _, _]) N30 rfl rfl rfl rfl rfl rfl rfl rfl <| VO.nil ?_)
                refine VE.seqN ?_
                refine VC.reg (VO.l (LO.fa (r := 5) F70_1 (.r rfl) rfl) rfl <| VO.l (LO.ld O68 (.r rfl) (fun _ hw => cells_at hw 1 rfl ⟨_, rfl⟩)) rfl <| VO.l (LO.lda (vs := [_, _]) A30 (.r rfl) (fun _ hw => cells_at hw 0 rfl ⟨_, rfl⟩) rfl) rfl <| VO.h rfl <| HO.bs (ps := [(_, _)]) (vs := [(_, _)]) (Z := [_, _]) (C := [_, _]) S68 Z30 N30 ⟨(.r rfl), trivial⟩ rfl rfl rfl rfl ⟨_, [_, _], [_, _], rfl, rfl, rfl, rfl, rfl⟩ fun b27 => VO.h rfl <| HO.appT (⟨5, 5⟩) 3 0 (fun R => [_, _, _, R, _, _, _, _, _, _, _, _, _]) S68 S68 I30 (.r rfl) (.r rfl) rfl rfl rfl rfl rfl rfl rfl (fun _ => rfl) rfl (by omega) fun p4 c4 => VO.l (LO.fa (r := 5) F70_1 (.r rfl) rfl) rfl <| VO.h0 <| HO.st 2 (vs := [_]) (C' := [_, _, _, _, _, _]) (L' := [_, _, _, _, _, _, _, _, _, _, _, _, _]) N68 rfl rfl rfl rfl rfl rfl rfl rfl <| VO.nil ?_)
                refine VE.inN (VE.seqN ?_)
                refine VC.reg (VO.l (LO.mv (.r rfl)) rfl <| VO.l (LO.add (.r rfl) (.r rfl) (wi (by omega) (by omega))) rfl <| VO.l (LO.as (.r rfl)) rfl <| VO.nil ?_)
                refine VE.thenN fun a w ha hw => ⟨(k + 1, vf ++ [Span.mk 5 5], _, _), (by first | exact ⟨by dsimp only; omega, v_step hV h7 h8⟩ | exact ⟨by dsimp only; omega, v_step0 hV h7 h8⟩), (by dsimp only; omega), ha.sub (.cons rfl (.cons rfl (.cons rfl (.cons rfl (.cons rfl (.cons rfl (.cons rfl (.cons rfl (.cons rfl (.cons rfl .nil)))))))))), hw.sel [2, 3, 4, 5, 6, 7, 8, 9, 10, 11, 12] rfl⟩
              ·
                refine VC.skip (VE.seqN ?_)
                refine VC.reg (VO.l (LO.fa (r := 5) F70_1 (.r rfl) rfl) rfl <| VO.l (LO.ld O68 (.r rfl) (fun _ hw => cells_at hw 1 rfl ⟨_, rfl⟩)) rfl <| VO.l (LO.lda (vs := [_, _]) A30 (.r rfl) (fun _ hw => cells_at hw 0 rfl ⟨_, rfl⟩) rfl) rfl <| VO.h rfl <| HO.bs (ps := [(_, _)]) (vs := [(_, _)]) (Z := [_, _]) (C := [_, _]) S68 Z30 N30 ⟨(.r rfl), trivial⟩ rfl rfl rfl rfl ⟨_, [_, _], [_, _], rfl, rfl, rfl, rfl, rfl⟩ fun b29 => VO.h rfl <| HO.appT (⟨0, 0⟩) 3 0 (fun R => [_, _, _, R, _, _, _, _, _, _, _, _, _]) S68 S68 I30 (.r rfl) (.r rfl) rfl rfl rfl rfl rfl rfl rfl (fun _ => rfl) rfl (by omega) fun p4 c4 => VO.l (LO.fa (r := 5) F70_1 (.r rfl) rfl) rfl <| VO.h0 <| HO.st 2 (vs := [_]) (C' := [_, _, _, _, _, _]) (L' := [_, _, _, _, _, _, _, _, _, _, _, _, _]) N68 rfl rfl rfl rfl rfl rfl rfl rfl <| VO.nil ?_)
                refine VE.inN (VE.seqN ?_)
                refine VC.reg (VO.l (LO.mv (.r rfl)) rfl <| VO.l (LO.add (.r rfl) (.r rfl) (wi (by omega) (by omega))) rfl <| VO.l (LO.as (.r rfl)) rfl <| VO.nil ?_)
                refine VE.thenN fun a w ha hw => ⟨(k + 1, vf ++ [Span.mk 0 0], _, _), (by first | exact ⟨by dsimp only; omega, v_step hV h7 h8⟩ | exact ⟨by dsimp only; omega, v_step0 hV h7 h8⟩), (by dsimp only; omega), ha.sub (.cons rfl (.cons rfl (.cons rfl (.cons rfl (.cons rfl (.cons rfl (.cons rfl (.cons rfl (.cons rfl (.cons rfl .nil)))))))))), hw.sel [2, 3, 4, 5, 6, 7, 8, 9, 10, 11, 12] rfl⟩
        ·
          have hz := tru_end hE hV (by omega) hgr8 (by omega)
          refine VC.exit (VE.thenX (VE.thenX (VE.inX (VE.seqN ?_))))
          refine VC.seq ?_
          refine VC.reg (VO.l (LO.mv (.r rfl)) rfl <| VO.l (LO.lda (vs := [_, _, _, _, _, _]) A70 (.r rfl) (fun _ hw => cells_at hw 0 rfl ⟨_, rfl⟩) rfl) rfl <| VO.h rfl <| HO.callx (xs := [_, _, _]) (vs := [_, _, _]) C25 ⟨(.r rfl), (.r rfl), (.r rfl), trivial⟩ (fun w hw => Held_c _ y.1 y.2 ⟨dG d, vf⟩ _ _ 5 w (own_rows hw 3 rfl) (own_rows hw 1 rfl)) fun z _ => VO.h rfl <| HO.lo (LO.mv (.r rfl)) <| VO.h rfl <| HO.lo (LO.ex (.r rfl) rfl) <| VO.h rfl <| HO.lo (LO.ex (.r rfl) rfl) <| VO.h rfl <| HO.lo (LO.as (.r rfl)) <| VO.h rfl <| HO.lo (LO.as (.r rfl)) <| VO.nil ?_)
          refine VE.seqN ?_
          refine VC.seq ?_
          refine VC.reg (VO.l (LO.mv (.r rfl)) rfl <| VO.l (LO.len S28 (.r rfl) rfl) rfl <| VO.l (LO.eq (.r rfl) (.r rfl)) rfl <| VO.l (LO.mv (.r rfl)) rfl <| VO.lg rfl rfl (GD.t _) (fun hg => LO.mv (.r rfl)) rfl <| VO.lg rfl rfl (GD.t _) (fun hg => LO.eq (.g hg rfl) (.r rfl)) rfl <| VO.l (LO.pkA (.r rfl) rfl rfl (.r rfl)) rfl <| VO.l (LO.mv (.r rfl)) rfl <| VO.lg rfl rfl (GD.t _) (fun hg => LO.call (xs := []) (vs := []) C14 trivial (fun w _ => works_c w)) rfl <| VO.l (LO.pkA (.r rfl) rfl rfl (.r rfl)) rfl <| VO.l (LO.as (.r rfl)) rfl <| VO.nil ?_)
          refine VE.seqN ?_
          refine VC.ret (VE.res (vs := [_]) rfl ⟨rfl, trivial⟩ (fun w hw => ?_))
          first | exact ⟨rfl, hw.nil⟩ | exact ⟨by simp [resV]; exact hz, hw.nil⟩

end Go.Proofs.Ytdcjeoamhjplmaa
