/-
  The document's state of a pixel.
-/
import Derived.Test.YtdcjeoamhjplmaaWA
namespace Go.Proofs.Ytdcjeoamhjplmaa
open Go.SL Go.Proofs Go.Cast
set_option linter.unusedVariables false

theorem C85 : IsFn Try.prog 85 := ⟨_, Try.func85, by decide, rfl⟩


def leadB (b lo hi grow t : Int) : Bool := decide ((lo - grow) * t - 1000000 < b * 1000000) && decide (b * 1000000 < (hi + grow) * t + 1000000)
def far (t : Int) : Int := 110000 * t / 1000000 + 2
theorem far_bd {t : Int} (h1 : 0 ≤ t) (h2 : t ≤ 7200) : 2 ≤ far t ∧ far t ≤ 1000 := by unfold far; omega
theorem lead_iff {b lo hi grow t : Int} : leadB b lo hi grow t = true ↔ comeLo lo grow t ≤ b ∧ b ≤ comeHi hi grow t := by
  unfold leadB comeLo comeHi
  simp only [Bool.and_eq_true, decide_eq_true_eq]
  generalize (lo - grow) * t = x
  generalize (hi + grow) * t = y
  omega
def inG (g : Grid) (x y : Int) : Bool := (decide (0 ≤ x) && decide (x ≤ g.wide - 1)) && (decide (0 ≤ y) && decide (y ≤ g.high - 1))
def okA (g : Grid) (c : Cloud) (p v u : Int) : Bool := inG g (p.tmod g.wide - u) (p.tdiv g.wide - v) && memB c.sure ((p.tdiv g.wide - v) * g.wide + (p.tmod g.wide - u))
def okM (g : Grid) (c : Cloud) (p v u : Int) : Bool := inG g (p.tmod g.wide - u) (p.tdiv g.wide - v) && memB c.may ((p.tdiv g.wide - v) * g.wide + (p.tmod g.wide - u))
def ldX (c : Cloud) (t u : Int) : Bool := leadB u c.flow.a c.flow.b c.grow t
def ldY (c : Cloud) (t v : Int) : Bool := leadB v c.flow.c c.flow.d c.grow t
def allRow (g : Grid) (c : Cloud) (p t v u1 : Int) : Prop := ∀ u, -far t ≤ u → u < u1 → leadB u c.flow.a c.flow.b c.grow t = true → okA g c p v u = true
def anyRow (g : Grid) (c : Cloud) (p t v u1 : Int) : Prop := ∃ u, -far t ≤ u ∧ u < u1 ∧ leadB u c.flow.a c.flow.b c.grow t = true ∧ okM g c p v u = true
def allTo (g : Grid) (c : Cloud) (p t v1 : Int) : Prop := ∀ v, -far t ≤ v → v < v1 → leadB v c.flow.c c.flow.d c.grow t = true → allRow g c p t v (far t + 1)
def anyTo (g : Grid) (c : Cloud) (p t v1 : Int) : Prop := ∃ v, -far t ≤ v ∧ v < v1 ∧ leadB v c.flow.c c.flow.d c.grow t = true ∧ anyRow g c p t v (far t + 1)
def StI (a : Bool) (m : Int) (A M : Prop) : Prop := (a = true ↔ A) ∧ ((m = 1 ∧ M) ∨ (m = 0 ∧ ¬ M))
theorem StI.cg {a : Bool} {m : Int} {A M A' M' : Prop} (h : StI a m A M) (hA : A ↔ A') (hM : M ↔ M') : StI a m A' M' := by
  have e1 : A = A' := propext hA
  have e2 : M = M' := propext hM
  rw [← e1, ← e2]; exact h
section
variable {g : Grid} {c : Cloud} {p t v u : Int} {a b a' : Bool} {m n m' : Int}
theorem to_zero : StI true 0 (allTo g c p t (-far t)) (anyTo g c p t (-far t)) :=
  ⟨⟨fun _ v h1 h2 => by omega, fun _ => rfl⟩, .inr ⟨rfl, fun ⟨v, h1, h2, _⟩ => by omega⟩⟩
theorem to_skip (hv : -far t ≤ v) (h : leadB v c.flow.c c.flow.d c.grow t = false) (hI : StI a m (allTo g c p t v) (anyTo g c p t v)) : StI a m (allTo g c p t (v + 1)) (anyTo g c p t (v + 1)) := by
  refine hI.cg ⟨fun k w h1 h2 h3 => ?_, fun k w h1 h2 h3 => k w h1 (by omega) h3⟩ ⟨fun ⟨w, h1, h2, h3⟩ => ⟨w, h1, by omega, h3⟩, fun ⟨w, h1, h2, h3, h4⟩ => ?_⟩
  · rcases Int.lt_or_eq_of_le (show w ≤ v by omega) with e | e
    · exact k w h1 e h3
    · subst e; rw [h] at h3; cases h3
  · rcases Int.lt_or_eq_of_le (show w ≤ v by omega) with e | e
    · exact ⟨w, h1, e, h3, h4⟩
    · subst e; rw [h] at h3; cases h3
theorem to_next (hv : -far t ≤ v) (h : leadB v c.flow.c c.flow.d c.grow t = true) (hu : u = far t + 1) (hI : StI a m (allTo g c p t v ∧ allRow g c p t v u) (anyTo g c p t v ∨ anyRow g c p t v u)) : StI a m (allTo g c p t (v + 1)) (anyTo g c p t (v + 1)) := by
  subst hu
  refine hI.cg ⟨fun k w h1 h2 h3 => ?_, fun k => ⟨fun w h1 h2 h3 => k w h1 (by omega) h3, k v hv (by omega) h⟩⟩ ⟨?_, fun ⟨w, h1, h2, h3, h4⟩ => ?_⟩
  · rcases Int.lt_or_eq_of_le (show w ≤ v by omega) with e | e
    · exact k.1 w h1 e h3
    · subst e; exact k.2
  · rintro (⟨w, h1, h2, h3⟩ | k)
    · exact ⟨w, h1, by omega, h3⟩
    · exact ⟨v, hv, by omega, h, k⟩
  · rcases Int.lt_or_eq_of_le (show w ≤ v by omega) with e | e
    · exact .inl ⟨w, h1, e, h3, h4⟩
    · subst e; exact .inr h4
theorem row_zero (hI : StI a m (allTo g c p t v) (anyTo g c p t v)) : StI a m (allTo g c p t v ∧ allRow g c p t v (-far t)) (anyTo g c p t v ∨ anyRow g c p t v (-far t)) :=
  hI.cg ⟨fun k => ⟨k, fun u h1 h2 => by omega⟩, fun k => k.1⟩ ⟨.inl, fun k => k.elim id fun ⟨u, h1, h2, _⟩ => by omega⟩
theorem row_step (hu : -far t ≤ u) (hI : StI b n (allTo g c p t v ∧ allRow g c p t v u) (anyTo g c p t v ∨ anyRow g c p t v u)) (ha : a' = (b && (!leadB u c.flow.a c.flow.b c.grow t || okA g c p v u))) (hm : m' = if leadB u c.flow.a c.flow.b c.grow t && okM g c p v u then 1 else n) :
    StI a' m' (allTo g c p t v ∧ allRow g c p t v (u + 1)) (anyTo g c p t v ∨ anyRow g c p t v (u + 1)) := by
  have e1 : allRow g c p t v (u + 1) ↔ allRow g c p t v u ∧ (leadB u c.flow.a c.flow.b c.grow t = true → okA g c p v u = true) := by
    refine ⟨fun k => ⟨fun w h1 h2 => k w h1 (by omega), k u hu (by omega)⟩, fun k w h1 h2 h3 => ?_⟩
    rcases Int.lt_or_eq_of_le (show w ≤ u by omega) with e | e
    · exact k.1 w h1 e h3
    · subst e; exact k.2 h3
  have e2 : anyRow g c p t v (u + 1) ↔ anyRow g c p t v u ∨ (leadB u c.flow.a c.flow.b c.grow t = true ∧ okM g c p v u = true) := by
    refine ⟨fun ⟨w, h1, h2, h3⟩ => ?_, fun k => k.elim (fun ⟨w, h1, h2, h3⟩ => ⟨w, h1, by omega, h3⟩) fun k => ⟨u, hu, by omega, k⟩⟩
    rcases Int.lt_or_eq_of_le (show w ≤ u by omega) with e | e
    · exact .inl ⟨w, h1, e, h3⟩
    · subst e; exact .inr h3
  obtain ⟨i1, i2⟩ := hI
  subst ha; subst hm
  constructor
  · rw [e1, ← and_assoc, ← i1]
    cases b <;> cases leadB u c.flow.a c.flow.b c.grow t <;> cases okA g c p v u <;> simp
  · rw [e2, ← or_assoc]
    by_cases q : (leadB u c.flow.a c.flow.b c.grow t && okM g c p v u) = true
    · rw [if_pos q]; exact .inl ⟨rfl, .inr (by simpa using q)⟩
    · rw [if_neg q]
      have q' : ¬ (leadB u c.flow.a c.flow.b c.grow t = true ∧ okM g c p v u = true) := by simpa using q
      rcases i2 with ⟨h1, h2⟩ | ⟨h1, h2⟩
      · exact .inl ⟨h1, .inl h2⟩
      · exact .inr ⟨h1, fun k => k.elim h2 q'⟩
theorem inG_of {x y : Int} (h : ¬ (¬ (0 ≤ x ∧ x ≤ g.wide - 1) ∨ ¬ (0 ≤ y ∧ y ≤ g.high - 1))) : (0 ≤ x ∧ x ≤ g.wide - 1) ∧ (0 ≤ y ∧ y ≤ g.high - 1) := by omega
theorem inG_no {x y : Int} (h : ¬ (0 ≤ x ∧ x ≤ g.wide - 1) ∨ ¬ (0 ≤ y ∧ y ≤ g.high - 1)) : inG g x y = false := by
  cases q : inG g x y with
  | false => rfl
  | true => unfold inG at q; simp only [Bool.and_eq_true, decide_eq_true_eq] at q; omega
theorem inG_yes {x y : Int} (h : ¬ (¬ (0 ≤ x ∧ x ≤ g.wide - 1) ∨ ¬ (0 ≤ y ∧ y ≤ g.high - 1))) : inG g x y = true := by
  unfold inG; simp only [Bool.and_eq_true, decide_eq_true_eq]; omega
theorem mem_srcs {q : Int} : q ∈ srcs g c p t ↔ (sout g c p t = true ∧ q = -1) ∨ ∃ x y, (sx0 g c p t ≤ x ∧ x ≤ sx1 g c p t) ∧ (sy0 g c p t ≤ y ∧ y ≤ sy1 g c p t) ∧ q = y * g.wide + x := by
  unfold srcs
  rw [List.mem_append, List.mem_map]
  refine or_congr (by cases sout g c p t <;> simp) ⟨?_, ?_⟩
  · rintro ⟨k, hk, rfl⟩
    rw [List.mem_range] at hk
    have hx : 0 < snx g c p t := by
      rcases Nat.eq_zero_or_pos (snx g c p t) with e | e
      · rw [e] at hk; omega
      · exact e
    have h1 := Nat.mod_lt k hx
    have h2 : k / snx g c p t < sny g c p t := Nat.div_lt_of_lt_mul (by rw [Nat.mul_comm]; exact hk)
    generalize k / snx g c p t = z at h2 ⊢
    generalize k % snx g c p t = y at h1 ⊢
    unfold snx at h1
    unfold sny at h2
    exact ⟨_, _, ⟨by omega, by omega⟩, ⟨by omega, by omega⟩, rfl⟩
  · rintro ⟨x, y, hx, hy, rfl⟩
    have h1 : (x - sx0 g c p t).toNat < snx g c p t := by unfold snx; omega
    have h2 : (y - sy0 g c p t).toNat < sny g c p t := by unfold sny; omega
    refine ⟨(y - sy0 g c p t).toNat * snx g c p t + (x - sx0 g c p t).toNat, ?_, ?_⟩
    · rw [List.mem_range]
      have : ((y - sy0 g c p t).toNat + 1) * snx g c p t ≤ sny g c p t * snx g c p t := Nat.mul_le_mul_right _ h2
      rw [Nat.add_mul] at this; omega
    · rw [Nat.mul_comm, Nat.mul_add_div (by omega), Nat.div_eq_of_lt h1, Nat.mul_add_mod, Nat.mod_eq_of_lt h1]
      have e1 : sy0 g c p t + (((y - sy0 g c p t).toNat + 0 : Nat) : Int) = y := by omega
      have e2 : sx0 g c p t + ((x - sx0 g c p t).toNat : Int) = x := by omega
      rw [e1, e2]
theorem come_far {f : Int} (h1 : -100000 ≤ f) (h2 : f ≤ 100000) (hr1 : 0 ≤ c.grow) (hr2 : c.grow ≤ 10000) (ht : 0 ≤ t) : -far t ≤ comeLo f c.grow t ∧ comeHi f c.grow t ≤ far t := by
  have a1 : -110000 * t ≤ (f - c.grow) * t := Int.mul_le_mul_of_nonneg_right (by omega) ht
  have a2 : (f + c.grow) * t ≤ 110000 * t := Int.mul_le_mul_of_nonneg_right (by omega) ht
  unfold far comeLo comeHi; omega
theorem come_le {lo hi : Int} (h : lo ≤ hi) (hr1 : 0 ≤ c.grow) (ht : 0 ≤ t) : comeLo lo c.grow t ≤ comeHi hi c.grow t := by
  have a1 : (lo - c.grow) * t ≤ (hi + c.grow) * t := Int.mul_le_mul_of_nonneg_right (by omega) ht
  unfold comeLo comeHi; omega
theorem all_iff (hf : flowOk c.flow) (hr1 : 0 ≤ c.grow) (hr2 : c.grow ≤ 10000) (ht : 0 ≤ t) (hs1 : memB c.sure (-1) = false) : allTo g c p t (far t + 1) ↔ (srcs g c p t).all (memB c.sure) = true := by
  obtain ⟨⟨hfa, hfb, hfc⟩, hfd, hfe, hff⟩ := hf
  have b1 := come_far (f := c.flow.a) (c := c) (by omega) (by omega) hr1 hr2 ht
  have b2 := come_far (f := c.flow.b) (c := c) (by omega) (by omega) hr1 hr2 ht
  have b3 := come_far (f := c.flow.c) (c := c) (by omega) (by omega) hr1 hr2 ht
  have b4 := come_far (f := c.flow.d) (c := c) (by omega) (by omega) hr1 hr2 ht
  have l1 := come_le (c := c) hfb hr1 ht
  have l2 := come_le (c := c) hfe hr1 ht
  rw [List.all_eq_true]
  constructor
  · intro k q hq
    have k' : ∀ v u, comeLo c.flow.c c.grow t ≤ v → v ≤ comeHi c.flow.d c.grow t → comeLo c.flow.a c.grow t ≤ u → u ≤ comeHi c.flow.b c.grow t → okA g c p v u = true := fun v u h1 h2 h3 h4 => k v (by omega) (by omega) (lead_iff.2 ⟨h1, h2⟩) u (by omega) (by omega) (lead_iff.2 ⟨h3, h4⟩)
    rcases mem_srcs.1 hq with ⟨ho, rfl⟩ | ⟨x, y, hx, hy, rfl⟩
    · exfalso
      have q1 := k' (comeLo c.flow.c c.grow t) (comeLo c.flow.a c.grow t) (by omega) (by omega) (by omega) (by omega)
      have q2 := k' (comeHi c.flow.d c.grow t) (comeHi c.flow.b c.grow t) (by omega) (by omega) (by omega) (by omega)
      unfold okA inG at q1 q2
      unfold sout at ho
      simp only [Bool.and_eq_true, Bool.or_eq_true, decide_eq_true_eq] at q1 q2 ho
      omega
    · have := k' (p.tdiv g.wide - y) (p.tmod g.wide - x) (by unfold sy1 at hy; omega) (by unfold sy0 at hy; omega) (by unfold sx1 at hx; omega) (by unfold sx0 at hx; omega)
      unfold okA at this
      rw [Bool.and_eq_true, show p.tdiv g.wide - (p.tdiv g.wide - y) = y by omega, show p.tmod g.wide - (p.tmod g.wide - x) = x by omega] at this
      exact this.2
  · intro k v h1 h2 h3 u h4 h5 h6
    have h3 := lead_iff.1 h3
    have h6 := lead_iff.1 h6
    have ho : sout g c p t = false := by
      cases hq : sout g c p t with
      | false => rfl
      | true => have := k (-1) (mem_srcs.2 (.inl ⟨hq, rfl⟩)); rw [hs1] at this; cases this
    unfold sout at ho
    simp only [Bool.or_eq_false_iff, decide_eq_false_iff_not] at ho
    have := k _ (mem_srcs.2 (.inr ⟨p.tmod g.wide - u, p.tdiv g.wide - v, by unfold sx0 sx1; omega, by unfold sy0 sy1; omega, rfl⟩))
    unfold okA inG
    rw [this]
    simp only [Bool.and_eq_true, decide_eq_true_eq, and_true]
    omega
theorem any_iff (hf : flowOk c.flow) (hr1 : 0 ≤ c.grow) (hr2 : c.grow ≤ 10000) (ht : 0 ≤ t) (hm1 : memB c.may (-1) = false) : anyTo g c p t (far t + 1) ↔ (srcs g c p t).any (memB c.may) = true := by
  obtain ⟨⟨hfa, hfb, hfc⟩, hfd, hfe, hff⟩ := hf
  have b1 := come_far (f := c.flow.a) (c := c) (by omega) (by omega) hr1 hr2 ht
  have b2 := come_far (f := c.flow.b) (c := c) (by omega) (by omega) hr1 hr2 ht
  have b3 := come_far (f := c.flow.c) (c := c) (by omega) (by omega) hr1 hr2 ht
  have b4 := come_far (f := c.flow.d) (c := c) (by omega) (by omega) hr1 hr2 ht
  rw [List.any_eq_true]
  constructor
  · rintro ⟨v, h1, h2, h3, u, h4, h5, h6, h7⟩
    have h3 := lead_iff.1 h3
    have h6 := lead_iff.1 h6
    unfold okM inG at h7
    simp only [Bool.and_eq_true, decide_eq_true_eq] at h7
    exact ⟨_, mem_srcs.2 (.inr ⟨p.tmod g.wide - u, p.tdiv g.wide - v, by unfold sx0 sx1; omega, by unfold sy0 sy1; omega, rfl⟩), h7.2⟩
  · rintro ⟨q, hq, hb⟩
    rcases mem_srcs.1 hq with ⟨ho, rfl⟩ | ⟨x, y, hx, hy, rfl⟩
    · rw [hm1] at hb; cases hb
    · unfold sx0 sx1 at hx
      unfold sy0 sy1 at hy
      refine ⟨p.tdiv g.wide - y, by omega, by omega, lead_iff.2 ⟨by omega, by omega⟩, p.tmod g.wide - x, by omega, by omega, lead_iff.2 ⟨by omega, by omega⟩, ?_⟩
      unfold okM inG
      rw [show p.tdiv g.wide - (p.tdiv g.wide - y) = y by omega, show p.tmod g.wide - (p.tmod g.wide - x) = x by omega, hb]
      simp only [Bool.and_eq_true, decide_eq_true_eq, and_true]
      omega
theorem fin_t (hg : gridOk g) (hf : flowOk c.flow) (hr1 : 0 ≤ c.grow) (hr2 : c.grow ≤ 10000) (ht : 0 ≤ t) (hp : 0 ≤ p) (hs1 : memB c.sure (-1) = false) (hm1 : memB c.may (-1) = false) (hv : v = far t + 1) (h8 : a = true) (hI : StI a m (allTo g c p t v) (anyTo g c p t v)) : 2 = stateOf g c p t := by
  subst hv
  unfold stateOf
  rw [if_pos ((all_iff hf hr1 hr2 ht hs1).1 (hI.1.1 h8))]
theorem fin_f (hg : gridOk g) (hf : flowOk c.flow) (hr1 : 0 ≤ c.grow) (hr2 : c.grow ≤ 10000) (ht : 0 ≤ t) (hp : 0 ≤ p) (hs1 : memB c.sure (-1) = false) (hm1 : memB c.may (-1) = false) (hv : v = far t + 1) (h8 : ¬ a = true) (hI : StI a m (allTo g c p t v) (anyTo g c p t v)) : m = stateOf g c p t := by
  subst hv
  unfold stateOf
  rw [if_neg (fun q => h8 (hI.1.2 ((all_iff hf hr1 hr2 ht hs1).2 q)))]
  rcases hI.2 with ⟨h1, h2⟩ | ⟨h1, h2⟩
  · rw [if_pos ((any_iff hf hr1 hr2 ht hm1).1 h2)]; exact h1
  · rw [if_neg (fun q => h2 ((any_iff hf hr1 hr2 ht hm1).2 q))]; exact h1
end

set_option maxRecDepth 20000 in
theorem leads_c (b lo hi grow t : Int) (w : World) (hb1 : -2000 ≤ b) (hb2 : b ≤ 2000) (h1 : -100000 ≤ lo) (h2 : lo ≤ 100000) (h3 : -100000 ≤ hi) (h4 : hi ≤ 100000) (h5 : 0 ≤ grow) (h6 : grow ≤ 10000) (h7 : 0 ≤ t) (h8 : t ≤ 7200) :
  Calls Try.prog 85 #[.int .i64 b, .agg #[.int .i64 lo, .int .i64 hi], .int .i64 grow, .int .i64 t] w fun e w' => e = .returned (.bool (leadB b lo hi grow t)) ∧ St (bs w) [] w' := by
  have m1 := mul_bd (a := lo - grow) (t := t) (by omega) (by omega) h7 h8
  have m2 := mul_bd (a := hi + grow) (t := t) (by omega) (by omega) h7 h8
  refine enter (vs := [_, _, _, _]) (env := [(0, _), (1, _), (2, _), (3, _)]) Try.func85 rfl rfl rfl rfl ?_
  refine VC.seq ?_
  refine VC.reg (VO.h rfl <| HO.box (C := #[_, _]) rfl rfl fun b1 => VO.l (LO.as (.r rfl)) rfl <| VO.nil ?_)
  refine VE.seqN ?_
  refine VC.seq ?_
  refine VC.reg (VO.l (LO.mv (.r rfl)) rfl <| VO.l (LO.mul (.r rfl) (.r rfl) (wi (by omega) (by omega))) rfl <| VO.l (LO.as (.r rfl)) rfl <| VO.nil ?_)
  refine VE.seqN ?_
  refine VC.seq ?_
  refine VC.reg (VO.l (LO.mv (.r rfl)) rfl <| VO.l (LO.fa (r := 0) F30_0 (.r rfl) rfl) rfl <| VO.l (LO.ld O3 (.r rfl) (fun _ hw => cells_at hw 0 rfl ⟨_, rfl⟩)) rfl <| VO.l (LO.mv (.r rfl)) rfl <| VO.l (LO.sub (.r rfl) (.r rfl) (wi (by omega) (by omega))) rfl <| VO.l (LO.mv (.r rfl)) rfl <| VO.l (LO.mul (.r rfl) (.r rfl) (wi (by omega) (by omega))) rfl <| VO.l (LO.sub (.r rfl) (.r rfl) (wi (by omega) (by omega))) rfl <| VO.l (LO.gt (.r rfl) (.r rfl)) rfl <| VO.l (LO.mv (.r rfl)) rfl <| VO.lg rfl rfl (GD.t _) (fun hg => LO.mv (.r rfl)) rfl <| VO.lg rfl rfl (GD.t _) (fun hg => LO.fa (r := 1) F30_1 (.r rfl) rfl) rfl <| VO.lg rfl rfl (GD.t _) (fun hg => LO.ld O3 (.g hg rfl) (fun _ hw => cells_at hw 0 rfl ⟨_, rfl⟩)) rfl <| VO.lg rfl rfl (GD.t _) (fun hg => LO.mv (.r rfl)) rfl <| VO.lg rfl rfl (GD.t _) (fun hg => LO.add (.g hg rfl) (.g hg rfl) (wi (by omega) (by omega))) rfl <| VO.lg rfl rfl (GD.t _) (fun hg => LO.mv (.r rfl)) rfl <| VO.lg rfl rfl (GD.t _) (fun hg => LO.mul (.g hg rfl) (.g hg rfl) (wi (by omega) (by omega))) rfl <| VO.lg rfl rfl (GD.t _) (fun hg => LO.add (.g hg rfl) (.r rfl) (wi (by omega) (by omega))) rfl <| VO.lg rfl rfl (GD.t _) (fun hg => LO.lt (.g hg rfl) (.g hg rfl)) rfl <| VO.l (LO.pkA (.r rfl) rfl rfl (.r rfl)) rfl <| VO.l (LO.as (.r rfl)) rfl <| VO.nil ?_)
  refine VE.seqN ?_
  refine VC.ret (VE.res (vs := [_]) rfl ⟨rfl, trivial⟩ (fun w hw => ?_))
  exact ⟨rfl, hw.nil⟩

set_option maxRecDepth 20000 in
theorem State_c (g : Grid) (c : Cloud) (ps pm : Option Addr) (cs cm : Nat) (p t : Int) (w : World) (hns : c.sure.length < 1000000000000) (hnm : c.may.length < 1000000000000) (hs : Ints w ps c.sure) (hm : Ints w pm c.may) (hg : gridOk g) (hf : flowOk c.flow) (hr1 : 0 ≤ c.grow) (hr2 : c.grow ≤ 10000) (ht1 : 0 ≤ t) (ht2 : t ≤ 7200) (hp1 : 0 ≤ p) (hp2 : p < g.wide * g.high) (hs1 : memB c.sure (-1) = false) (hm1 : memB c.may (-1) = false) :
  Calls Try.prog 58 #[gridV g, cloudV ps cs pm cm c, .int .i64 p, .int .i64 t] w fun e w' => e = .returned (.int .i64 (stateOf g c p t)) ∧ St (bs w) [] w' := by
  have hx := tmod_bd hg hp1 hp2
  have hgo := hg
  have hfo := hf
  obtain ⟨hgx, hgy, hgs, hgw, hgh⟩ := hg
  obtain ⟨⟨hfa, hfb, hfc⟩, hfd, hfe, hff⟩ := hf
  have hn := far_bd ht1 ht2
  have hq : (110000 * t).tdiv 1000000 = 110000 * t / 1000000 := Int.tdiv_eq_ediv_of_nonneg (by omega)
  refine enter (vs := [_, _, _, _]) (env := [(0, _), (1, _), (2, _), (3, _)]) Try.func58 rfl rfl rfl rfl ?_
  refine VC.seq ?_
  refine VC.reg (VO.h rfl <| HO.box (C := #[_, _, _, _, _]) rfl rfl fun b1 => VO.h rfl <| HO.box (C := #[_, _, _, _, _, _, _]) rfl rfl fun b2 => VO.l (LO.as (.r rfl)) rfl <| VO.nil ?_)
  refine VE.seqN ?_
  refine VC.seq ?_
  refine VC.reg (VO.l (LO.as (.r rfl)) rfl <| VO.l (LO.as (.r rfl)) rfl <| VO.nil ?_)
  refine VE.seqN ?_
  refine VC.seq ?_
  refine VC.reg (VO.l (LO.mv (.r rfl)) rfl <| VO.l (LO.mul (.r rfl) (.r rfl) (wi (by omega) (by omega))) rfl <| VO.l (LO.quo (.r rfl) (.r rfl) (by omega) (r := 110000 * t / 1000000) (by rw [hq]; exact wi (by omega) (by omega))) rfl <| VO.l (LO.add (.r rfl) (.r rfl) (wi (by omega) (by omega))) rfl <| VO.l (LO.as (v := .int .i64 (far t)) (.r rfl)) rfl <| VO.nil ?_)
  refine VE.seqN ?_
  refine VC.seq ?_
  refine VC.seq ?_
  refine VC.reg (VO.l (LO.mv (.r rfl)) rfl <| VO.l (LO.neg (.r rfl) (wi (by omega) (by omega))) rfl <| VO.l (LO.as (.r rfl)) rfl <| VO.nil ?_)
  refine VE.seqN ?_
  refine VC.block ?_
  refine VC.loopK (α := Int × Bool × Int) 0 (fun x => [(9, .int .i64 x.2.2), (10, .bool x.2.1), (12, .int .i64 x.1)]) [(2, _), (3, _), (4, _), (5, _), (11, _)] (fun x => []) (fun x => (-far t ≤ x.1 ∧ x.1 ≤ far t + 1) ∧ StI x.2.1 x.2.2 (allTo g c p t x.1) (anyTo g c p t x.1)) (fun x => (far t + 1 - x.1).toNat) (-far t, true, 0) (by exact ⟨by dsimp only; omega, to_zero⟩) (.cons rfl (.cons rfl (.cons rfl (.cons rfl (.cons rfl (.cons rfl (.cons rfl (.cons rfl .nil)))))))) (fun _ h => h) ?_
  rintro ⟨v, a, m⟩ ⟨hv, hI⟩
  show VC _ _ _ _ _ ([(9, .int .i64 m), (10, .bool a), (12, .int .i64 v)] ++ _) ([] ++ _) _ _
  have hv : -far t ≤ v ∧ v ≤ far t + 1 := hv
  have hI : StI a m (allTo g c p t v) (anyTo g c p t v) := hI
  refine VC.seq ?_
  refine VC.seq ?_
  refine VC.reg (VO.l (LO.mv (.r rfl)) rfl <| VO.l (LO.mv (.r rfl)) rfl <| VO.l (LO.le (.r rfl) (.r rfl)) rfl <| VO.nil ?_)
  refine VE.seqN ?_
  refine VC.cond rfl (fun h1 => ?_) (fun h1 => ?_)
  ·
    refine VC.skip (VE.seqN ?_)
    refine VC.seq ?_
    refine VC.block ?_
    refine VC.seq ?_
    refine VC.seq ?_
    refine VC.reg (VO.l (LO.mv (.r rfl)) rfl <| VO.l (LO.fa (r := 2) F37_2 (.r rfl) rfl) rfl <| VO.l (LO.fa (r := 4) F35_1 (.r rfl) rfl) rfl <| VO.l (LO.lda (vs := [_, _]) A30 (.r rfl) (fun _ hw => cells_at hw 0 rfl ⟨_, rfl⟩) rfl) rfl <| VO.l (LO.fa (r := 6) F37_3 (.r rfl) rfl) rfl <| VO.l (LO.ld O3 (.r rfl) (fun _ hw => cells_at hw 0 rfl ⟨_, rfl⟩)) rfl <| VO.l (LO.mv (.r rfl)) rfl <| VO.l (LO.call (xs := [_, _, _, _]) (vs := [_, _, _, _]) C85 ⟨(.r rfl), (.r rfl), (.r rfl), (.r rfl), trivial⟩ (fun w _ => leads_c _ _ _ _ _ w (by omega) (by omega) (by omega) (by omega) (by omega) (by omega) (by omega) (by omega) (by omega) (by omega))) rfl <| VO.l (LO.not (.r rfl)) rfl <| VO.nil ?_)
    refine VE.seqN ?_
    refine VC.cond rfl (fun h2 => ?_) (fun h2 => ?_)
    ·
      refine VC.exit (VE.thenX (VE.inX (VE.seqN ?_)))
      refine VC.reg (VO.l (LO.mv (.r rfl)) rfl <| VO.l (LO.add (.r rfl) (.r rfl) (wi (by omega) (by omega))) rfl <| VO.l (LO.as (.r rfl)) rfl <| VO.nil ?_)
      refine VE.thenN fun a w ha hw => ⟨(_, _, _), (by first | exact ⟨by dsimp only; omega, to_skip hv.1 (by simpa using h2) hI⟩ | exact ⟨by dsimp only; omega, to_next hv.1 (by simpa using h2) (by omega) hJ⟩), (by dsimp only; omega), ha.sub (.cons rfl (.cons rfl (.cons rfl (.cons rfl (.cons rfl (.cons rfl (.cons rfl (.cons rfl .nil)))))))), hw⟩
    ·
      refine VC.skip (VE.seqN ?_)
      refine VC.seq ?_
      refine VC.reg (VO.l (LO.mv (.r rfl)) rfl <| VO.l (LO.neg (.r rfl) (wi (by omega) (by omega))) rfl <| VO.l (LO.as (.r rfl)) rfl <| VO.nil ?_)
      refine VE.seqN ?_
      refine VC.block ?_
      refine VC.loopK (α := Int × Bool × Int) 0 (fun x => [(9, .int .i64 x.2.2), (10, .bool x.2.1), (13, .int .i64 x.1)]) [(2, _), (3, _), (4, _), (5, _), (11, _), (12, _)] (fun x => []) (fun x => (-far t ≤ x.1 ∧ x.1 ≤ far t + 1) ∧ StI x.2.1 x.2.2 (allTo g c p t v ∧ allRow g c p t v x.1) (anyTo g c p t v ∨ anyRow g c p t v x.1)) (fun x => (far t + 1 - x.1).toNat) (-far t, a, m) (by exact ⟨by dsimp only; omega, row_zero hI⟩) (.cons rfl (.cons rfl (.cons rfl (.cons rfl (.cons rfl (.cons rfl (.cons rfl (.cons rfl (.cons rfl .nil))))))))) (fun _ h => h) ?_
      rintro ⟨u, b, n⟩ ⟨hu, hJ⟩
      show VC _ _ _ _ _ ([(9, .int .i64 n), (10, .bool b), (13, .int .i64 u)] ++ _) ([] ++ _) _ _
      have hu : -far t ≤ u ∧ u ≤ far t + 1 := hu
      have hJ : StI b n (allTo g c p t v ∧ allRow g c p t v u) (anyTo g c p t v ∨ anyRow g c p t v u) := hJ
      refine VC.seq ?_
      refine VC.seq ?_
      refine VC.reg (VO.l (LO.mv (.r rfl)) rfl <| VO.l (LO.mv (.r rfl)) rfl <| VO.l (LO.le (.r rfl) (.r rfl)) rfl <| VO.nil ?_)
      refine VE.seqN ?_
      refine VC.cond rfl (fun h3 => ?_) (fun h3 => ?_)
      ·
        refine VC.skip (VE.seqN ?_)
        refine VC.seq ?_
        refine VC.block ?_
        refine VC.seq ?_
        refine VC.seq ?_
        refine VC.reg (VO.l (LO.mv (.r rfl)) rfl <| VO.l (LO.fa (r := 2) F37_2 (.r rfl) rfl) rfl <| VO.l (LO.fa (r := 2) F35_0 (.r rfl) rfl) rfl <| VO.l (LO.lda (vs := [_, _]) A30 (.r rfl) (fun _ hw => cells_at hw 0 rfl ⟨_, rfl⟩) rfl) rfl <| VO.l (LO.fa (r := 6) F37_3 (.r rfl) rfl) rfl <| VO.l (LO.ld O3 (.r rfl) (fun _ hw => cells_at hw 0 rfl ⟨_, rfl⟩)) rfl <| VO.l (LO.mv (.r rfl)) rfl <| VO.l (LO.call (xs := [_, _, _, _]) (vs := [_, _, _, _]) C85 ⟨(.r rfl), (.r rfl), (.r rfl), (.r rfl), trivial⟩ (fun w _ => leads_c _ _ _ _ _ w (by omega) (by omega) (by omega) (by omega) (by omega) (by omega) (by omega) (by omega) (by omega) (by omega))) rfl <| VO.l (LO.not (.r rfl)) rfl <| VO.nil ?_)
        refine VE.seqN ?_
        refine VC.cond rfl (fun h4 => ?_) (fun h4 => ?_)
        ·
          refine VC.exit (VE.thenX (VE.inX (VE.seqN ?_)))
          refine VC.reg (VO.l (LO.mv (.r rfl)) rfl <| VO.l (LO.add (.r rfl) (.r rfl) (wi (by omega) (by omega))) rfl <| VO.l (LO.as (.r rfl)) rfl <| VO.nil ?_)
          refine VE.thenN fun a w ha hw => ⟨(_, _, _), ⟨by dsimp only; omega, row_step hu.1 hJ (by first | (simp [h4]; done) | (simp [h4, okA, h5i]; done) | (simp [h4, okA, h5i, h7]; done)) (by first | (simp [h4]; done) | (simp [h4, okM, h5i]; done) | (simp [h4, okM, h5i, h6]; done))⟩, (by dsimp only; omega), ha.sub (.cons rfl (.cons rfl (.cons rfl (.cons rfl (.cons rfl (.cons rfl (.cons rfl (.cons rfl (.cons rfl .nil))))))))), hw⟩
        ·
          have h4 := Classical.not_not.1 h4
          refine VC.skip (VE.seqN ?_)
          refine VC.seq ?_
          refine VC.draw mixed (LL.l (LO.mv (.r rfl)) rfl <| LL.l (LO.fa (r := 3) F23_3 (.r rfl) rfl) rfl <| LL.l (LO.ld O3 (.r rfl) (fun _ hw => cells_at hw 1 rfl ⟨_, rfl⟩)) rfl <| LL.l (LO.rem (.r rfl) (.r rfl) (by omega)) rfl <| LL.l (LO.mv (.r rfl)) rfl <| LL.l (LO.sub (.r rfl) (.r rfl) (wi (by omega) (by omega))) rfl <| LL.l (LO.mv (.r rfl)) rfl <| LL.l (LO.fa (r := 3) F23_3 (.r rfl) rfl) rfl <| LL.l (LO.ld O3 (.r rfl) (fun _ hw => cells_at hw 1 rfl ⟨_, rfl⟩)) rfl <| LL.l (LO.quo (.r rfl) (.r rfl) (by omega) (wi (by omega) (by omega))) rfl <| LL.l (LO.mv (.r rfl)) rfl <| LL.l (LO.sub (.r rfl) (.r rfl) (wi (by omega) (by omega))) rfl <| LL.l (LO.as (.r rfl)) rfl <| LL.l (LO.as (.r rfl)) rfl <| LL.nil) (by kernel_rfl) ?_
          refine VE.seqN ?_
          refine VC.seq ?_
          refine VC.seq ?_
          refine VC.reg (VO.l (LO.mv (.r rfl)) rfl <| VO.l (LO.fa (r := 3) F23_3 (.r rfl) rfl) rfl <| VO.l (LO.ld O3 (.r rfl) (fun _ hw => cells_at hw 1 rfl ⟨_, rfl⟩)) rfl <| VO.l (LO.sub (.r rfl) (.r rfl) (wi (by omega) (by omega))) rfl <| VO.l (LO.call (xs := [_, _, _]) (vs := [_, _, _]) C57 ⟨(.r rfl), (.r rfl), (.r rfl), trivial⟩ (fun w _ => In_c _ _ _ w)) rfl <| VO.l (LO.not (.r rfl)) rfl <| VO.l (LO.mv (.r rfl)) rfl <| VO.lg rfl rfl (GD.f _) (fun hg => LO.mv (.r rfl)) rfl <| VO.lg rfl rfl (GD.f _) (fun hg => LO.fa (r := 4) F23_4 (.r rfl) rfl) rfl <| VO.lg rfl rfl (GD.f _) (fun hg => LO.ld O3 (.g hg rfl) (fun _ hw => cells_at hw 1 rfl ⟨_, rfl⟩)) rfl <| VO.lg rfl rfl (GD.f _) (fun hg => LO.sub (.g hg rfl) (.r rfl) (wi (by omega) (by omega))) rfl <| VO.lg rfl rfl (GD.f _) (fun hg => LO.call (xs := [_, _, _]) (vs := [_, _, _]) C57 ⟨(.g hg rfl), (.r rfl), (.g hg rfl), trivial⟩ (fun w _ => In_c _ _ _ w)) rfl <| VO.lg rfl rfl (GD.f _) (fun hg => LO.not (.g hg rfl)) rfl <| VO.l (LO.pkO (.r rfl) (.r rfl) rfl rfl) rfl <| VO.nil ?_)
          refine VE.seqN ?_
          refine VC.cond rfl (fun h5 => ?_) (fun h5 => ?_)
          ·
            refine VC.seq ?_
            have h5i := inG_no h5
            refine VC.reg (VO.l (LO.as (.r rfl)) rfl <| VO.nil ?_)
            refine VE.seqN ?_
            refine VC.exit (VE.thenX (VE.inX (VE.seqN ?_)))
            refine VC.reg (VO.l (LO.mv (.r rfl)) rfl <| VO.l (LO.add (.r rfl) (.r rfl) (wi (by omega) (by omega))) rfl <| VO.l (LO.as (.r rfl)) rfl <| VO.nil ?_)
            refine VE.thenN fun a w ha hw => ⟨(_, _, _), ⟨by dsimp only; omega, row_step hu.1 hJ (by first | (simp [h4]; done) | (simp [h4, okA, h5i]; done) | (simp [h4, okA, h5i, h7]; done)) (by first | (simp [h4]; done) | (simp [h4, okM, h5i]; done) | (simp [h4, okM, h5i, h6]; done))⟩, (by dsimp only; omega), ha.sub (.cons rfl (.cons rfl (.cons rfl (.cons rfl (.cons rfl (.cons rfl (.cons rfl (.cons rfl (.cons rfl .nil))))))))), hw⟩
          ·
            refine VC.skip (VE.seqN ?_)
            refine VC.seq ?_
            refine VC.seq ?_
            have h5i := inG_yes h5
            have h5 := inG_of h5
            have hrow := row_bd (v := p.tdiv g.wide - v) (w := g.wide) (by omega) (by omega) (by omega) (by omega)
            refine VC.reg (VO.l (LO.fa (r := 1) F37_1 (.r rfl) rfl) rfl <| VO.l (LO.ld O28 (.r rfl) (fun _ hw => cells_at hw 0 rfl ⟨_, rfl⟩)) rfl <| VO.l (LO.mv (.r rfl)) rfl <| VO.l (LO.fa (r := 3) F23_3 (.r rfl) rfl) rfl <| VO.l (LO.ld O3 (.r rfl) (fun _ hw => cells_at hw 1 rfl ⟨_, rfl⟩)) rfl <| VO.l (LO.mul (.r rfl) (.r rfl) (wi (by omega) (by omega))) rfl <| VO.l (LO.mv (.r rfl)) rfl <| VO.l (LO.add (.r rfl) (.r rfl) (wi (by omega) (by omega))) rfl <| VO.l (LO.call (xs := [_, _]) (vs := [_, _]) C77 ⟨(.r rfl), (.r rfl), trivial⟩ (fun w hw => rhas_c _ _ _ _ w (by first | exact hns | exact hnm) (by first | exact hs.keep w hw | exact hm.keep w hw))) rfl <| VO.nil ?_)
            refine VE.seqN ?_
            refine VC.cond rfl (fun h6 => ?_) (fun h6 => ?_)
            ·
              refine VC.reg (VO.l (LO.as (.r rfl)) rfl <| VO.nil ?_)
              refine VE.seqN ?_
              refine VC.seq ?_
              refine VC.reg (VO.l (LO.fa (r := 0) F37_0 (.r rfl) rfl) rfl <| VO.l (LO.ld O28 (.r rfl) (fun _ hw => cells_at hw 0 rfl ⟨_, rfl⟩)) rfl <| VO.l (LO.mv (.r rfl)) rfl <| VO.l (LO.fa (r := 3) F23_3 (.r rfl) rfl) rfl <| VO.l (LO.ld O3 (.r rfl) (fun _ hw => cells_at hw 1 rfl ⟨_, rfl⟩)) rfl <| VO.l (LO.mul (.r rfl) (.r rfl) (wi (by omega) (by omega))) rfl <| VO.l (LO.mv (.r rfl)) rfl <| VO.l (LO.add (.r rfl) (.r rfl) (wi (by omega) (by omega))) rfl <| VO.l (LO.call (xs := [_, _]) (vs := [_, _]) C77 ⟨(.r rfl), (.r rfl), trivial⟩ (fun w hw => rhas_c _ _ _ _ w (by first | exact hns | exact hnm) (by first | exact hs.keep w hw | exact hm.keep w hw))) rfl <| VO.l (LO.not (.r rfl)) rfl <| VO.nil ?_)
              refine VE.seqN ?_
              refine VC.cond rfl (fun h7 => ?_) (fun h7 => ?_)
              ·
                refine VC.reg (VO.l (LO.as (.r rfl)) rfl <| VO.nil ?_)
                refine VE.inN (VE.seqN ?_)
                refine VC.reg (VO.l (LO.mv (.r rfl)) rfl <| VO.l (LO.add (.r rfl) (.r rfl) (wi (by omega) (by omega))) rfl <| VO.l (LO.as (.r rfl)) rfl <| VO.nil ?_)
                refine VE.thenN fun a w ha hw => ⟨(_, _, _), ⟨by dsimp only; omega, row_step hu.1 hJ (by first | (simp [h4]; done) | (simp [h4, okA, h5i]; done) | (simp [h4, okA, h5i, h7]; done)) (by first | (simp [h4]; done) | (simp [h4, okM, h5i]; done) | (simp [h4, okM, h5i, h6]; done))⟩, (by dsimp only; omega), ha.sub (.cons rfl (.cons rfl (.cons rfl (.cons rfl (.cons rfl (.cons rfl (.cons rfl (.cons rfl (.cons rfl .nil))))))))), hw⟩
              ·
                have h7 := Classical.not_not.1 h7
                refine VC.skip (VE.inN (VE.seqN ?_))
                refine VC.reg (VO.l (LO.mv (.r rfl)) rfl <| VO.l (LO.add (.r rfl) (.r rfl) (wi (by omega) (by omega))) rfl <| VO.l (LO.as (.r rfl)) rfl <| VO.nil ?_)
                refine VE.thenN fun a w ha hw => ⟨(_, _, _), ⟨by dsimp only; omega, row_step hu.1 hJ (by first | (simp [h4]; done) | (simp [h4, okA, h5i]; done) | (simp [h4, okA, h5i, h7]; done)) (by first | (simp [h4]; done) | (simp [h4, okM, h5i]; done) | (simp [h4, okM, h5i, h6]; done))⟩, (by dsimp only; omega), ha.sub (.cons rfl (.cons rfl (.cons rfl (.cons rfl (.cons rfl (.cons rfl (.cons rfl (.cons rfl (.cons rfl .nil))))))))), hw⟩
            ·
              refine VC.skip (VE.seqN ?_)
              refine VC.seq ?_
              refine VC.reg (VO.l (LO.fa (r := 0) F37_0 (.r rfl) rfl) rfl <| VO.l (LO.ld O28 (.r rfl) (fun _ hw => cells_at hw 0 rfl ⟨_, rfl⟩)) rfl <| VO.l (LO.mv (.r rfl)) rfl <| VO.l (LO.fa (r := 3) F23_3 (.r rfl) rfl) rfl <| VO.l (LO.ld O3 (.r rfl) (fun _ hw => cells_at hw 1 rfl ⟨_, rfl⟩)) rfl <| VO.l (LO.mul (.r rfl) (.r rfl) (wi (by omega) (by omega))) rfl <| VO.l (LO.mv (.r rfl)) rfl <| VO.l (LO.add (.r rfl) (.r rfl) (wi (by omega) (by omega))) rfl <| VO.l (LO.call (xs := [_, _]) (vs := [_, _]) C77 ⟨(.r rfl), (.r rfl), trivial⟩ (fun w hw => rhas_c _ _ _ _ w (by first | exact hns | exact hnm) (by first | exact hs.keep w hw | exact hm.keep w hw))) rfl <| VO.l (LO.not (.r rfl)) rfl <| VO.nil ?_)
              refine VE.seqN ?_
              refine VC.cond rfl (fun h7 => ?_) (fun h7 => ?_)
              ·
                refine VC.reg (VO.l (LO.as (.r rfl)) rfl <| VO.nil ?_)
                refine VE.inN (VE.seqN ?_)
                refine VC.reg (VO.l (LO.mv (.r rfl)) rfl <| VO.l (LO.add (.r rfl) (.r rfl) (wi (by omega) (by omega))) rfl <| VO.l (LO.as (.r rfl)) rfl <| VO.nil ?_)
                refine VE.thenN fun a w ha hw => ⟨(_, _, _), ⟨by dsimp only; omega, row_step hu.1 hJ (by first | (simp [h4]; done) | (simp [h4, okA, h5i]; done) | (simp [h4, okA, h5i, h7]; done)) (by first | (simp [h4]; done) | (simp [h4, okM, h5i]; done) | (simp [h4, okM, h5i, h6]; done))⟩, (by dsimp only; omega), ha.sub (.cons rfl (.cons rfl (.cons rfl (.cons rfl (.cons rfl (.cons rfl (.cons rfl (.cons rfl (.cons rfl .nil))))))))), hw⟩
              ·
                have h7 := Classical.not_not.1 h7
                refine VC.skip (VE.inN (VE.seqN ?_))
                refine VC.reg (VO.l (LO.mv (.r rfl)) rfl <| VO.l (LO.add (.r rfl) (.r rfl) (wi (by omega) (by omega))) rfl <| VO.l (LO.as (.r rfl)) rfl <| VO.nil ?_)
                refine VE.thenN fun a w ha hw => ⟨(_, _, _), ⟨by dsimp only; omega, row_step hu.1 hJ (by first | (simp [h4]; done) | (simp [h4, okA, h5i]; done) | (simp [h4, okA, h5i, h7]; done)) (by first | (simp [h4]; done) | (simp [h4, okM, h5i]; done) | (simp [h4, okM, h5i, h6]; done))⟩, (by dsimp only; omega), ha.sub (.cons rfl (.cons rfl (.cons rfl (.cons rfl (.cons rfl (.cons rfl (.cons rfl (.cons rfl (.cons rfl .nil))))))))), hw⟩
      ·
        refine VC.exit (VE.thenX (VE.thenX (VE.inX (VE.inN (VE.seqN ?_)))))
        refine VC.reg (VO.l (LO.mv (.r rfl)) rfl <| VO.l (LO.add (.r rfl) (.r rfl) (wi (by omega) (by omega))) rfl <| VO.l (LO.as (.r rfl)) rfl <| VO.nil ?_)
        refine VE.thenN fun a w ha hw => ⟨(_, _, _), (by first | exact ⟨by dsimp only; omega, to_skip hv.1 (by simpa using h2) hI⟩ | exact ⟨by dsimp only; omega, to_next hv.1 (by simpa using h2) (by omega) hJ⟩), (by dsimp only; omega), ha.sub (.cons rfl (.cons rfl (.cons rfl (.cons rfl (.cons rfl (.cons rfl (.cons rfl (.cons rfl .nil)))))))), hw⟩
  ·
    refine VC.exit (VE.thenX (VE.thenX (VE.inX (VE.seqN ?_))))
    refine VC.seq ?_
    refine VC.seq ?_
    refine VC.reg (VO.l (LO.mv (.r rfl)) rfl <| VO.nil ?_)
    refine VE.seqN ?_
    refine VC.cond rfl (fun h8 => ?_) (fun h8 => ?_)
    ·
      refine VC.seq ?_
      refine VC.reg (VO.l (LO.as (.r rfl)) rfl <| VO.nil ?_)
      refine VE.seqN ?_
      refine VC.ret (VE.thenR (VE.res (vs := [_]) rfl ⟨rfl, trivial⟩ (fun w hw => ?_)))
      refine ⟨?_, hw.nil⟩
      simp only [resV]
      congr 2
      first | exact fin_t hgo hfo hr1 hr2 ht1 hp1 hs1 hm1 (by omega) h8 hI | exact fin_f hgo hfo hr1 hr2 ht1 hp1 hs1 hm1 (by omega) h8 hI
    ·
      refine VC.skip (VE.seqN ?_)
      refine VC.seq ?_
      refine VC.reg (VO.l (LO.mv (.r rfl)) rfl <| VO.l (LO.as (.r rfl)) rfl <| VO.nil ?_)
      refine VE.seqN ?_
      refine VC.ret (VE.res (vs := [_]) rfl ⟨rfl, trivial⟩ (fun w hw => ?_))
      refine ⟨?_, hw.nil⟩
      simp only [resV]
      congr 2
      first | exact fin_t hgo hfo hr1 hr2 ht1 hp1 hs1 hm1 (by omega) h8 hI | exact fin_f hgo hfo hr1 hr2 ht1 hp1 hs1 hm1 (by omega) h8 hI

end Go.Proofs.Ytdcjeoamhjplmaa
