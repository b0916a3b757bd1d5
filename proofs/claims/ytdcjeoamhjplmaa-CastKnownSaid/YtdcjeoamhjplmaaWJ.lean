/-
  Better known clouds, and more of them.
-/
import Derived.Test.YtdcjeoamhjplmaaWI
namespace Go.Proofs.Ytdcjeoamhjplmaa
open Go.SL Go.Proofs Go.Cast
set_option linter.unusedVariables false

theorem N50 : (Try.prog.info? 50).map (·.size) = some 1 := by kernel_rfl
theorem O50 : IsOne Try.prog 50 := ⟨⟨_, Try.underlying50, rfl⟩, by kernel_rfl⟩
theorem C21 : IsFn Try.prog 21 := ⟨_, Try.func21, by decide, rfl⟩
theorem C22 : IsFn Try.prog 22 := ⟨_, Try.func22, by decide, rfl⟩


def nF (d : Draft) (c0 c1 c2 c3 : Int) : Flow := ⟨pickI (dF d).a (dF d).b c0, pickI (pickI (dF d).a (dF d).b c0) (dF d).b c1, pickI (dF d).c (dF d).d c2, pickI (pickI (dF d).c (dF d).d c2) (dF d).d c3⟩
def nC (d : Draft) (c0 c1 c2 c3 : Int) (ls lm : List Int) : Cloud := ⟨ls, lm, nF d c0 c1 c2 c3, (dC d).grow.tdiv 2⟩
def oD (d o : Draft) : Draft := { o with wide := d.wide, high := d.high }
/-- Left out, and made sure. -/
def nOut (c : Cloud) (dr : List Int) (i : Nat) : Prop := (i < dr.length ∧ memB c.sure (c.may.getD i 0) = false) ∧ (dr.getD i 0).tmod 3 = 0
def nSure (c : Cloud) (dr : List Int) (i : Nat) : Prop := memB c.sure (c.may.getD i 0) = true ∨ (i < dr.length ∧ (dr.getD i 0).tmod 3 = 1)
instance (c : Cloud) (dr : List Int) (i : Nat) : Decidable (nOut c dr i) := by unfold nOut; exact inferInstance
instance (c : Cloud) (dr : List Int) (i : Nat) : Decidable (nSure c dr i) := by unfold nSure; exact inferInstance
def nmTo (c : Cloud) (dr : List Int) : Nat → List Int
  | 0 => []
  | i + 1 => if nOut c dr i then nmTo c dr i else nmTo c dr i ++ [c.may.getD i 0]
def nsTo (c : Cloud) (dr : List Int) : Nat → List Int
  | 0 => []
  | i + 1 => if nOut c dr i then nsTo c dr i else if nSure c dr i then nsTo c dr i ++ [c.may.getD i 0] else nsTo c dr i
theorem narA {i n : Nat} {b : Bool} (h : (decide ((i : Int) < (n : Int)) && b) = true) : i < n := by
  have := of_decide_eq_true (Bool.and_eq_true_iff.1 h).1; omega
theorem narB {a : Bool} {i n : Nat} (h : (!a && decide ((i : Int) < (n : Int))) = true) : i < n := by
  have := of_decide_eq_true (Bool.and_eq_true_iff.1 h).2; omega
section
variable {c : Cloud} {dr ls lm : List Int} {i : Nat} {mi : Int}
theorem mi_eq (h : c.may[i]? = some mi) : c.may.getD i 0 = mi := by rw [List.getD_eq_getElem?_getD, h]; rfl
theorem nar_0 (h : c.may[i]? = some mi) (hl : ls = nsTo c dr i) (k : ((i : Int) < (dr.length : Int) ∧ ¬ memB c.sure mi = true) ∧ (dr.getD i 0).tmod 3 = 0) : ls = nsTo c dr (i + 1) := by
  unfold nsTo; rw [if_pos (by unfold nOut; rw [mi_eq h]; exact ⟨⟨by omega, by simpa using k.1.2⟩, k.2⟩), hl]
theorem nar_0m (h : c.may[i]? = some mi) (hl : lm = nmTo c dr i) (k : ((i : Int) < (dr.length : Int) ∧ ¬ memB c.sure mi = true) ∧ (dr.getD i 0).tmod 3 = 0) : lm = nmTo c dr (i + 1) := by
  unfold nmTo; rw [if_pos (by unfold nOut; rw [mi_eq h]; exact ⟨⟨by omega, by simpa using k.1.2⟩, k.2⟩), hl]
theorem nout_no (h : c.may[i]? = some mi) (k : ¬ (((i : Int) < (dr.length : Int) ∧ ¬ memB c.sure mi = true) ∧ (dr.getD i 0).tmod 3 = 0)) : ¬ nOut c dr i := by
  unfold nOut; rw [mi_eq h]; intro q; exact k ⟨⟨by omega, by simpa using q.1.2⟩, q.2⟩
theorem nar_1m (h : c.may[i]? = some mi) (hl : lm = nmTo c dr i) (k : ¬ (((i : Int) < (dr.length : Int) ∧ ¬ memB c.sure mi = true) ∧ (dr.getD i 0).tmod 3 = 0)) : lm ++ [mi] = nmTo c dr (i + 1) := by
  unfold nmTo; rw [if_neg (nout_no h k), hl, mi_eq h]
theorem nar_1 (h : c.may[i]? = some mi) (hl : ls = nsTo c dr i) (k : ¬ (((i : Int) < (dr.length : Int) ∧ ¬ memB c.sure mi = true) ∧ (dr.getD i 0).tmod 3 = 0)) (k2 : memB c.sure mi = true ∨ ((i : Int) < (dr.length : Int) ∧ (dr.getD i 0).tmod 3 = 1)) : ls ++ [mi] = nsTo c dr (i + 1) := by
  unfold nsTo; rw [if_neg (nout_no h k), if_pos (by unfold nSure; rw [mi_eq h]; exact k2.imp id fun q => ⟨by omega, q.2⟩), hl, mi_eq h]
theorem nar_2 (h : c.may[i]? = some mi) (hl : ls = nsTo c dr i) (k : ¬ (((i : Int) < (dr.length : Int) ∧ ¬ memB c.sure mi = true) ∧ (dr.getD i 0).tmod 3 = 0)) (k2 : ¬ (memB c.sure mi = true ∨ ((i : Int) < (dr.length : Int) ∧ (dr.getD i 0).tmod 3 = 1))) : ls = nsTo c dr (i + 1) := by
  unfold nsTo; rw [if_neg (nout_no h k), if_neg (by unfold nSure; rw [mi_eq h]; exact fun q => k2 (q.imp id fun q => ⟨by omega, q.2⟩)), hl]
theorem narC {p : Prop} (h : p) : p := h
theorem narC' {p : Prop} (h : p) : p := h
theorem narD {p : Prop} (h : p) : p := h
theorem narD' {p : Prop} (h : p) : p := h
theorem nm_mem : ∀ {i : Nat} {n : Int}, n ∈ nmTo c dr i ↔ ∃ k, k < i ∧ ¬ nOut c dr k ∧ c.may.getD k 0 = n
  | 0, n => by simp [nmTo]
  | i + 1, n => by
    unfold nmTo
    split
    · rename_i h
      rw [nm_mem]
      constructor
      · rintro ⟨k, h1, h2, h3⟩; exact ⟨k, by omega, h2, h3⟩
      · rintro ⟨k, h1, h2, h3⟩
        rcases Nat.lt_or_ge k i with q | q
        · exact ⟨k, q, h2, h3⟩
        · rw [show k = i by omega] at h2; exact absurd h h2
    · rename_i h
      rw [List.mem_append, nm_mem, List.mem_singleton]
      constructor
      · rintro (⟨k, h1, h2, h3⟩ | rfl)
        · exact ⟨k, by omega, h2, h3⟩
        · exact ⟨i, by omega, h, rfl⟩
      · rintro ⟨k, h1, h2, h3⟩
        rcases Nat.lt_or_ge k i with q | q
        · exact .inl ⟨k, q, h2, h3⟩
        · rw [show k = i by omega] at h3; exact .inr h3.symm
theorem ns_mem : ∀ {i : Nat} {n : Int}, n ∈ nsTo c dr i ↔ ∃ k, k < i ∧ (¬ nOut c dr k ∧ nSure c dr k) ∧ c.may.getD k 0 = n
  | 0, n => by simp [nsTo]
  | i + 1, n => by
    have no : ∀ {P : Prop}, ¬ (¬ nOut c dr i ∧ nSure c dr i) → ((∃ k, k < i ∧ (¬ nOut c dr k ∧ nSure c dr k) ∧ c.may.getD k 0 = n) ↔ ∃ k, k < i + 1 ∧ (¬ nOut c dr k ∧ nSure c dr k) ∧ c.may.getD k 0 = n) := fun h => by
      constructor
      · rintro ⟨k, h1, h2, h3⟩; exact ⟨k, by omega, h2, h3⟩
      · rintro ⟨k, h1, h2, h3⟩
        rcases Nat.lt_or_ge k i with q | q
        · exact ⟨k, q, h2, h3⟩
        · rw [show k = i by omega] at h2; exact absurd h2 h
    unfold nsTo
    split
    · rename_i h
      rw [ns_mem]; exact no (P := True) (fun q => q.1 h)
    · rename_i h
      split
      · rename_i h'
        rw [List.mem_append, ns_mem, List.mem_singleton]
        constructor
        · rintro (⟨k, h1, h2, h3⟩ | rfl)
          · exact ⟨k, by omega, h2, h3⟩
          · exact ⟨i, by omega, ⟨h, h'⟩, rfl⟩
        · rintro ⟨k, h1, h2, h3⟩
          rcases Nat.lt_or_ge k i with q | q
          · exact .inl ⟨k, q, h2, h3⟩
          · rw [show k = i by omega] at h3; exact .inr h3.symm
      · rename_i h'
        rw [ns_mem]; exact no (P := True) (fun q => h' q.2)
theorem asc_lt {l : List Int} (h : Asc l) {i j : Nat} (hij : i < j) (hj : j < l.length) : l.getD i 0 < l.getD j 0 := by
  have := List.pairwise_iff_getElem.1 h i j (by omega) hj hij
  simpa only [List.getD_eq_getElem?_getD, List.getElem?_eq_getElem hj, List.getElem?_eq_getElem (show i < l.length by omega), Option.getD_some] using this
theorem nm_asc (ha : Asc c.may) : ∀ {i : Nat}, i ≤ c.may.length → Asc (nmTo c dr i)
  | 0, _ => List.Pairwise.nil
  | i + 1, hi => by
    unfold nmTo
    split
    · exact nm_asc ha (by omega)
    · refine List.pairwise_append.2 ⟨nm_asc ha (by omega), List.pairwise_singleton _ _, fun a h b hb => ?_⟩
      rw [List.mem_singleton] at hb; subst hb
      obtain ⟨k, h1, _, rfl⟩ := nm_mem.1 h
      exact asc_lt ha h1 (by omega)
theorem ns_asc (ha : Asc c.may) : ∀ {i : Nat}, i ≤ c.may.length → Asc (nsTo c dr i)
  | 0, _ => List.Pairwise.nil
  | i + 1, hi => by
    unfold nsTo
    split
    · exact ns_asc ha (by omega)
    · split
      · refine List.pairwise_append.2 ⟨ns_asc ha (by omega), List.pairwise_singleton _ _, fun a h b hb => ?_⟩
        rw [List.mem_singleton] at hb; subst hb
        obtain ⟨k, h1, _, rfl⟩ := ns_mem.1 h
        exact asc_lt ha h1 (by omega)
      · exact ns_asc ha (by omega)
end
section
variable {d o : Draft} {c0 c1 c2 c3 t p : Int} {dr ls lm : List Int}
theorem dF_bd (d : Draft) : (-100000 ≤ (dC d).flow.a ∧ (dC d).flow.a ≤ (dC d).flow.b ∧ (dC d).flow.b ≤ 100000) ∧ (-100000 ≤ (dC d).flow.c ∧ (dC d).flow.c ≤ (dC d).flow.d ∧ (dC d).flow.d ≤ 100000) := @dF_ok d
theorem dgrow_bd (h : 0 ≤ d.grow) : 0 ≤ (dC d).grow ∧ (dC d).grow ≤ 10000 := by
  have := tmod_pos h (n := 10001) (by decide)
  show 0 ≤ d.grow.tmod 10001 ∧ d.grow.tmod 10001 ≤ 10000
  omega
theorem nF_bd (hc0 : 0 ≤ c0) (hc1 : 0 ≤ c1) (hc2 : 0 ≤ c2) (hc3 : 0 ≤ c3) : ((dF d).a ≤ (nF d c0 c1 c2 c3).a ∧ (nF d c0 c1 c2 c3).a ≤ (nF d c0 c1 c2 c3).b ∧ (nF d c0 c1 c2 c3).b ≤ (dF d).b) ∧ ((dF d).c ≤ (nF d c0 c1 c2 c3).c ∧ (nF d c0 c1 c2 c3).c ≤ (nF d c0 c1 c2 c3).d ∧ (nF d c0 c1 c2 c3).d ≤ (dF d).d) := by
  have hf := @dF_ok d
  obtain ⟨⟨_, h1, _⟩, _, h2, _⟩ := hf
  have a1 := pick_bd h1 hc0
  have a2 := pick_bd a1.2 hc1
  have b1 := pick_bd h2 hc2
  have b2 := pick_bd b1.2 hc3
  exact ⟨⟨a1.1, a2.1, a2.2⟩, b1.1, b2.1, b2.2⟩
theorem nC_ok (hd : dOk d) (hc : cloudE (dG d) (dC d) = 0) (hls : ls = nsTo (dC d) dr (dC d).may.length) (hlm : lm = nmTo (dC d) dr (dC d).may.length) (h : 0 < lm.length) (hc0 : 0 ≤ c0 ∧ c0 ≤ 4294967295) (hc1 : 0 ≤ c1 ∧ c1 ≤ 4294967295) (hc2 : 0 ≤ c2 ∧ c2 ≤ 4294967295) (hc3 : 0 ≤ c3 ∧ c3 ≤ 4294967295) : cloudE (dG d) (nC d c0 c1 c2 c3 ls lm) = 0 := by
  have hgr := dgrow_bd hd.2.2.2.2.2.2.1
  have hf := @dF_ok d
  have hb := nF_bd (d := d) hc0.1 hc1.1 hc2.1 hc3.1
  have hsm := sure_may hc
  have hg2 : (dC d).grow.tdiv 2 = (dC d).grow / 2 := Int.tdiv_eq_ediv_of_nonneg hgr.1
  refine cloud_okI (dG_ok hd) ?_ ?_ (fun q => ?_) (fun n hn => ?_) ?_ ?_ (fun n hn => ?_)
  · obtain ⟨⟨h1, h2, h3⟩, h4, h5, h6⟩ := hf
    exact ⟨⟨Int.le_trans h1 hb.1.1, hb.1.2.1, Int.le_trans hb.1.2.2 h3⟩, Int.le_trans h4 hb.2.1, hb.2.2.1, Int.le_trans hb.2.2.2 h6⟩
  · show 0 ≤ (dC d).grow.tdiv 2 ∧ (dC d).grow.tdiv 2 ≤ 10000
    omega
  · have q : lm = [] := q
    rw [q] at h; cases h
  · have hn : n ∈ lm := hn
    rw [hlm] at hn
    obtain ⟨k, h1, _, rfl⟩ := nm_mem.1 hn
    exact hsm.2 _ (by rw [List.getD_eq_getElem?_getD, List.getElem?_eq_getElem h1]; exact List.getElem_mem h1)
  · show Asc lm
    rw [hlm]; exact nm_asc (mayTo_asc _) (Nat.le_refl _)
  · show Asc ls
    rw [hls]; exact ns_asc (mayTo_asc _) (Nat.le_refl _)
  · have hn : n ∈ ls := hn
    show n ∈ lm
    rw [hls] at hn
    obtain ⟨k, h1, h2, h3⟩ := ns_mem.1 hn
    rw [hlm]
    exact nm_mem.2 ⟨k, h1, h2.1, h3⟩
theorem nar_all {k : Nat} (hd : dOk d) (hc : cloudE (dG d) (dC d) = 0) (hb : cloudE (dG d) (nC d c0 c1 c2 c3 ls lm) = 0) (hls : ls = nsTo (dC d) dr (dC d).may.length) (hlm : lm = nmTo (dC d) dr (dC d).may.length) (hc0 : 0 ≤ c0 ∧ c0 ≤ 4294967295) (hc1 : 0 ≤ c1 ∧ c1 ≤ 4294967295) (hc2 : 0 ≤ c2 ∧ c2 ≤ 4294967295) (hc3 : 0 ≤ c3 ∧ c3 ≤ 4294967295) (ht1 : 0 ≤ t) (ht2 : t ≤ 7200) (hk : k < (dW d * dH d).toNat) (h1 : ¬ stateOf (dG d) (dC d) (k : Nat) t = 1) : stateOf (dG d) (dC d) (k : Nat) t = stateOf (dG d) (nC d c0 c1 c2 c3 ls lm) (k : Nat) t := by
  have hgr := dgrow_bd hd.2.2.2.2.2.2.1
  have hg2 : (dC d).grow.tdiv 2 = (dC d).grow / 2 := Int.tdiv_eq_ediv_of_nonneg hgr.1
  have hbd := nF_bd (d := d) hc0.1 hc1.1 hc2.1 hc3.1
  have hx := tmod_bd (g := dG d) (p := (k : Nat)) (dG_ok hd) (by omega) (by show (k : Int) < dW d * dH d; omega)
  have hsm := sure_may hc
  refine nar_state ⟨hbd.1.1, hbd.1.2.2, hbd.2.1, hbd.2.2.2, by show (dC d).grow.tdiv 2 ≤ _; omega, fun n hn => ?_, fun n hn => ?_⟩ ht1 (srcs_ne (cloudE_ok hb).1 (cloudE_ok hb).2.1 ht1 hx.1 hx.2) (sure_may hb).1 (srcs_ne (cloudE_ok hc).1 (cloudE_ok hc).2.1 ht1 hx.1 hx.2) hsm.1 h1
  · obtain ⟨i, hi, e⟩ := List.getElem_of_mem (hsm.1 n hn)
    show n ∈ ls
    rw [hls]
    have e2 : (dC d).may.getD i 0 = n := by rw [List.getD_eq_getElem?_getD, List.getElem?_eq_getElem hi]; exact e
    have e3 : memB (dC d).sure n = true := by simpa [memB] using hn
    exact ns_mem.2 ⟨i, hi, ⟨fun q => (by unfold nOut at q; rw [e2, e3] at q; cases q.1.2), (by unfold nSure; rw [e2]; exact .inl e3)⟩, e2⟩
  · have hn : n ∈ lm := hn
    rw [hlm] at hn
    obtain ⟨i, h2, _, rfl⟩ := nm_mem.1 hn
    rw [List.getD_eq_getElem?_getD, List.getElem?_eq_getElem h2]; exact List.getElem_mem h2
end
section
variable {g : Grid} {c b : Cloud} {t : Int} {n : Nat}
theorem at2E (hc : cloudE g c = 0) (hb : cloudE g b = 0) (h1 : 0 ≤ t) (h2 : t ≤ 7200) : atE g [c, b] t = 0 := by
  have hg := cloudE_grid hc
  have e : firstE (fun k => cloudE g ([c, b].getD k default)) [c, b].length = 0 := by simp [firstE, hc, hb]
  unfold atE
  rw [if_neg (fun q => q hg), if_neg (by simp), e, if_neg (by omega), if_neg (by omega)]
theorem at2L (hE : atE g [c, b] t = 0) (hn : n < (g.wide * g.high).toNat) : (atL g [c, b] t)[n]? = some (max (stateOf g c (n : Nat) t) (stateOf g b (n : Nat) t)) := by
  unfold atL
  rw [if_neg (by omega), List.getElem?_map, List.getElem?_range hn]
  have h1 := stateOf_3 g c (n : Nat) t
  have h2 := stateOf_3 g b (n : Nat) t
  refine congrArg some (Eq.trans (b := max (max 0 (stateOf g c (n : Nat) t)) (stateOf g b (n : Nat) t)) rfl ?_)
  omega
theorem atLn {l : List Cloud} (hE : atE g l t = 0) (h : 0 ≤ g.wide * g.high) : ((atL g l t).length : Int) = g.wide * g.high := by
  unfold atL
  rw [if_neg (by omega)]; simp; omega
theorem at2_comm (h1 : atE g [c, b] t = 0) (h2 : atE g [b, c] t = 0) : atL g [c, b] t = atL g [b, c] t := by
  unfold atL
  rw [if_neg (by omega), if_neg (by omega)]
  refine List.map_congr_left fun p _ => ?_
  show max (max 0 _) _ = max (max 0 _) _
  omega
end

set_option maxRecDepth 20000 in
theorem CastNarrow_c (d o : Draft) (pp po_ : Option Addr) (cp co : Nat) (c0 c1 c2 c3 : Int) (dr : List Int) (pd : Option Addr) (cd : Nat) (ld : Int) (w : World) (hd : dOk d) (hp : Byts w pp d.pix) (ho : dOk o) (hpo : Byts w po_ o.pix) (hc0 : 0 ≤ c0 ∧ c0 ≤ 4294967295) (hc1 : 0 ≤ c1 ∧ c1 ≤ 4294967295) (hc2 : 0 ≤ c2 ∧ c2 ≤ 4294967295) (hc3 : 0 ≤ c3 ∧ c3 ≤ 4294967295) (hdr : Byts w pd dr) (hl1 : 0 ≤ ld) (hl2 : ld ≤ 255) :
  Calls Try.prog 4 #[.agg #[.int .u8 d.wide, .int .u8 d.high, .slice pp d.pix.length cp, .int .i32 d.x0, .int .i32 d.x1, .int .i32 d.y0, .int .i32 d.y1, .int .u16 d.grow], .agg #[.int .u8 o.wide, .int .u8 o.high, .slice po_ o.pix.length co, .int .i32 o.x0, .int .i32 o.x1, .int .i32 o.y0, .int .i32 o.y1, .int .u16 o.grow], .agg #[.int .u32 c0, .int .u32 c1, .int .u32 c2, .int .u32 c3], .slice pd dr.length cd, .int .u8 ld] w fun e w' => e = .returned (.bool true) ∧ St (bs w) [] w' := by
  have hdk := hd
  obtain ⟨⟨hd1, hd2⟩, ⟨hd3, hd4⟩, ⟨hd5, hd6⟩, ⟨hd7, hd8⟩, ⟨hd9, hd10⟩, ⟨hd11, hd12⟩, hd13, hd14⟩ := hd
  have hd := hdk
  have hw8 : 1 ≤ dW d ∧ dW d ≤ 8 := dW_bd hd1
  have hh8 : 1 ≤ dH d ∧ dH d ≤ 8 := dH_bd hd3
  have har := mul8 hw8.1 hw8.2 hh8.1 hh8.2
  have hld := tmod_pos hl1 (n := 121) (by decide)
  have hgd : (dG d).wide * (dG d).high = dW d * dH d := rfl
  have hfl := dF_bd d
  have hgr0 : 0 ≤ (dC d).grow ∧ (dC d).grow ≤ 10000 := dgrow_bd hd13
  have hg2 : (dC d).grow.tdiv 2 = (dC d).grow / 2 := Int.tdiv_eq_ediv_of_nonneg hgr0.1
  refine enter (vs := [_, _, _, _, _]) (env := [(0, _), (1, _), (2, _), (3, _), (4, _)]) Try.func4 rfl rfl rfl rfl ?_
  refine VC.seq ?_
  refine VC.reg (VO.h rfl <| HO.box (C := #[_, _, _, _, _, _, _, _]) rfl rfl fun b1 => VO.h rfl <| HO.box (C := #[_, _, _, _, _, _, _, _]) rfl rfl fun b2 => VO.h rfl <| HO.box (C := #[_, _, _, _]) rfl rfl fun b3 => VO.l (LO.as (.r rfl)) rfl <| VO.nil ?_)
  refine VE.seqN ?_
  refine VC.seq ?_
  refine VC.reg (VO.l (LO.lda (vs := [_, _, _, _, _, _, _, _]) A49 (.r rfl) (fun _ hw => cells_at hw 2 rfl ⟨_, rfl⟩) rfl) rfl <| VO.h rfl <| HO.callx (xs := [_]) (vs := [_]) C20 ⟨(.r rfl), trivial⟩ (fun w hw => made_c d pp cp w hd (hp.keep w hw)) fun x _ => VO.h rfl <| HO.lo (LO.mv (.r rfl)) <| VO.h rfl <| HO.lo (LO.ex (.r rfl) rfl) <| VO.h rfl <| HO.lo (LO.ex (.r rfl) rfl) <| VO.h rfl <| HO.lo (LO.ex (.r rfl) rfl) <| VO.h rfl <| HO.alloc (C := #[_, _, _, _, _]) Z23 rfl fun b6 => VO.h rfl <| HO.alloc (C := #[_, _, _, _, _, _, _]) Z34 rfl fun b7 => VO.h0 <| HO.st 1 (vs := [_, _, _, _, _]) (C' := [_, _, _, _, _]) (L' := [_, _, _, _, _, _, _]) N23 rfl rfl rfl rfl rfl rfl rfl rfl <| VO.h0 <| HO.st 0 (vs := [_, _, _, _, _, _, _]) (C' := [_, _, _, _, _, _, _]) (L' := [_, _, _, _, _, _, _]) N34 rfl rfl rfl rfl rfl rfl rfl rfl <| VO.h rfl <| HO.lo (LO.as (.r rfl)) <| VO.nil ?_)
  refine VE.seqN ?_
  refine VC.seq ?_
  refine VC.seq ?_
  refine VC.reg (VO.l (LO.mv (.r rfl)) rfl <| VO.l (LO.not (.r rfl)) rfl <| VO.nil ?_)
  refine VE.seqN ?_
  refine VC.cond rfl (fun h1 => ?_) (fun h1 => ?_)
  ·
    refine VC.seq ?_
    refine VC.reg (VO.l (LO.call (xs := []) (vs := []) C14 trivial (fun w _ => works_c w)) rfl <| VO.l (LO.as (.r rfl)) rfl <| VO.nil ?_)
    refine VE.seqN ?_
    refine VC.ret (VE.thenR (VE.res (vs := [_]) rfl ⟨rfl, trivial⟩ (fun w hw => ?_)))
    exact ⟨rfl, hw.nil⟩
  ·
    have h1 : (0 : Int) < ((dC d).may.length : Int) := Classical.not_not.1 h1
    have hcl0 := dC_ok hdk (by omega)
    have hE := at1E hcl0 (t := ld.tmod 121) (by omega) (by omega)
    have hLn := at1len hE (by show 0 ≤ dW d * dH d; omega)
    have hsm := sure_may hcl0
    refine VC.skip (VE.seqN ?_)
    refine VC.seq ?_
    refine VC.reg (VO.l (LO.mv (.r rfl)) rfl <| VO.l (LO.cv ⟨_, Try.underlying5⟩ Try.underlying3 (.r rfl) (wi (by omega) (by omega))) rfl <| VO.l (LO.rem (.r rfl) (.r rfl) (by omega)) rfl <| VO.l (LO.as (.r rfl)) rfl <| VO.nil ?_)
    refine VE.seqN ?_
    refine VC.seq ?_
    refine VC.drawH [[0, 1, 2, 3, 4, 5, 6], [0, 1, 2, 3, 4, 5, 6], [0, 1, 2, 3, 4, 5, 6]] [some 1, some 1, some 1, some 1, some 1, some 1, some 1, some 1, some 1, some 1, some 1, some 1, some 1, some 1, some 1, some 1, some 1, some 1, some 1, some 1, some 1, none, none] mixed (by kernel_rfl) rfl (LX.l (fun _ hJ => LO.fa (r := 2) F34_2 (.r rfl) rfl) rfl <| LX.l (fun _ hJ => LO.fa (r := 2) F32_0 (.r rfl) rfl) rfl <| LX.l (fun _ hJ => LO.lda (vs := [_, _]) A30 (.r rfl) (fun _ hw => cells_at (hJ _ hw) 0 rfl ⟨_, rfl⟩) rfl) rfl <| LX.l (fun _ hJ => LO.ixa (j := 0) (r := 0) Try.underlying51 N50 (.r rfl) (.r rfl) rfl (by decide) rfl) rfl <| LX.l (fun _ hJ => LO.ld O50 (.r rfl) (fun _ hw => cells_at (hJ _ hw) 4 rfl ⟨_, rfl⟩)) rfl <| LX.l (fun _ hJ => LO.ixa (j := 1) (r := 1) Try.underlying51 N50 (.r rfl) (.r rfl) rfl (by decide) rfl) rfl <| LX.l (fun _ hJ => LO.ld O50 (.r rfl) (fun _ hw => cells_at (hJ _ hw) 4 rfl ⟨_, rfl⟩)) rfl <| LX.l (fun _ hJ => LO.call (xs := [_, _, _]) (vs := [_, _, _]) C21 ⟨(.r rfl), (.r rfl), (.r rfl), trivial⟩ (fun w _ => inner_c _ _ _ _ w (by omega) (by omega) (by omega) hc0.1 hc0.2 hc1.1 hc1.2)) rfl <| LX.l (fun _ hJ => LO.fa (r := 2) F34_2 (.r rfl) rfl) rfl <| LX.l (fun _ hJ => LO.fa (r := 4) F32_1 (.r rfl) rfl) rfl <| LX.l (fun _ hJ => LO.lda (vs := [_, _]) A30 (.r rfl) (fun _ hw => cells_at (hJ _ hw) 0 rfl ⟨_, rfl⟩) rfl) rfl <| LX.l (fun _ hJ => LO.ixa (j := 2) (r := 2) Try.underlying51 N50 (.r rfl) (.r rfl) rfl (by decide) rfl) rfl <| LX.l (fun _ hJ => LO.ld O50 (.r rfl) (fun _ hw => cells_at (hJ _ hw) 4 rfl ⟨_, rfl⟩)) rfl <| LX.l (fun _ hJ => LO.ixa (j := 3) (r := 3) Try.underlying51 N50 (.r rfl) (.r rfl) rfl (by decide) rfl) rfl <| LX.l (fun _ hJ => LO.ld O50 (.r rfl) (fun _ hw => cells_at (hJ _ hw) 4 rfl ⟨_, rfl⟩)) rfl <| LX.l (fun _ hJ => LO.call (xs := [_, _, _]) (vs := [_, _, _]) C21 ⟨(.r rfl), (.r rfl), (.r rfl), trivial⟩ (fun w _ => inner_c _ _ _ _ w (by omega) (by omega) (by omega) hc2.1 hc2.2 hc3.1 hc3.2)) rfl <| LX.l (fun _ hJ => LO.bd (ps := [(_, _), (_, _)]) (vs := [(_, _), (_, _)]) (C := [_, _, _, _]) B32 ⟨(.r rfl), (.r rfl), trivial⟩ rfl ⟨_, [_, _], [_, _, _, _], rfl, rfl, rfl, rfl, ⟨_, [_, _], [_, _, _, _], rfl, rfl, rfl, rfl, rfl⟩⟩) rfl <| LX.l (fun _ hJ => LO.fa (r := 6) F34_3 (.r rfl) rfl) rfl <| LX.l (fun _ hJ => LO.ld O3 (.r rfl) (fun _ hw => cells_at (hJ _ hw) 0 rfl ⟨_, rfl⟩)) rfl <| LX.l (fun _ hJ => LO.quo (.r rfl) (.r rfl) (by omega) (wi (e := (dC d).grow.tdiv 2) (by omega) (by omega))) rfl <| LX.l (fun _ hJ => LO.bd (ps := [(_, _), (_, _)]) (vs := [(_, _), (_, _)]) (C := [_, _, _, _, _, _, _]) B34 ⟨(.r rfl), (.r rfl), trivial⟩ rfl ⟨_, [_, _, _, _], [_, _, _, _, _, _, _], rfl, rfl, rfl, rfl, ⟨_, [_], [_, _, _, _, _, _, _], rfl, rfl, rfl, rfl, rfl⟩⟩) rfl <| LX.s <| LX.s <| LX.nil) (HX.s <| HX.s <| HX.s <| HX.s <| HX.s <| HX.s <| HX.s <| HX.s <| HX.s <| HX.s <| HX.s <| HX.s <| HX.s <| HX.s <| HX.s <| HX.s <| HX.s <| HX.s <| HX.s <| HX.s <| HX.s <| HX.h rfl <| HO.alloc (C := #[_, _, _, _, _, _, _]) Z34 rfl fun b12 => ⟨fun _ hw => hw.sel [1, 2, 3, 4, 5, 6, 7] rfl, HX.h0 <| HO.st 0 (vs := [_, _, _, _, _, _, _]) (C' := [_, _, _, _, _, _, _]) (L' := [_, _, _, _, _, _, _, _]) N34 rfl rfl rfl rfl rfl rfl rfl rfl <| ⟨fun _ hw => hw.sel [1, 2, 3, 4, 5, 6, 7] rfl, HX.nil ?_⟩⟩)
    refine VE.seqN ?_
    refine VC.weak (env' := [(3, _), (5, _), (6, _), (11, _), (12, _), (14, _), (15, _)]) (.cons rfl (.cons rfl (.cons rfl (.cons rfl (.cons rfl (.cons rfl (.cons rfl .nil))))))) (fun _ h => h) ?_
    refine VC.seq ?_
    refine VC.seq ?_
    refine VC.reg (VO.l (LO.as (.r rfl)) rfl <| VO.nil ?_)
    refine VE.seqN ?_
    refine VC.block ?_
    refine VC.loopK (α := Nat × (List Int) × (List Int) × (Option Addr) × Nat × (Option Addr) × Nat) 1 (fun gx => [(16, .int .i64 (gx.1 : Nat))]) [(3, _), (5, _), (6, _), (11, _), (12, _), (14, _), (15, _)] (fun gx => [blk b12 (.cells #[.slice gx.2.2.2.1 gx.2.1.length gx.2.2.2.2.1, .slice gx.2.2.2.2.2.1 gx.2.2.1.length gx.2.2.2.2.2.2, .int .i64 (nF d c0 c1 c2 c3).a, .int .i64 (nF d c0 c1 c2 c3).b, .int .i64 (nF d c0 c1 c2 c3).c, .int .i64 (nF d c0 c1 c2 c3).d, .int .i64 ((dC d).grow.tdiv 2)] 34), own 3 1 gx.2.2.2.1 gx.2.2.2.2.1 (gx.2.1.map fun n => [.int .i64 n]), own 3 1 gx.2.2.2.2.2.1 gx.2.2.2.2.2.2 (gx.2.2.1.map fun n => [.int .i64 n])]) (fun gx => (gx.1 ≤ (dC d).may.length ∧ gx.2.1.length ≤ gx.1 ∧ gx.2.2.1.length ≤ gx.1) ∧ gx.2.1 = nsTo (dC d) dr gx.1 ∧ gx.2.2.1 = nmTo (dC d) dr gx.1) (fun gx => (dC d).may.length - gx.1) (0, [], [], none, 0, none, 0) (by exact ⟨⟨Nat.zero_le _, Nat.le_refl _, Nat.le_refl _⟩, rfl, rfl⟩) (.cons rfl (.cons rfl (.cons rfl (.cons rfl (.cons rfl (.cons rfl (.cons rfl (.cons rfl .nil)))))))) (fun _ h => (((h.ownNil 3 1).ownNil 3 1)).sel [2, 0, 1, 3, 4, 5, 6, 7, 8, 9] rfl) ?_
    rintro ⟨i, ls, lm, pbs, cbs, pbm, cbm⟩ ⟨hk0, hls, hlm⟩
    show VC _ _ _ _ _ ([(16, .int .i64 (i : Nat))] ++ _) ([blk b12 (.cells #[.slice pbs ls.length cbs, .slice pbm lm.length cbm, .int .i64 (nF d c0 c1 c2 c3).a, .int .i64 (nF d c0 c1 c2 c3).b, .int .i64 (nF d c0 c1 c2 c3).c, .int .i64 (nF d c0 c1 c2 c3).d, .int .i64 ((dC d).grow.tdiv 2)] 34), own 3 1 pbs cbs (ls.map fun n => [.int .i64 n]), own 3 1 pbm cbm (lm.map fun n => [.int .i64 n])] ++ _) _ _
    obtain ⟨hk, hk1, hk2⟩ : i ≤ (dC d).may.length ∧ ls.length ≤ i ∧ lm.length ≤ i := hk0
    have hls : ls = nsTo (dC d) dr i := hls
    have hlm : lm = nmTo (dC d) dr i := hlm
    have hlb := (dC_len d).2
    refine VC.seq ?_
    refine VC.seq ?_
    refine VC.reg (VO.l (LO.mv (.r rfl)) rfl <| VO.l (LO.fa (r := 1) F34_1 (.r rfl) rfl) rfl <| VO.l (LO.ld O28 (.r rfl) (fun _ hw => cells_at hw 3 rfl ⟨_, rfl⟩)) rfl <| VO.l (LO.len S28 (.r rfl) rfl) rfl <| VO.l (LO.lt (.r rfl) (.r rfl)) rfl <| VO.nil ?_)
    refine VE.seqN ?_
    refine VC.cond rfl (fun h2 => ?_) (fun h2 => ?_)
    ·
      obtain ⟨mi, hmi⟩ : ∃ mi, (dC d).may[i]? = some mi := ⟨_, List.getElem?_eq_getElem (by omega)⟩
      have hil : i < (dC d).may.length := (List.getElem?_eq_some_iff.1 hmi).1
      refine VC.skip (VE.seqN ?_)
      refine VC.seq ?_
      refine VC.block ?_
      refine VC.seq ?_
      refine VC.draw mixed (LL.l (LO.fa (r := 0) F34_0 (.r rfl) rfl) rfl <| LL.l (LO.ld O28 (.r rfl) (fun _ hw => cells_at hw 3 rfl ⟨_, rfl⟩)) rfl <| LL.l (LO.fa (r := 1) F34_1 (.r rfl) rfl) rfl <| LL.l (LO.ld O28 (.r rfl) (fun _ hw => cells_at hw 3 rfl ⟨_, rfl⟩)) rfl <| LL.l (LO.mv (.r rfl)) rfl <| LL.l (LO.ixo S28 N3 (fun _ hw => (own_rows hw 6 rfl).some (by simp)) (.r rfl) (.r rfl) rfl hil) rfl <| LL.l (LO.ld O3 (.r rfl) (fun w hw => cells_part (off := 0) (own_cell hw 6 rfl hmi) ⟨_, rfl⟩)) rfl <| LL.l (LO.call (xs := [_, _]) (vs := [_, _]) C22 ⟨(.r rfl), (.r rfl), trivial⟩ (fun w hw => has_c _ (dC d).sure _ _ w (dC_len d).1 (own_rows hw 5 rfl))) rfl <| LL.l (LO.as (.r rfl)) rfl <| LL.nil) (by kernel_rfl) ?_
      refine VE.seqN ?_
      refine VC.seq ?_
      refine VC.seq ?_
      refine VC.reg (VO.l (LO.mv (.r rfl)) rfl <| VO.l (LO.mv (.r rfl)) rfl <| VO.l (LO.len S45 (.r rfl) rfl) rfl <| VO.l (LO.lt (.r rfl) (.r rfl)) rfl <| VO.l (LO.mv (.r rfl)) rfl <| VO.lg rfl rfl (GD.t _) (fun hg => LO.mv (.r rfl)) rfl <| VO.lg rfl rfl (GD.t _) (fun hg => LO.not (.g hg rfl)) rfl <| VO.l (LO.pkA (.r rfl) rfl rfl (.r rfl)) rfl <| VO.l (LO.mv (.r rfl)) rfl <| VO.lg rfl rfl (GD.t _) (fun hg => LO.mv (.r rfl)) rfl <| VO.lg rfl rfl (GD.t _) (fun hg => LO.mv (.r rfl)) rfl <| VO.lg rfl rfl (GD.t _) (fun hg => LO.ixs S45 N5 hdr.some (.g hg rfl) (.g hg rfl) rfl (by have := narA hg; omega)) rfl <| VO.lg rfl rfl (GD.t _) (fun hg => LO.ld O5 (.g hg rfl) (fun w hw => cells_part (off := 0) ((hdr.at (j := i) (by first | exact narA hg | exact narB hg)) w hw) ⟨_, rfl⟩)) rfl <| VO.lg rfl rfl (GD.t _) (fun hg => LO.rem (.g hg rfl) (.r rfl) (by omega)) rfl <| VO.lg rfl rfl (GD.t _) (fun hg => LO.eq (.g hg rfl) (.r rfl)) rfl <| VO.l (LO.pkA (.r rfl) rfl rfl (.r rfl)) rfl <| VO.nil ?_)
      refine VE.seqN ?_
      refine VC.cond rfl (fun h3 => ?_) (fun h3 => ?_)
      ·
        refine VC.exit (VE.thenX (VE.inX (VE.seqN ?_)))
        refine VC.reg (VO.l (LO.mv (.r rfl)) rfl <| VO.l (LO.add (.r rfl) (.r rfl) (wi (by omega) (by omega))) rfl <| VO.l (LO.as (.r rfl)) rfl <| VO.nil ?_)
        refine VE.thenN fun a w ha hw => ⟨(i + 1, ls, lm, _, _, _, _), (by first | exact ⟨by simp <;> omega, nar_0 hmi hls (narC h3), nar_0m hmi hlm (narC h3)⟩ | exact ⟨by simp <;> omega, nar_1 hmi hls (narC' h3) (narD h4), nar_1m hmi hlm (narC' h3)⟩ | exact ⟨by simp <;> omega, nar_2 hmi hls (narC' h3) (narD' h4), nar_1m hmi hlm (narC' h3)⟩), (by dsimp only; omega), ha.sub (.cons rfl (.cons rfl (.cons rfl (.cons rfl (.cons rfl (.cons rfl (.cons rfl (.cons rfl .nil)))))))), hw⟩
      ·
        refine VC.skip (VE.seqN ?_)
        refine VC.seq ?_
        refine VC.drawH [[0, 1, 2, 3, 4, 5, 6, 7, 8, 9], [0, 1, 2, 3, 4, 5, 6, 7, 8, 9], [0, 1, 3, 4, 5, 6, 7, 8, 9], [1, 3, 4, 5, 6, 7, 8, 9]] [some 1, some 1, some 0, some 0, some 0, some 0, some 0, none, none, some 2, none] mixed (by kernel_rfl) rfl (LX.l (fun _ hJ => LO.fa (r := 1) F34_1 (.r rfl) rfl) rfl <| LX.l (fun _ hJ => LO.ld O28 (.r rfl) (fun _ hw => cells_at (hJ _ hw) 0 rfl ⟨_, rfl⟩)) rfl <| LX.l (fun _ hJ => LO.fa (r := 1) F34_1 (.r rfl) rfl) rfl <| LX.l (fun _ hJ => LO.ld O28 (.r rfl) (fun _ hw => cells_at (hJ _ hw) 3 rfl ⟨_, rfl⟩)) rfl <| LX.l (fun _ hJ => LO.mv (.r rfl)) rfl <| LX.l (fun _ hJ => LO.ixo S28 N3 (fun _ hw => (own_rows (hJ _ hw) 6 rfl).some (by simp)) (.r rfl) (.r rfl) rfl hil) rfl <| LX.l (fun _ hJ => LO.ld O3 (.r rfl) (fun w hw => cells_part (off := 0) (own_cell (hJ _ hw) 6 rfl hmi) ⟨_, rfl⟩)) rfl <| LX.s <| LX.s <| LX.l (fun _ hJ => LO.fa (r := 1) F34_1 (.r rfl) rfl) rfl <| LX.s <| LX.nil) (HX.s <| HX.s <| HX.s <| HX.s <| HX.s <| HX.s <| HX.s <| HX.h rfl <| HO.bs (ps := [(_, _)]) (vs := [(_, _)]) (Z := [_]) (C := [_]) S28 Z3 N3 ⟨(.r rfl), trivial⟩ rfl rfl rfl rfl ⟨_, [_], [_], rfl, rfl, rfl, rfl, rfl⟩ fun b19 => ⟨selJ (L1 := [_, _, _, _, _, _, _, _, _, _]) [1, 2, 3, 4, 5, 6, 7, 8, 9, 10] rfl rfl rfl, HX.h rfl <| HO.appT (mi) 3 0 (fun R => [_, _, _, R, _, _, _, _, _, _, _]) S28 S28 I3 (.r rfl) (.r rfl) rfl rfl rfl rfl rfl rfl rfl (fun _ => rfl) rfl (by omega) fun p8 c8 => ⟨selJ (L1 := [_, _, _, _, _, _, _, _, _]) [1, 2, 4, 5, 6, 7, 8, 9, 10] rfl rfl rfl, HX.s <| HX.h0 <| HO.st 1 (vs := [_]) (C' := [_, _, _, _, _, _, _]) (L' := [_, _, _, _, _, _, _, _, _, _, _]) N28 rfl rfl rfl rfl rfl rfl rfl rfl <| ⟨selJ (L1 := [_, _, _, _, _, _, _, _]) [2, 4, 5, 6, 7, 8, 9, 10] rfl rfl rfl, HX.nil ?_⟩⟩⟩)
        refine VE.seqN ?_
        refine VC.weak (env' := [(3, _), (5, _), (6, _), (11, _), (12, _), (14, _), (15, _), (16, _), (17, _)]) (.cons rfl (.cons rfl (.cons rfl (.cons rfl (.cons rfl (.cons rfl (.cons rfl (.cons rfl (.cons rfl .nil))))))))) (fun _ h => h) ?_
        refine VC.seq ?_
        refine VC.reg (VO.l (LO.mv (.r rfl)) rfl <| VO.l (LO.mv (.r rfl)) rfl <| VO.lg rfl rfl (GD.f _) (fun hg => LO.mv (.r rfl)) rfl <| VO.lg rfl rfl (GD.f _) (fun hg => LO.mv (.r rfl)) rfl <| VO.lg rfl rfl (GD.f _) (fun hg => LO.len S45 (.g hg rfl) rfl) rfl <| VO.lg rfl rfl (GD.f _) (fun hg => LO.lt (.g hg rfl) (.g hg rfl)) rfl <| VO.lg rfl rfl (GD.f _) (fun hg => LO.mv (.g hg rfl)) rfl <| VO.lg rfl rfl (GD.nt _ _) (fun hg => LO.mv (.r rfl)) rfl <| VO.lg rfl rfl (GD.nt _ _) (fun hg => LO.mv (.r rfl)) rfl <| VO.lg rfl rfl (GD.nt _ _) (fun hg => LO.ixs S45 N5 hdr.some (.g hg rfl) (.g hg rfl) rfl (by have := narB hg; omega)) rfl <| VO.lg rfl rfl (GD.nt _ _) (fun hg => LO.ld O5 (.g hg rfl) (fun w hw => cells_part (off := 0) ((hdr.at (j := i) (by first | exact narA hg | exact narB hg)) w hw) ⟨_, rfl⟩)) rfl <| VO.lg rfl rfl (GD.nt _ _) (fun hg => LO.rem (.g hg rfl) (.r rfl) (by omega)) rfl <| VO.lg rfl rfl (GD.nt _ _) (fun hg => LO.eq (.g hg rfl) (.r rfl)) rfl <| VO.lg rfl rfl (GD.f _) (fun hg => LO.pkA (.g hg rfl) rfl (and_e hg) (.r rfl)) rfl <| VO.l (LO.pkO (.r rfl) (.r rfl) rfl rfl) rfl <| VO.nil ?_)
        refine VE.seqN ?_
        refine VC.cond rfl (fun h4 => ?_) (fun h4 => ?_)
        ·
          refine VC.drawH [[0, 1, 2, 3, 4, 5, 6, 7, 8, 9, 10], [0, 1, 2, 3, 4, 5, 6, 7, 8, 9, 10], [0, 1, 3, 4, 5, 6, 7, 8, 9, 10], [0, 3, 4, 5, 6, 7, 8, 9, 10]] [some 1, some 1, some 0, some 0, some 0, some 0, some 0, none, none, some 2, none] mixed (by kernel_rfl) rfl (LX.l (fun _ hJ => LO.fa (r := 0) F34_0 (.r rfl) rfl) rfl <| LX.l (fun _ hJ => LO.ld O28 (.r rfl) (fun _ hw => cells_at (hJ _ hw) 1 rfl ⟨_, rfl⟩)) rfl <| LX.l (fun _ hJ => LO.fa (r := 1) F34_1 (.r rfl) rfl) rfl <| LX.l (fun _ hJ => LO.ld O28 (.r rfl) (fun _ hw => cells_at (hJ _ hw) 4 rfl ⟨_, rfl⟩)) rfl <| LX.l (fun _ hJ => LO.mv (.r rfl)) rfl <| LX.l (fun _ hJ => LO.ixo S28 N3 (fun _ hw => (own_rows (hJ _ hw) 7 rfl).some (by simp)) (.r rfl) (.r rfl) rfl hil) rfl <| LX.l (fun _ hJ => LO.ld O3 (.r rfl) (fun w hw => cells_part (off := 0) (own_cell (hJ _ hw) 7 rfl hmi) ⟨_, rfl⟩)) rfl <| LX.s <| LX.s <| LX.l (fun _ hJ => LO.fa (r := 0) F34_0 (.r rfl) rfl) rfl <| LX.s <| LX.nil) (HX.s <| HX.s <| HX.s <| HX.s <| HX.s <| HX.s <| HX.s <| HX.h rfl <| HO.bs (ps := [(_, _)]) (vs := [(_, _)]) (Z := [_]) (C := [_]) S28 Z3 N3 ⟨(.r rfl), trivial⟩ rfl rfl rfl rfl ⟨_, [_], [_], rfl, rfl, rfl, rfl, rfl⟩ fun b23 => ⟨selJ (L1 := [_, _, _, _, _, _, _, _, _, _, _]) [1, 2, 3, 4, 5, 6, 7, 8, 9, 10, 11] rfl rfl rfl, HX.h rfl <| HO.appT (mi) 3 0 (fun R => [_, _, _, R, _, _, _, _, _, _, _, _]) S28 S28 I3 (.r rfl) (.r rfl) rfl rfl rfl rfl rfl rfl rfl (fun _ => rfl) rfl (by omega) fun p8 c8 => ⟨selJ (L1 := [_, _, _, _, _, _, _, _, _, _]) [1, 2, 4, 5, 6, 7, 8, 9, 10, 11] rfl rfl rfl, HX.s <| HX.h0 <| HO.st 2 (vs := [_]) (C' := [_, _, _, _, _, _, _]) (L' := [_, _, _, _, _, _, _, _, _, _, _, _]) N28 rfl rfl rfl rfl rfl rfl rfl rfl <| ⟨selJ (L1 := [_, _, _, _, _, _, _, _, _]) [1, 4, 5, 6, 7, 8, 9, 10, 11] rfl rfl rfl, HX.nil ?_⟩⟩⟩)
          refine VE.inN (VE.seqN ?_)
          refine VC.reg (VO.l (LO.mv (.r rfl)) rfl <| VO.l (LO.add (.r rfl) (.r rfl) (wi (by omega) (by omega))) rfl <| VO.l (LO.as (.r rfl)) rfl <| VO.nil ?_)
          refine VE.thenN fun a w ha hw => ⟨(i + 1, ls ++ [mi], lm ++ [mi], _, _, _, _), (by first | exact ⟨by simp <;> omega, nar_0 hmi hls (narC h3), nar_0m hmi hlm (narC h3)⟩ | exact ⟨by simp <;> omega, nar_1 hmi hls (narC' h3) (narD h4), nar_1m hmi hlm (narC' h3)⟩ | exact ⟨by simp <;> omega, nar_2 hmi hls (narC' h3) (narD' h4), nar_1m hmi hlm (narC' h3)⟩), (by dsimp only; omega), ha.sub (.cons rfl (.cons rfl (.cons rfl (.cons rfl (.cons rfl (.cons rfl (.cons rfl (.cons rfl .nil)))))))), hw.sel [2, 3, 4, 5, 6, 7, 8, 9, 10, 11] rfl⟩
        ·
          refine VC.skip (VE.inN (VE.seqN ?_))
          refine VC.reg (VO.l (LO.mv (.r rfl)) rfl <| VO.l (LO.add (.r rfl) (.r rfl) (wi (by omega) (by omega))) rfl <| VO.l (LO.as (.r rfl)) rfl <| VO.nil ?_)
          refine VE.thenN fun a w ha hw => ⟨(i + 1, ls, lm ++ [mi], _, _, _, _), (by first | exact ⟨by simp <;> omega, nar_0 hmi hls (narC h3), nar_0m hmi hlm (narC h3)⟩ | exact ⟨by simp <;> omega, nar_1 hmi hls (narC' h3) (narD h4), nar_1m hmi hlm (narC' h3)⟩ | exact ⟨by simp <;> omega, nar_2 hmi hls (narC' h3) (narD' h4), nar_1m hmi hlm (narC' h3)⟩), (by dsimp only; omega), ha.sub (.cons rfl (.cons rfl (.cons rfl (.cons rfl (.cons rfl (.cons rfl (.cons rfl (.cons rfl .nil)))))))), hw.sel [1, 2, 3, 4, 5, 6, 7, 8, 9, 10] rfl⟩
    ·
      have hi : i = (dC d).may.length := by omega
      subst hi
      have hbl : ls.length < 1000000000000 ∧ lm.length < 1000000000000 := by have := (dC_len d).2; omega
      refine VC.exit (VE.thenX (VE.thenX (VE.inX (VE.seqN ?_))))
      refine VC.seq ?_
      refine VC.reg (VO.l (LO.lda (vs := [_, _, _, _, _]) A23 (.r rfl) (fun _ hw => cells_at hw 4 rfl ⟨_, rfl⟩) rfl) rfl <| VO.l (LO.lda (vs := [_, _, _, _, _, _, _]) A34 (.r rfl) (fun _ hw => cells_at hw 3 rfl ⟨_, rfl⟩) rfl) rfl <| VO.h rfl <| HO.bs (ps := [(_, _)]) (vs := [(_, _)]) (Z := [_, _, _, _, _, _, _]) (C := [_, _, _, _, _, _, _]) S24 Z34 N34 ⟨(.r rfl), trivial⟩ rfl rfl rfl rfl ⟨_, [_, _, _, _, _, _, _], [_, _, _, _, _, _, _], rfl, rfl, rfl, rfl, rfl⟩ fun b25 => VO.l (LO.mv (.r rfl)) rfl <| VO.h rfl <| HO.callx (xs := [_, _, _]) (vs := [_, _, _]) C17 ⟨(.r rfl), (.r rfl), (.r rfl), trivial⟩ (fun w hw => At_c (dG d) [cpD d x] (some ⟨_, 0, none⟩) 1 (ld.tmod 121) w (by show 1 < _; decide) (cloudsOne (cells_at hw 0 rfl ⟨[], rfl⟩) (own_rows hw 6 rfl) (own_rows hw 7 rfl) (dC_len d).1 (dC_len d).2)) fun y _ => VO.h rfl <| HO.lo (LO.mv (.r rfl)) <| VO.h rfl <| HO.lo (LO.ex (.r rfl) rfl) <| VO.h rfl <| HO.lo (LO.ex (.r rfl) rfl) <| VO.h rfl <| HO.lo (LO.as (.r rfl)) <| VO.h rfl <| HO.lo (LO.as (.r rfl)) <| VO.nil ?_)
      refine VE.seqN ?_
      refine VC.seq ?_
      refine VC.seq ?_
      refine VC.reg (VO.l (LO.mv (.r rfl)) rfl <| VO.l (LO.ne (.r rfl) (.r rfl)) rfl <| VO.l (LO.mv (.r rfl)) rfl <| VO.lg rfl rfl (GD.f _) (fun hg => LO.mv (.r rfl)) rfl <| VO.lg rfl rfl (GD.f _) (fun hg => LO.len S28 (.g hg rfl) rfl) rfl <| VO.lg rfl rfl (GD.f _) (fun hg => LO.fa (r := 3) F23_3 (.r rfl) rfl) rfl <| VO.lg rfl rfl (GD.f _) (fun hg => LO.ld O3 (.g hg rfl) (fun _ hw => cells_at hw 6 rfl ⟨_, rfl⟩)) rfl <| VO.lg rfl rfl (GD.f _) (fun hg => LO.fa (r := 4) F23_4 (.r rfl) rfl) rfl <| VO.lg rfl rfl (GD.f _) (fun hg => LO.ld O3 (.g hg rfl) (fun _ hw => cells_at hw 6 rfl ⟨_, rfl⟩)) rfl <| VO.lg rfl rfl (GD.f _) (fun hg => LO.mul (.g hg rfl) (.g hg rfl) (wi (by omega) (by omega))) rfl <| VO.lg rfl rfl (GD.f _) (fun hg => LO.ne (.g hg rfl) (.g hg rfl)) rfl <| VO.l (LO.pkO (.r rfl) (.r rfl) rfl rfl) rfl <| VO.nil ?_)
      refine VE.seqN ?_
      refine VC.cond rfl (fun h5 => ?_) (fun h5 => ?_)
      ·
        (exfalso; (rcases h5 with q | q; exact q hE; exact q hLn))
      ·
        refine VC.skip (VE.seqN ?_)
        refine VC.seq ?_
        refine VC.seq ?_
        refine VC.reg (VO.l (LO.fa (r := 1) F34_1 (.r rfl) rfl) rfl <| VO.l (LO.ld O28 (.r rfl) (fun _ hw => cells_at hw 2 rfl ⟨_, rfl⟩)) rfl <| VO.l (LO.len S28 (.r rfl) rfl) rfl <| VO.l (LO.gt (.r rfl) (.r rfl)) rfl <| VO.nil ?_)
        refine VE.seqN ?_
        refine VC.cond rfl (fun h6 => ?_) (fun h6 => ?_)
        ·
          have hb0 := nC_ok hdk hcl0 hls hlm (by omega) hc0 hc1 hc2 hc3
          have hEb := at1E hb0 (t := ld.tmod 121) (by omega) (by omega)
          have hLb := at1len hEb (by show 0 ≤ dW d * dH d; omega)
          refine VC.seq ?_
          refine VC.reg (VO.l (LO.lda (vs := [_, _, _, _, _]) A23 (.r rfl) (fun _ hw => cells_at hw 6 rfl ⟨_, rfl⟩) rfl) rfl <| VO.l (LO.lda (vs := [_, _, _, _, _, _, _]) A34 (.r rfl) (fun _ hw => cells_at hw 2 rfl ⟨_, rfl⟩) rfl) rfl <| VO.h rfl <| HO.bs (ps := [(_, _)]) (vs := [(_, _)]) (Z := [_, _, _, _, _, _, _]) (C := [_, _, _, _, _, _, _]) S24 Z34 N34 ⟨(.r rfl), trivial⟩ rfl rfl rfl rfl ⟨_, [_, _, _, _, _, _, _], [_, _, _, _, _, _, _], rfl, rfl, rfl, rfl, rfl⟩ fun b27 => VO.l (LO.mv (.r rfl)) rfl <| VO.h rfl <| HO.callx (xs := [_, _, _]) (vs := [_, _, _]) C17 ⟨(.r rfl), (.r rfl), (.r rfl), trivial⟩ (fun w hw => At_c (dG d) [⟨nC d c0 c1 c2 c3 ls lm, pbs, cbs, pbm, cbm⟩] (some ⟨_, 0, none⟩) 1 (ld.tmod 121) w (by show 1 < _; decide) (cloudsOne (cells_at hw 0 rfl ⟨[], rfl⟩) (own_rows hw 4 rfl) (own_rows hw 5 rfl) hbl.1 hbl.2)) fun z _ => VO.h rfl <| HO.lo (LO.mv (.r rfl)) <| VO.h rfl <| HO.lo (LO.ex (.r rfl) rfl) <| VO.h rfl <| HO.lo (LO.ex (.r rfl) rfl) <| VO.h rfl <| HO.lo (LO.as (.r rfl)) <| VO.h rfl <| HO.lo (LO.as (.r rfl)) <| VO.nil ?_)
          refine VE.seqN ?_
          refine VC.weak (env' := [(5, _), (6, _), (11, _), (12, _), (14, _), (18, _), (20, _), (21, _)]) (.cons rfl (.cons rfl (.cons rfl (.cons rfl (.cons rfl (.cons rfl (.cons rfl (.cons rfl .nil)))))))) (fun _ h => h) ?_
          refine VC.seq ?_
          refine VC.seq ?_
          refine VC.reg (VO.l (LO.mv (.r rfl)) rfl <| VO.l (LO.ne (.r rfl) (.r rfl)) rfl <| VO.l (LO.mv (.r rfl)) rfl <| VO.lg rfl rfl (GD.f _) (fun hg => LO.mv (.r rfl)) rfl <| VO.lg rfl rfl (GD.f _) (fun hg => LO.len S28 (.g hg rfl) rfl) rfl <| VO.lg rfl rfl (GD.f _) (fun hg => LO.mv (.r rfl)) rfl <| VO.lg rfl rfl (GD.f _) (fun hg => LO.len S28 (.g hg rfl) rfl) rfl <| VO.lg rfl rfl (GD.f _) (fun hg => LO.ne (.g hg rfl) (.g hg rfl)) rfl <| VO.l (LO.pkO (.r rfl) (.r rfl) rfl rfl) rfl <| VO.nil ?_)
          refine VE.seqN ?_
          refine VC.cond rfl (fun h7 => ?_) (fun h7 => ?_)
          ·
            (exfalso; (rcases h7 with q | q; exact q hEb; exact q (hLb.trans hLn.symm)))
          ·
            refine VC.skip (VE.seqN ?_)
            refine VC.seq ?_
            refine VC.reg (VO.l (LO.as (.r rfl)) rfl <| VO.nil ?_)
            refine VE.seqN ?_
            refine VC.block ?_
            refine VC.loopK (α := Nat) 0 (fun gx => [(22, .int .i64 (gx : Nat))]) [(5, _), (6, _), (11, _), (12, _), (14, _), (18, _), (20, _)] (fun gx => []) (fun gx => (gx : Int) ≤ dW d * dH d) (fun gx => (dW d * dH d).toNat - gx) 0 (by omega) (.cons rfl (.cons rfl (.cons rfl (.cons rfl (.cons rfl (.cons rfl (.cons rfl (.cons rfl .nil)))))))) (fun _ h => h) ?_
            rintro k hk
            refine VC.seq ?_
            refine VC.seq ?_
            refine VC.reg (VO.l (LO.mv (.r rfl)) rfl <| VO.l (LO.mv (.r rfl)) rfl <| VO.l (LO.len S28 (.r rfl) rfl) rfl <| VO.l (LO.lt (.r rfl) (.r rfl)) rfl <| VO.nil ?_)
            refine VE.seqN ?_
            refine VC.cond rfl (fun h8 => ?_) (fun h8 => ?_)
            ·
              have hkn : k < (dW d * dH d).toNat := by omega
              have hx1 := at1L hE (n := k) hkn
              have hy1 := at1L hEb (n := k) hkn
              have hkx := (List.getElem?_eq_some_iff.1 hx1).1
              have hky := (List.getElem?_eq_some_iff.1 hy1).1
              refine VC.skip (VE.seqN ?_)
              refine VC.seq ?_
              refine VC.block ?_
              refine VC.seq ?_
              refine VC.draw mixed (LL.l (LO.mv (.r rfl)) rfl <| LL.l (LO.mv (.r rfl)) rfl <| LL.l (LO.ixo S28 N3 (fun _ hw => (own_rows hw 2 rfl).some (by simp)) (.r rfl) (.r rfl) rfl hkx) rfl <| LL.l (LO.ld O3 (.r rfl) (fun w hw => cells_part (off := 0) (own_cell hw 2 rfl hx1) ⟨_, rfl⟩)) rfl <| LL.l (LO.ne (.r rfl) (.r rfl)) rfl <| LL.l (LO.mv (.r rfl)) rfl <| LL.lg rfl rfl (GD.t _) (fun hg => LO.mv (.r rfl)) rfl <| LL.lg rfl rfl (GD.t _) (fun hg => LO.mv (.r rfl)) rfl <| LL.lg rfl rfl (GD.t _) (fun hg => LO.ixo S28 N3 (fun _ hw => (own_rows hw 2 rfl).some (by simp)) (.g hg rfl) (.g hg rfl) rfl hkx) rfl <| LL.lg rfl rfl (GD.t _) (fun hg => LO.ld O3 (.g hg rfl) (fun w hw => cells_part (off := 0) (own_cell hw 2 rfl hx1) ⟨_, rfl⟩)) rfl <| LL.lg rfl rfl (GD.t _) (fun hg => LO.mv (.r rfl)) rfl <| LL.lg rfl rfl (GD.t _) (fun hg => LO.mv (.r rfl)) rfl <| LL.lg rfl rfl (GD.t _) (fun hg => LO.ixo S28 N3 (fun _ hw => (own_rows hw 0 rfl).some (by simp)) (.g hg rfl) (.g hg rfl) rfl hky) rfl <| LL.lg rfl rfl (GD.t _) (fun hg => LO.ld O3 (.g hg rfl) (fun w hw => cells_part (off := 0) (own_cell hw 0 rfl hy1) ⟨_, rfl⟩)) rfl <| LL.lg rfl rfl (GD.t _) (fun hg => LO.ne (.g hg rfl) (.g hg rfl)) rfl <| LL.l (LO.pkA (.r rfl) rfl rfl (.r rfl)) rfl <| LL.nil) (by kernel_rfl) ?_
              refine VE.seqN ?_
              refine VC.cond rfl (fun h9 => ?_) (fun h9 => ?_)
              ·
                (exfalso; (exact h9.2 (nar_all hdk hcl0 hb0 hls hlm hc0 hc1 hc2 hc3 hld.1 (by omega) hkn h9.1)))
              ·
                refine VC.skip (VE.inN (VE.seqN ?_))
                refine VC.reg (VO.l (LO.mv (.r rfl)) rfl <| VO.l (LO.add (.r rfl) (.r rfl) (wi (by omega) (by omega))) rfl <| VO.l (LO.as (.r rfl)) rfl <| VO.nil ?_)
                refine VE.thenN fun a w ha hw => ⟨k + 1, (by omega), (by omega), ha.sub (.cons rfl (.cons rfl (.cons rfl (.cons rfl (.cons rfl (.cons rfl (.cons rfl (.cons rfl .nil)))))))), hw⟩
            ·
              refine VC.exit (VE.thenX (VE.thenX (VE.inX (VE.seqN ?_))))
              refine VC.seq ?_
              have hod : dOk (oD d o) := ⟨hdk.1, hdk.2.1, ho.2.2⟩
              refine VC.drawH [[0, 1, 2, 3, 4, 5, 6, 7, 8, 9, 10, 11, 12, 13], [0, 1, 2, 3, 4, 5, 6, 7, 8, 9, 10, 11, 13], [0, 1, 2, 3, 4, 5, 6, 7, 8, 9, 10, 11, 13]] [some 0, some 0, some 1, some 1, some 0, none, some 1, none] mixed (by kernel_rfl) rfl (LX.l (fun _ hJ => LO.fa (r := 0) F49_0 (.r rfl) rfl) rfl <| LX.l (fun _ hJ => LO.ld (v := .int .u8 d.wide) O5 (.r rfl) (fun _ hw => cells_at (hJ _ hw) 13 rfl ⟨_, rfl⟩)) rfl <| LX.l (fun _ hJ => LO.fa (r := 1) F49_1 (.r rfl) rfl) rfl <| LX.l (fun _ hJ => LO.ld (v := .int .u8 d.high) O5 (.r rfl) (fun _ hw => cells_at (hJ _ hw) 12 rfl ⟨_, rfl⟩)) rfl <| LX.l (fun _ hJ => LO.fa (r := 0) F49_0 (.r rfl) rfl) rfl <| LX.s <| LX.l (fun _ hJ => LO.fa (r := 1) F49_1 (.r rfl) rfl) rfl <| LX.s <| LX.nil) (HX.s <| HX.s <| HX.s <| HX.s <| HX.s <| HX.h0 <| HO.st 12 (vs := [_]) (C' := [_, _, _, _, _, _, _, _]) (L' := [_, _, _, _, _, _, _, _, _, _, _, _, _, _]) N5 rfl rfl rfl rfl rfl rfl rfl rfl <| ⟨selJ (L1 := [_, _, _, _, _, _, _, _, _, _, _, _, _]) [0, 1, 2, 3, 4, 5, 6, 7, 8, 9, 10, 11, 13] rfl rfl rfl, HX.s <| HX.h0 <| HO.st 12 (vs := [_]) (C' := [_, _, _, _, _, _, _, _]) (L' := [_, _, _, _, _, _, _, _, _, _, _, _, _, _]) N5 rfl rfl rfl rfl rfl rfl rfl rfl <| ⟨selJ (L1 := [_, _, _, _, _, _, _, _, _, _, _, _, _]) [0, 1, 2, 3, 4, 5, 6, 7, 8, 9, 10, 11, 13] rfl rfl rfl, HX.nil ?_⟩⟩)
              refine VE.seqN ?_
              refine VC.seq ?_
              refine VC.reg (VO.l (LO.lda (vs := [_, _, _, _, _, _, _, _]) A49 (.r rfl) (fun _ hw => cells_at hw 12 rfl ⟨_, rfl⟩) rfl) rfl <| VO.h rfl <| HO.callx (xs := [_]) (vs := [_]) C20 ⟨(.r rfl), trivial⟩ (fun w hw => made_c (oD d o) po_ co w hod (hpo.keep w hw)) fun v _ => VO.h rfl <| HO.lo (LO.mv (.r rfl)) <| VO.h rfl <| HO.lo (LO.ex (.r rfl) rfl) <| VO.h rfl <| HO.lo (LO.ex (.r rfl) rfl) <| VO.h rfl <| HO.lo (LO.ex (.r rfl) rfl) <| VO.h rfl <| HO.alloc (C := #[_, _, _, _, _]) Z23 rfl fun b35 => VO.h rfl <| HO.alloc (C := #[_, _, _, _, _, _, _]) Z34 rfl fun b36 => VO.h0 <| HO.st 1 (vs := [_, _, _, _, _]) (C' := [_, _, _, _, _]) (L' := [_, _, _, _, _, _, _, _, _, _, _, _, _, _, _, _, _, _]) N23 rfl rfl rfl rfl rfl rfl rfl rfl <| VO.h0 <| HO.st 0 (vs := [_, _, _, _, _, _, _]) (C' := [_, _, _, _, _, _, _]) (L' := [_, _, _, _, _, _, _, _, _, _, _, _, _, _, _, _, _, _]) N34 rfl rfl rfl rfl rfl rfl rfl rfl <| VO.h rfl <| HO.lo (LO.as (.r rfl)) <| VO.nil ?_)
              refine VE.seqN ?_
              refine VC.seq ?_
              refine VC.seq ?_
              refine VC.reg (VO.l (LO.mv (.r rfl)) rfl <| VO.nil ?_)
              refine VE.seqN ?_
              refine VC.cond rfl (fun h10 => ?_) (fun h10 => ?_)
              ·
                have h10 : (0 : Int) < ((dC (oD d o)).may.length : Int) := h10
                have ho0 : cloudE (dG d) (dC (oD d o)) = 0 := dC_ok hod (by omega)
                have hE2 := at2E hcl0 ho0 (t := ld.tmod 121) (by omega) (by omega)
                have hE3 := at2E ho0 hcl0 (t := ld.tmod 121) (by omega) (by omega)
                have hE4 := at1E ho0 (t := ld.tmod 121) (by omega) (by omega)
                have hL2 := atLn hE2 (by show 0 ≤ dW d * dH d; omega)
                have hL4 := at1len hE4 (by show 0 ≤ dW d * dH d; omega)
                have hyz := at2_comm hE2 hE3
                refine VC.seq ?_
                refine VC.reg (VO.l (LO.lda (vs := [_, _, _, _, _]) A23 (.r rfl) (fun _ hw => cells_at hw 12 rfl ⟨_, rfl⟩) rfl) rfl <| VO.l (LO.lda (vs := [_, _, _, _, _, _, _]) A34 (.r rfl) (fun _ hw => cells_at hw 11 rfl ⟨_, rfl⟩) rfl) rfl <| VO.l (LO.lda (vs := [_, _, _, _, _, _, _]) A34 (.r rfl) (fun _ hw => cells_at hw 0 rfl ⟨_, rfl⟩) rfl) rfl <| VO.h rfl <| HO.bs (ps := [(_, _), (_, _)]) (vs := [(_, _), (_, _)]) (Z := [_, _, _, _, _, _, _, _, _, _, _, _, _, _]) (C := [_, _, _, _, _, _, _, _, _, _, _, _, _, _]) S24 Z34 N34 ⟨(.r rfl), (.r rfl), trivial⟩ rfl rfl rfl rfl ⟨_, [_, _, _, _, _, _, _], [_, _, _, _, _, _, _, _, _, _, _, _, _, _], rfl, rfl, rfl, rfl, ⟨_, [_, _, _, _, _, _, _], [_, _, _, _, _, _, _, _, _, _, _, _, _, _], rfl, rfl, rfl, rfl, rfl⟩⟩ fun b39 => VO.l (LO.mv (.r rfl)) rfl <| VO.h rfl <| HO.callx (xs := [_, _, _]) (vs := [_, _, _]) C17 ⟨(.r rfl), (.r rfl), (.r rfl), trivial⟩ (fun w hw => At_c (dG d) [cpD d x, cpD (oD d o) v] (some ⟨_, 0, none⟩) 2 (ld.tmod 121) w (by show 2 < _; decide) (cloudsTwo (cells_at hw 0 rfl ⟨[], rfl⟩) ⟨own_rows hw 14 rfl, own_rows hw 15 rfl, dC_len d⟩ ⟨own_rows hw 3 rfl, own_rows hw 4 rfl, dC_len (oD d o)⟩)) fun r1 _ => VO.h rfl <| HO.lo (LO.mv (.r rfl)) <| VO.h rfl <| HO.lo (LO.ex (.r rfl) rfl) <| VO.h rfl <| HO.lo (LO.ex (.r rfl) rfl) <| VO.h rfl <| HO.lo (LO.as (.r rfl)) <| VO.h rfl <| HO.lo (LO.as (.r rfl)) <| VO.nil ?_)
                refine VE.seqN ?_
                refine VC.seq ?_
                refine VC.reg (VO.l (LO.lda (vs := [_, _, _, _, _]) A23 (.r rfl) (fun _ hw => cells_at hw 14 rfl ⟨_, rfl⟩) rfl) rfl <| VO.l (LO.lda (vs := [_, _, _, _, _, _, _]) A34 (.r rfl) (fun _ hw => cells_at hw 2 rfl ⟨_, rfl⟩) rfl) rfl <| VO.l (LO.lda (vs := [_, _, _, _, _, _, _]) A34 (.r rfl) (fun _ hw => cells_at hw 13 rfl ⟨_, rfl⟩) rfl) rfl <| VO.h rfl <| HO.bs (ps := [(_, _), (_, _)]) (vs := [(_, _), (_, _)]) (Z := [_, _, _, _, _, _, _, _, _, _, _, _, _, _]) (C := [_, _, _, _, _, _, _, _, _, _, _, _, _, _]) S24 Z34 N34 ⟨(.r rfl), (.r rfl), trivial⟩ rfl rfl rfl rfl ⟨_, [_, _, _, _, _, _, _], [_, _, _, _, _, _, _, _, _, _, _, _, _, _], rfl, rfl, rfl, rfl, ⟨_, [_, _, _, _, _, _, _], [_, _, _, _, _, _, _, _, _, _, _, _, _, _], rfl, rfl, rfl, rfl, rfl⟩⟩ fun b41 => VO.l (LO.mv (.r rfl)) rfl <| VO.h rfl <| HO.callx (xs := [_, _, _]) (vs := [_, _, _]) C17 ⟨(.r rfl), (.r rfl), (.r rfl), trivial⟩ (fun w hw => At_c (dG d) [cpD (oD d o) v, cpD d x] (some ⟨_, 0, none⟩) 2 (ld.tmod 121) w (by show 2 < _; decide) (cloudsTwo (cells_at hw 0 rfl ⟨[], rfl⟩) ⟨own_rows hw 5 rfl, own_rows hw 6 rfl, dC_len (oD d o)⟩ ⟨own_rows hw 16 rfl, own_rows hw 17 rfl, dC_len d⟩)) fun r2 _ => VO.h rfl <| HO.lo (LO.mv (.r rfl)) <| VO.h rfl <| HO.lo (LO.ex (.r rfl) rfl) <| VO.h rfl <| HO.lo (LO.ex (.r rfl) rfl) <| VO.h rfl <| HO.lo (LO.as (.r rfl)) <| VO.h rfl <| HO.lo (LO.as (.r rfl)) <| VO.nil ?_)
                refine VE.seqN ?_
                refine VC.weak (env' := [(11, _), (14, _), (18, _), (24, _), (25, _), (26, _), (27, _), (28, _)]) (.cons rfl (.cons rfl (.cons rfl (.cons rfl (.cons rfl (.cons rfl (.cons rfl (.cons rfl .nil)))))))) (fun _ h => h) ?_
                refine VC.seq ?_
                refine VC.reg (VO.l (LO.lda (vs := [_, _, _, _, _]) A23 (.r rfl) (fun _ hw => cells_at hw 16 rfl ⟨_, rfl⟩) rfl) rfl <| VO.l (LO.lda (vs := [_, _, _, _, _, _, _]) A34 (.r rfl) (fun _ hw => cells_at hw 4 rfl ⟨_, rfl⟩) rfl) rfl <| VO.h rfl <| HO.bs (ps := [(_, _)]) (vs := [(_, _)]) (Z := [_, _, _, _, _, _, _]) (C := [_, _, _, _, _, _, _]) S24 Z34 N34 ⟨(.r rfl), trivial⟩ rfl rfl rfl rfl ⟨_, [_, _, _, _, _, _, _], [_, _, _, _, _, _, _], rfl, rfl, rfl, rfl, rfl⟩ fun b43 => VO.l (LO.mv (.r rfl)) rfl <| VO.h rfl <| HO.callx (xs := [_, _, _]) (vs := [_, _, _]) C17 ⟨(.r rfl), (.r rfl), (.r rfl), trivial⟩ (fun w hw => At_c (dG d) [cpD (oD d o) v] (some ⟨_, 0, none⟩) 1 (ld.tmod 121) w (by show 1 < _; decide) (cloudsOne (cells_at hw 0 rfl ⟨[], rfl⟩) (own_rows hw 7 rfl) (own_rows hw 8 rfl) (dC_len (oD d o)).1 (dC_len (oD d o)).2)) fun r3 _ => VO.h rfl <| HO.lo (LO.mv (.r rfl)) <| VO.h rfl <| HO.lo (LO.ex (.r rfl) rfl) <| VO.h rfl <| HO.lo (LO.ex (.r rfl) rfl) <| VO.h rfl <| HO.lo (LO.as (.r rfl)) <| VO.h rfl <| HO.lo (LO.as (.r rfl)) <| VO.nil ?_)
                refine VE.seqN ?_
                refine VC.seq ?_
                refine VC.seq ?_
                refine VC.reg (VO.l (LO.mv (.r rfl)) rfl <| VO.l (LO.ne (.r rfl) (.r rfl)) rfl <| VO.l (LO.mv (.r rfl)) rfl <| VO.lg rfl rfl (GD.f _) (fun hg => LO.mv (.r rfl)) rfl <| VO.lg rfl rfl (GD.f _) (fun hg => LO.ne (.g hg rfl) (.r rfl)) rfl <| VO.l (LO.pkO (.r rfl) (.r rfl) rfl rfl) rfl <| VO.l (LO.mv (.r rfl)) rfl <| VO.lg rfl rfl (GD.f _) (fun hg => LO.mv (.r rfl)) rfl <| VO.lg rfl rfl (GD.f _) (fun hg => LO.ne (.g hg rfl) (.r rfl)) rfl <| VO.l (LO.pkO (.r rfl) (.r rfl) rfl rfl) rfl <| VO.l (LO.mv (.r rfl)) rfl <| VO.lg rfl rfl (GD.f _) (fun hg => LO.mv (.r rfl)) rfl <| VO.lg rfl rfl (GD.f _) (fun hg => LO.mv (.r rfl)) rfl <| VO.lg rfl rfl (GD.f _) (fun hg => LO.call (xs := [_, _]) (vs := [_, _]) C19 ⟨(.g hg rfl), (.g hg rfl), trivial⟩ (fun w hw => ints_c r1.1 r2.1 _ _ r1.2 r2.2 w atL_lt atL_lt (own_rows hw 4 rfl) (own_rows hw 2 rfl))) rfl <| VO.lg rfl rfl (GD.f _) (fun hg => LO.not (.g hg rfl)) rfl <| VO.l (LO.pkO (.r rfl) (.r rfl) rfl rfl) rfl <| VO.l (LO.mv (.r rfl)) rfl <| VO.lg rfl rfl (GD.f _) (fun hg => LO.mv (.r rfl)) rfl <| VO.lg rfl rfl (GD.f _) (fun hg => LO.len S28 (.g hg rfl) rfl) rfl <| VO.lg rfl rfl (GD.f _) (fun hg => LO.mv (.r rfl)) rfl <| VO.lg rfl rfl (GD.f _) (fun hg => LO.len S28 (.g hg rfl) rfl) rfl <| VO.lg rfl rfl (GD.f _) (fun hg => LO.ne (.g hg rfl) (.g hg rfl)) rfl <| VO.l (LO.pkO (.r rfl) (.r rfl) rfl rfl) rfl <| VO.l (LO.mv (.r rfl)) rfl <| VO.lg rfl rfl (GD.f _) (fun hg => LO.mv (.r rfl)) rfl <| VO.lg rfl rfl (GD.f _) (fun hg => LO.len S28 (.g hg rfl) rfl) rfl <| VO.lg rfl rfl (GD.f _) (fun hg => LO.mv (.r rfl)) rfl <| VO.lg rfl rfl (GD.f _) (fun hg => LO.len S28 (.g hg rfl) rfl) rfl <| VO.lg rfl rfl (GD.f _) (fun hg => LO.ne (.g hg rfl) (.g hg rfl)) rfl <| VO.l (LO.pkO (.r rfl) (.r rfl) rfl rfl) rfl <| VO.nil ?_)
                refine VE.seqN ?_
                refine VC.weak (env' := [(18, _), (25, _), (29, _), (262, _)]) (.cons rfl (.cons rfl (.cons rfl (.cons rfl .nil)))) (fun _ h => h) ?_
                refine VC.cond rfl (fun h11 => ?_) (fun h11 => ?_)
                ·
                  (exfalso; (rcases h11 with ((((q | q) | q) | q) | q) | q; exact q hE2; exact q hE3; exact q hE4; exact q hyz; exact q (hL2.trans hLn.symm); exact q (hL4.trans hLn.symm)))
                ·
                  refine VC.skip (VE.seqN ?_)
                  refine VC.seq ?_
                  refine VC.reg (VO.l (LO.as (.r rfl)) rfl <| VO.nil ?_)
                  refine VE.seqN ?_
                  refine VC.block ?_
                  refine VC.loopK (α := Nat) 0 (fun gx => [(31, .int .i64 (gx : Nat))]) [(18, _), (25, _), (29, _)] (fun gx => []) (fun gx => (gx : Int) ≤ dW d * dH d) (fun gx => (dW d * dH d).toNat - gx) 0 (by omega) (.cons rfl (.cons rfl (.cons rfl (.cons rfl .nil)))) (fun _ h => h) ?_
                  rintro k hk
                  refine VC.seq ?_
                  refine VC.seq ?_
                  refine VC.reg (VO.l (LO.mv (.r rfl)) rfl <| VO.l (LO.mv (.r rfl)) rfl <| VO.l (LO.len S28 (.r rfl) rfl) rfl <| VO.l (LO.lt (.r rfl) (.r rfl)) rfl <| VO.nil ?_)
                  refine VE.seqN ?_
                  refine VC.cond rfl (fun h12 => ?_) (fun h12 => ?_)
                  ·
                    have hkn : k < (dW d * dH d).toNat := by omega
                    have hx1 := at1L hE (n := k) hkn
                    have hu1 := at1L hE4 (n := k) hkn
                    have hz1 := at2L hE2 (n := k) hkn
                    have hkx := (List.getElem?_eq_some_iff.1 hx1).1
                    have hku := (List.getElem?_eq_some_iff.1 hu1).1
                    have hkz := (List.getElem?_eq_some_iff.1 hz1).1
                    refine VC.skip (VE.seqN ?_)
                    refine VC.seq ?_
                    refine VC.block ?_
                    refine VC.seq ?_
                    refine VC.draw mixed (LL.l (LO.mv (.r rfl)) rfl <| LL.l (LO.mv (.r rfl)) rfl <| LL.l (LO.ixo S28 N3 (fun _ hw => (own_rows hw 4 rfl).some (by simp)) (.r rfl) (.r rfl) rfl hkz) rfl <| LL.l (LO.ld O3 (.r rfl) (fun w hw => cells_part (off := 0) (own_cell hw 4 rfl hz1) ⟨_, rfl⟩)) rfl <| LL.l (LO.mv (.r rfl)) rfl <| LL.l (LO.mv (.r rfl)) rfl <| LL.l (LO.ixo S28 N3 (fun _ hw => (own_rows hw 12 rfl).some (by simp)) (.r rfl) (.r rfl) rfl hkx) rfl <| LL.l (LO.ld O3 (.r rfl) (fun w hw => cells_part (off := 0) (own_cell hw 12 rfl hx1) ⟨_, rfl⟩)) rfl <| LL.l (LO.mv (.r rfl)) rfl <| LL.l (LO.mv (.r rfl)) rfl <| LL.l (LO.ixo S28 N3 (fun _ hw => (own_rows hw 0 rfl).some (by simp)) (.r rfl) (.r rfl) rfl hku) rfl <| LL.l (LO.ld O3 (.r rfl) (fun w hw => cells_part (off := 0) (own_cell hw 0 rfl hu1) ⟨_, rfl⟩)) rfl <| LL.l (LO.max (.r rfl) (.r rfl)) rfl <| LL.l (LO.ne (.r rfl) (.r rfl)) rfl <| LL.nil) (by kernel_rfl) ?_
                    refine VE.seqN ?_
                    refine VC.cond rfl (fun h13 => ?_) (fun h13 => ?_)
                    ·
                      (exfalso; (exact h13 rfl))
                    ·
                      refine VC.skip (VE.inN (VE.seqN ?_))
                      refine VC.reg (VO.l (LO.mv (.r rfl)) rfl <| VO.l (LO.add (.r rfl) (.r rfl) (wi (by omega) (by omega))) rfl <| VO.l (LO.as (.r rfl)) rfl <| VO.nil ?_)
                      refine VE.thenN fun a w ha hw => ⟨k + 1, (by omega), (by omega), ha.sub (.cons rfl (.cons rfl (.cons rfl (.cons rfl .nil)))), hw⟩
                  ·
                    refine VC.exit (VE.thenX (VE.thenX (VE.inX (VE.seqN ?_))))
                    refine VC.seq ?_
                    refine VC.reg (VO.l (LO.call (xs := []) (vs := []) C14 trivial (fun w _ => works_c w)) rfl <| VO.l (LO.as (.r rfl)) rfl <| VO.nil ?_)
                    refine VE.seqN ?_
                    refine VC.ret (VE.res (vs := [_]) rfl ⟨rfl, trivial⟩ (fun w hw => ?_))
                    exact ⟨rfl, hw.nil⟩
              ·
                refine VC.skip (VE.seqN ?_)
                refine VC.seq ?_
                refine VC.reg (VO.l (LO.call (xs := []) (vs := []) C14 trivial (fun w _ => works_c w)) rfl <| VO.l (LO.as (.r rfl)) rfl <| VO.nil ?_)
                refine VE.seqN ?_
                refine VC.ret (VE.res (vs := [_]) rfl ⟨rfl, trivial⟩ (fun w hw => ?_))
                exact ⟨rfl, hw.nil⟩
        ·
          refine VC.skip (VE.seqN ?_)
          refine VC.seq ?_
          have hod : dOk (oD d o) := ⟨hdk.1, hdk.2.1, ho.2.2⟩
          refine VC.drawH [[0, 1, 2, 3, 4, 5, 6, 7, 8, 9, 10, 11], [0, 1, 2, 3, 4, 5, 6, 7, 8, 9, 11], [0, 1, 2, 3, 4, 5, 6, 7, 8, 9, 11]] [some 0, some 0, some 1, some 1, some 0, none, some 1, none] mixed (by kernel_rfl) rfl (LX.l (fun _ hJ => LO.fa (r := 0) F49_0 (.r rfl) rfl) rfl <| LX.l (fun _ hJ => LO.ld (v := .int .u8 d.wide) O5 (.r rfl) (fun _ hw => cells_at (hJ _ hw) 11 rfl ⟨_, rfl⟩)) rfl <| LX.l (fun _ hJ => LO.fa (r := 1) F49_1 (.r rfl) rfl) rfl <| LX.l (fun _ hJ => LO.ld (v := .int .u8 d.high) O5 (.r rfl) (fun _ hw => cells_at (hJ _ hw) 10 rfl ⟨_, rfl⟩)) rfl <| LX.l (fun _ hJ => LO.fa (r := 0) F49_0 (.r rfl) rfl) rfl <| LX.s <| LX.l (fun _ hJ => LO.fa (r := 1) F49_1 (.r rfl) rfl) rfl <| LX.s <| LX.nil) (HX.s <| HX.s <| HX.s <| HX.s <| HX.s <| HX.h0 <| HO.st 10 (vs := [_]) (C' := [_, _, _, _, _, _, _, _]) (L' := [_, _, _, _, _, _, _, _, _, _, _, _]) N5 rfl rfl rfl rfl rfl rfl rfl rfl <| ⟨selJ (L1 := [_, _, _, _, _, _, _, _, _, _, _]) [0, 1, 2, 3, 4, 5, 6, 7, 8, 9, 11] rfl rfl rfl, HX.s <| HX.h0 <| HO.st 10 (vs := [_]) (C' := [_, _, _, _, _, _, _, _]) (L' := [_, _, _, _, _, _, _, _, _, _, _, _]) N5 rfl rfl rfl rfl rfl rfl rfl rfl <| ⟨selJ (L1 := [_, _, _, _, _, _, _, _, _, _, _]) [0, 1, 2, 3, 4, 5, 6, 7, 8, 9, 11] rfl rfl rfl, HX.nil ?_⟩⟩)
          refine VE.seqN ?_
          refine VC.weak (env' := [(6, _), (11, _), (12, _), (14, _), (18, _)]) (.cons rfl (.cons rfl (.cons rfl (.cons rfl (.cons rfl .nil))))) (fun _ h => h) ?_
          refine VC.seq ?_
          refine VC.reg (VO.l (LO.lda (vs := [_, _, _, _, _, _, _, _]) A49 (.r rfl) (fun _ hw => cells_at hw 10 rfl ⟨_, rfl⟩) rfl) rfl <| VO.h rfl <| HO.callx (xs := [_]) (vs := [_]) C20 ⟨(.r rfl), trivial⟩ (fun w hw => made_c (oD d o) po_ co w hod (hpo.keep w hw)) fun v _ => VO.h rfl <| HO.lo (LO.mv (.r rfl)) <| VO.h rfl <| HO.lo (LO.ex (.r rfl) rfl) <| VO.h rfl <| HO.lo (LO.ex (.r rfl) rfl) <| VO.h rfl <| HO.lo (LO.ex (.r rfl) rfl) <| VO.h rfl <| HO.alloc (C := #[_, _, _, _, _]) Z23 rfl fun b51 => VO.h rfl <| HO.alloc (C := #[_, _, _, _, _, _, _]) Z34 rfl fun b52 => VO.h0 <| HO.st 1 (vs := [_, _, _, _, _]) (C' := [_, _, _, _, _]) (L' := [_, _, _, _, _, _, _, _, _, _, _, _, _, _, _, _]) N23 rfl rfl rfl rfl rfl rfl rfl rfl <| VO.h0 <| HO.st 0 (vs := [_, _, _, _, _, _, _]) (C' := [_, _, _, _, _, _, _]) (L' := [_, _, _, _, _, _, _, _, _, _, _, _, _, _, _, _]) N34 rfl rfl rfl rfl rfl rfl rfl rfl <| VO.h rfl <| HO.lo (LO.as (.r rfl)) <| VO.nil ?_)
          refine VE.seqN ?_
          refine VC.seq ?_
          refine VC.seq ?_
          refine VC.reg (VO.l (LO.mv (.r rfl)) rfl <| VO.nil ?_)
          refine VE.seqN ?_
          refine VC.cond rfl (fun h10 => ?_) (fun h10 => ?_)
          ·
            have h10 : (0 : Int) < ((dC (oD d o)).may.length : Int) := h10
            have ho0 : cloudE (dG d) (dC (oD d o)) = 0 := dC_ok hod (by omega)
            have hE2 := at2E hcl0 ho0 (t := ld.tmod 121) (by omega) (by omega)
            have hE3 := at2E ho0 hcl0 (t := ld.tmod 121) (by omega) (by omega)
            have hE4 := at1E ho0 (t := ld.tmod 121) (by omega) (by omega)
            have hL2 := atLn hE2 (by show 0 ≤ dW d * dH d; omega)
            have hL4 := at1len hE4 (by show 0 ≤ dW d * dH d; omega)
            have hyz := at2_comm hE2 hE3
            refine VC.seq ?_
            refine VC.reg (VO.l (LO.lda (vs := [_, _, _, _, _]) A23 (.r rfl) (fun _ hw => cells_at hw 10 rfl ⟨_, rfl⟩) rfl) rfl <| VO.l (LO.lda (vs := [_, _, _, _, _, _, _]) A34 (.r rfl) (fun _ hw => cells_at hw 9 rfl ⟨_, rfl⟩) rfl) rfl <| VO.l (LO.lda (vs := [_, _, _, _, _, _, _]) A34 (.r rfl) (fun _ hw => cells_at hw 0 rfl ⟨_, rfl⟩) rfl) rfl <| VO.h rfl <| HO.bs (ps := [(_, _), (_, _)]) (vs := [(_, _), (_, _)]) (Z := [_, _, _, _, _, _, _, _, _, _, _, _, _, _]) (C := [_, _, _, _, _, _, _, _, _, _, _, _, _, _]) S24 Z34 N34 ⟨(.r rfl), (.r rfl), trivial⟩ rfl rfl rfl rfl ⟨_, [_, _, _, _, _, _, _], [_, _, _, _, _, _, _, _, _, _, _, _, _, _], rfl, rfl, rfl, rfl, ⟨_, [_, _, _, _, _, _, _], [_, _, _, _, _, _, _, _, _, _, _, _, _, _], rfl, rfl, rfl, rfl, rfl⟩⟩ fun b55 => VO.l (LO.mv (.r rfl)) rfl <| VO.h rfl <| HO.callx (xs := [_, _, _]) (vs := [_, _, _]) C17 ⟨(.r rfl), (.r rfl), (.r rfl), trivial⟩ (fun w hw => At_c (dG d) [cpD d x, cpD (oD d o) v] (some ⟨_, 0, none⟩) 2 (ld.tmod 121) w (by show 2 < _; decide) (cloudsTwo (cells_at hw 0 rfl ⟨[], rfl⟩) ⟨own_rows hw 12 rfl, own_rows hw 13 rfl, dC_len d⟩ ⟨own_rows hw 3 rfl, own_rows hw 4 rfl, dC_len (oD d o)⟩)) fun r1 _ => VO.h rfl <| HO.lo (LO.mv (.r rfl)) <| VO.h rfl <| HO.lo (LO.ex (.r rfl) rfl) <| VO.h rfl <| HO.lo (LO.ex (.r rfl) rfl) <| VO.h rfl <| HO.lo (LO.as (.r rfl)) <| VO.h rfl <| HO.lo (LO.as (.r rfl)) <| VO.nil ?_)
            refine VE.seqN ?_
            refine VC.seq ?_
            refine VC.reg (VO.l (LO.lda (vs := [_, _, _, _, _]) A23 (.r rfl) (fun _ hw => cells_at hw 12 rfl ⟨_, rfl⟩) rfl) rfl <| VO.l (LO.lda (vs := [_, _, _, _, _, _, _]) A34 (.r rfl) (fun _ hw => cells_at hw 2 rfl ⟨_, rfl⟩) rfl) rfl <| VO.l (LO.lda (vs := [_, _, _, _, _, _, _]) A34 (.r rfl) (fun _ hw => cells_at hw 11 rfl ⟨_, rfl⟩) rfl) rfl <| VO.h rfl <| HO.bs (ps := [(_, _), (_, _)]) (vs := [(_, _), (_, _)]) (Z := [_, _, _, _, _, _, _, _, _, _, _, _, _, _]) (C := [_, _, _, _, _, _, _, _, _, _, _, _, _, _]) S24 Z34 N34 ⟨(.r rfl), (.r rfl), trivial⟩ rfl rfl rfl rfl ⟨_, [_, _, _, _, _, _, _], [_, _, _, _, _, _, _, _, _, _, _, _, _, _], rfl, rfl, rfl, rfl, ⟨_, [_, _, _, _, _, _, _], [_, _, _, _, _, _, _, _, _, _, _, _, _, _], rfl, rfl, rfl, rfl, rfl⟩⟩ fun b57 => VO.l (LO.mv (.r rfl)) rfl <| VO.h rfl <| HO.callx (xs := [_, _, _]) (vs := [_, _, _]) C17 ⟨(.r rfl), (.r rfl), (.r rfl), trivial⟩ (fun w hw => At_c (dG d) [cpD (oD d o) v, cpD d x] (some ⟨_, 0, none⟩) 2 (ld.tmod 121) w (by show 2 < _; decide) (cloudsTwo (cells_at hw 0 rfl ⟨[], rfl⟩) ⟨own_rows hw 5 rfl, own_rows hw 6 rfl, dC_len (oD d o)⟩ ⟨own_rows hw 14 rfl, own_rows hw 15 rfl, dC_len d⟩)) fun r2 _ => VO.h rfl <| HO.lo (LO.mv (.r rfl)) <| VO.h rfl <| HO.lo (LO.ex (.r rfl) rfl) <| VO.h rfl <| HO.lo (LO.ex (.r rfl) rfl) <| VO.h rfl <| HO.lo (LO.as (.r rfl)) <| VO.h rfl <| HO.lo (LO.as (.r rfl)) <| VO.nil ?_)
            refine VE.seqN ?_
            refine VC.seq ?_
            refine VC.reg (VO.l (LO.lda (vs := [_, _, _, _, _]) A23 (.r rfl) (fun _ hw => cells_at hw 14 rfl ⟨_, rfl⟩) rfl) rfl <| VO.l (LO.lda (vs := [_, _, _, _, _, _, _]) A34 (.r rfl) (fun _ hw => cells_at hw 4 rfl ⟨_, rfl⟩) rfl) rfl <| VO.h rfl <| HO.bs (ps := [(_, _)]) (vs := [(_, _)]) (Z := [_, _, _, _, _, _, _]) (C := [_, _, _, _, _, _, _]) S24 Z34 N34 ⟨(.r rfl), trivial⟩ rfl rfl rfl rfl ⟨_, [_, _, _, _, _, _, _], [_, _, _, _, _, _, _], rfl, rfl, rfl, rfl, rfl⟩ fun b59 => VO.l (LO.mv (.r rfl)) rfl <| VO.h rfl <| HO.callx (xs := [_, _, _]) (vs := [_, _, _]) C17 ⟨(.r rfl), (.r rfl), (.r rfl), trivial⟩ (fun w hw => At_c (dG d) [cpD (oD d o) v] (some ⟨_, 0, none⟩) 1 (ld.tmod 121) w (by show 1 < _; decide) (cloudsOne (cells_at hw 0 rfl ⟨[], rfl⟩) (own_rows hw 7 rfl) (own_rows hw 8 rfl) (dC_len (oD d o)).1 (dC_len (oD d o)).2)) fun r3 _ => VO.h rfl <| HO.lo (LO.mv (.r rfl)) <| VO.h rfl <| HO.lo (LO.ex (.r rfl) rfl) <| VO.h rfl <| HO.lo (LO.ex (.r rfl) rfl) <| VO.h rfl <| HO.lo (LO.as (.r rfl)) <| VO.h rfl <| HO.lo (LO.as (.r rfl)) <| VO.nil ?_)
            refine VE.seqN ?_
            refine VC.weak (env' := [(18, _), (25, _), (26, _), (27, _), (28, _), (29, _), (30, _)]) (.cons rfl (.cons rfl (.cons rfl (.cons rfl (.cons rfl (.cons rfl (.cons rfl .nil))))))) (fun _ h => h) ?_
            refine VC.seq ?_
            refine VC.seq ?_
            refine VC.reg (VO.l (LO.mv (.r rfl)) rfl <| VO.l (LO.ne (.r rfl) (.r rfl)) rfl <| VO.l (LO.mv (.r rfl)) rfl <| VO.lg rfl rfl (GD.f _) (fun hg => LO.mv (.r rfl)) rfl <| VO.lg rfl rfl (GD.f _) (fun hg => LO.ne (.g hg rfl) (.r rfl)) rfl <| VO.l (LO.pkO (.r rfl) (.r rfl) rfl rfl) rfl <| VO.l (LO.mv (.r rfl)) rfl <| VO.lg rfl rfl (GD.f _) (fun hg => LO.mv (.r rfl)) rfl <| VO.lg rfl rfl (GD.f _) (fun hg => LO.ne (.g hg rfl) (.r rfl)) rfl <| VO.l (LO.pkO (.r rfl) (.r rfl) rfl rfl) rfl <| VO.l (LO.mv (.r rfl)) rfl <| VO.lg rfl rfl (GD.f _) (fun hg => LO.mv (.r rfl)) rfl <| VO.lg rfl rfl (GD.f _) (fun hg => LO.mv (.r rfl)) rfl <| VO.lg rfl rfl (GD.f _) (fun hg => LO.call (xs := [_, _]) (vs := [_, _]) C19 ⟨(.g hg rfl), (.g hg rfl), trivial⟩ (fun w hw => ints_c r1.1 r2.1 _ _ r1.2 r2.2 w atL_lt atL_lt (own_rows hw 4 rfl) (own_rows hw 2 rfl))) rfl <| VO.lg rfl rfl (GD.f _) (fun hg => LO.not (.g hg rfl)) rfl <| VO.l (LO.pkO (.r rfl) (.r rfl) rfl rfl) rfl <| VO.l (LO.mv (.r rfl)) rfl <| VO.lg rfl rfl (GD.f _) (fun hg => LO.mv (.r rfl)) rfl <| VO.lg rfl rfl (GD.f _) (fun hg => LO.len S28 (.g hg rfl) rfl) rfl <| VO.lg rfl rfl (GD.f _) (fun hg => LO.mv (.r rfl)) rfl <| VO.lg rfl rfl (GD.f _) (fun hg => LO.len S28 (.g hg rfl) rfl) rfl <| VO.lg rfl rfl (GD.f _) (fun hg => LO.ne (.g hg rfl) (.g hg rfl)) rfl <| VO.l (LO.pkO (.r rfl) (.r rfl) rfl rfl) rfl <| VO.l (LO.mv (.r rfl)) rfl <| VO.lg rfl rfl (GD.f _) (fun hg => LO.mv (.r rfl)) rfl <| VO.lg rfl rfl (GD.f _) (fun hg => LO.len S28 (.g hg rfl) rfl) rfl <| VO.lg rfl rfl (GD.f _) (fun hg => LO.mv (.r rfl)) rfl <| VO.lg rfl rfl (GD.f _) (fun hg => LO.len S28 (.g hg rfl) rfl) rfl <| VO.lg rfl rfl (GD.f _) (fun hg => LO.ne (.g hg rfl) (.g hg rfl)) rfl <| VO.l (LO.pkO (.r rfl) (.r rfl) rfl rfl) rfl <| VO.nil ?_)
            refine VE.seqN ?_
            refine VC.cond rfl (fun h11 => ?_) (fun h11 => ?_)
            ·
              (exfalso; (rcases h11 with ((((q | q) | q) | q) | q) | q; exact q hE2; exact q hE3; exact q hE4; exact q hyz; exact q (hL2.trans hLn.symm); exact q (hL4.trans hLn.symm)))
            ·
              refine VC.skip (VE.seqN ?_)
              refine VC.seq ?_
              refine VC.reg (VO.l (LO.as (.r rfl)) rfl <| VO.nil ?_)
              refine VE.seqN ?_
              refine VC.block ?_
              refine VC.loopK (α := Nat) 0 (fun gx => [(31, .int .i64 (gx : Nat))]) [(18, _), (25, _), (29, _)] (fun gx => []) (fun gx => (gx : Int) ≤ dW d * dH d) (fun gx => (dW d * dH d).toNat - gx) 0 (by omega) (.cons rfl (.cons rfl (.cons rfl (.cons rfl .nil)))) (fun _ h => h) ?_
              rintro k hk
              refine VC.seq ?_
              refine VC.seq ?_
              refine VC.reg (VO.l (LO.mv (.r rfl)) rfl <| VO.l (LO.mv (.r rfl)) rfl <| VO.l (LO.len S28 (.r rfl) rfl) rfl <| VO.l (LO.lt (.r rfl) (.r rfl)) rfl <| VO.nil ?_)
              refine VE.seqN ?_
              refine VC.cond rfl (fun h12 => ?_) (fun h12 => ?_)
              ·
                have hkn : k < (dW d * dH d).toNat := by omega
                have hx1 := at1L hE (n := k) hkn
                have hu1 := at1L hE4 (n := k) hkn
                have hz1 := at2L hE2 (n := k) hkn
                have hkx := (List.getElem?_eq_some_iff.1 hx1).1
                have hku := (List.getElem?_eq_some_iff.1 hu1).1
                have hkz := (List.getElem?_eq_some_iff.1 hz1).1
                refine VC.skip (VE.seqN ?_)
                refine VC.seq ?_
                refine VC.block ?_
                refine VC.seq ?_
                refine VC.draw mixed (LL.l (LO.mv (.r rfl)) rfl <| LL.l (LO.mv (.r rfl)) rfl <| LL.l (LO.ixo S28 N3 (fun _ hw => (own_rows hw 4 rfl).some (by simp)) (.r rfl) (.r rfl) rfl hkz) rfl <| LL.l (LO.ld O3 (.r rfl) (fun w hw => cells_part (off := 0) (own_cell hw 4 rfl hz1) ⟨_, rfl⟩)) rfl <| LL.l (LO.mv (.r rfl)) rfl <| LL.l (LO.mv (.r rfl)) rfl <| LL.l (LO.ixo S28 N3 (fun _ hw => (own_rows hw 10 rfl).some (by simp)) (.r rfl) (.r rfl) rfl hkx) rfl <| LL.l (LO.ld O3 (.r rfl) (fun w hw => cells_part (off := 0) (own_cell hw 10 rfl hx1) ⟨_, rfl⟩)) rfl <| LL.l (LO.mv (.r rfl)) rfl <| LL.l (LO.mv (.r rfl)) rfl <| LL.l (LO.ixo S28 N3 (fun _ hw => (own_rows hw 0 rfl).some (by simp)) (.r rfl) (.r rfl) rfl hku) rfl <| LL.l (LO.ld O3 (.r rfl) (fun w hw => cells_part (off := 0) (own_cell hw 0 rfl hu1) ⟨_, rfl⟩)) rfl <| LL.l (LO.max (.r rfl) (.r rfl)) rfl <| LL.l (LO.ne (.r rfl) (.r rfl)) rfl <| LL.nil) (by kernel_rfl) ?_
                refine VE.seqN ?_
                refine VC.cond rfl (fun h13 => ?_) (fun h13 => ?_)
                ·
                  (exfalso; (exact h13 rfl))
                ·
                  refine VC.skip (VE.inN (VE.seqN ?_))
                  refine VC.reg (VO.l (LO.mv (.r rfl)) rfl <| VO.l (LO.add (.r rfl) (.r rfl) (wi (by omega) (by omega))) rfl <| VO.l (LO.as (.r rfl)) rfl <| VO.nil ?_)
                  refine VE.thenN fun a w ha hw => ⟨k + 1, (by omega), (by omega), ha.sub (.cons rfl (.cons rfl (.cons rfl (.cons rfl .nil)))), hw⟩
              ·
                refine VC.exit (VE.thenX (VE.thenX (VE.inX (VE.seqN ?_))))
                refine VC.seq ?_
                refine VC.reg (VO.l (LO.call (xs := []) (vs := []) C14 trivial (fun w _ => works_c w)) rfl <| VO.l (LO.as (.r rfl)) rfl <| VO.nil ?_)
                refine VE.seqN ?_
                refine VC.ret (VE.res (vs := [_]) rfl ⟨rfl, trivial⟩ (fun w hw => ?_))
                exact ⟨rfl, hw.nil⟩
          ·
            refine VC.skip (VE.seqN ?_)
            refine VC.seq ?_
            refine VC.reg (VO.l (LO.call (xs := []) (vs := []) C14 trivial (fun w _ => works_c w)) rfl <| VO.l (LO.as (.r rfl)) rfl <| VO.nil ?_)
            refine VE.seqN ?_
            refine VC.ret (VE.res (vs := [_]) rfl ⟨rfl, trivial⟩ (fun w hw => ?_))
            exact ⟨rfl, hw.nil⟩

end Go.Proofs.Ytdcjeoamhjplmaa
