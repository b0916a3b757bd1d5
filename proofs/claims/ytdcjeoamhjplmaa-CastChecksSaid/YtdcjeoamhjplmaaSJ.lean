/-
  From what a statement reads of its arguments to what a walk asks, and from a walk's end to what the statement says. No program stands in this text.
-/
import Derived.Test.YtdcjeoamhjplmaaSX
import Derived.ProofKit
import Derived.OpenShut
import Derived.Carry
import Derived.ChangeCalls
import Derived.JoinedOf
namespace Go.SL
set_option linter.unusedVariables false
open Go.RowKit Go.ChangeShapes Go.WideShapes Go.WideElems

section
variable {H : Type} {enc : TypeId × Value → H} {P : Program} {W : World} {base : Nat}

/-- What a reading of cells at a type says of them. -/
def RD (enc : TypeId × Value → H) (P : Program) (W : World) (t : TypeId) (R : List Value → Prop) : Prop :=
  ∀ (n : Nat) (cs : List Value) (x : DataW H × List MemPlace), DataW.trod enc P W 0 (fun _ => true) true n t cs = some x → R cs

theorem RD.mono {t : TypeId} {R S : List Value → Prop} (h : RD enc P W t R) (k : ∀ cs, R cs → S cs) : RD enc P W t S := fun n cs x hx => k cs (h n cs x hx)

def kb (k : IntKind) (n : Int) : Prop := k.min ≤ n ∧ n ≤ k.max
theorem RD.int {t : TypeId} {k : IntKind} (ht : P.underlying t = some (.int k)) : RD enc P W t fun cs => ∃ n, cs = [.int k n] ∧ kb k n := fun n cs x hx => by
  obtain ⟨m, h, _, hw⟩ := DataW.trod_int ht hx
  simp only [Lit.wf, Bool.and_eq_true, decide_eq_true_eq] at hw
  exact ⟨m, h, hw⟩
theorem RD.bool {t : TypeId} (ht : P.underlying t = some .bool) : RD enc P W t fun cs => ∃ b, cs = [.bool b] := fun n cs x hx => by
  obtain ⟨b, h, _⟩ := DataW.trod_bool ht hx
  exact ⟨b, h⟩
theorem RD.string {t : TypeId} (ht : P.underlying t = some .string) : RD enc P W t fun cs => ∃ s : ByteArray, cs = [.string s] ∧ s.size ≤ maxLen := fun n cs x hx => by
  obtain ⟨b, h, h2⟩ := DataW.trod_string ht hx
  exact ⟨b, h, by simp_all⟩

def splitBy {α : Type} : List Nat → List α → List (List α)
  | [], _ => []
  | z :: zs, l => l.take z :: splitBy zs (l.drop z)
theorem splitBy_flat {α : Type} : ∀ (zs : List Nat) (l : List α), l.length = zs.sum → (splitBy zs l).flatten = l
  | [], l, h => by simp at h; simp [splitBy, h]
  | z :: zs, l, h => by
    simp only [List.sum_cons] at h
    rw [splitBy, List.flatten_cons, splitBy_flat zs (l.drop z) (by simp; omega), List.take_append_drop]
theorem splitBy_len {α : Type} : ∀ (zs : List Nat) (l : List α), l.length = zs.sum → (splitBy zs l).map List.length = zs
  | [], l, h => rfl
  | z :: zs, l, h => by
    simp only [List.sum_cons] at h
    rw [splitBy, List.map_cons, splitBy_len zs (l.drop z) (by simp; omega), List.length_take, Nat.min_eq_left (by omega)]
theorem splitBy_get {α : Type} : ∀ (zs : List Nat) (l : List α) (i z : Nat) (c : List α), zs[i]? = some z → (splitBy zs l)[i]? = some c → c = (l.drop (zs.take i).sum).take z
  | [], l, i, z, c, h, k => by simp at h
  | y :: zs, l, i, z, c, h, k => by
    cases i with
    | zero => simp at h; simp [splitBy] at k; subst h; subst k; simp
    | succ i =>
      have := splitBy_get zs (l.drop y) i z c (by simpa using h) (by simpa [splitBy] using k)
      rw [this, List.drop_drop]
      simp only [List.take_succ_cons, List.sum_cons]

/-- The offsets of fields that lie one behind the other. -/
def offs : Nat → List Nat → List Nat
  | _, [] => []
  | o, z :: zs => o :: offs (o + z) zs
theorem offs_get : ∀ (zs : List Nat) (o i : Nat) (a : Nat), (offs o zs)[i]? = some a → a = o + (zs.take i).sum
  | [], o, i, a, h => by simp [offs] at h
  | z :: zs, o, i, a, h => by
    cases i with
    | zero => simp [offs] at h; simp [h]
    | succ i =>
      have := offs_get zs (o + z) i a (by simpa [offs] using h)
      rw [this, List.take_succ_cons, List.sum_cons]; omega

/-- A struct's parts. -/
theorem trod_parts {t : TypeId} {fs : List Field} {zs : List Nat} {n : Nat} {cs : List Value} {x : DataW H × List MemPlace} (ht : P.underlying t = some (.struct fs.toArray)) (hz : fs.map (fun f => P.cellsOf f.type) = zs) (ho : fs.map (·.offset) = offs 0 zs) (hs : P.cellsOf t = zs.sum)
    (h : DataW.trod enc P W 0 (fun _ => true) true n t cs = some x) :
    ∃ css : List (List Value), cs = css.flatten ∧ css.length = zs.length ∧ css.map List.length = zs ∧ ∀ (i : Nat) (f : Field) (c : List Value), fs[i]? = some f → css[i]? = some c → ∃ m y, DataW.trod enc P W 0 (fun _ => true) true m f.type c = some y := by
  obtain ⟨xs, m, _, _, hl, hlen, hf⟩ := DataW.trod_struct ht h
  refine ⟨splitBy zs cs, (splitBy_flat zs cs (by omega)).symm, by simpa using congrArg List.length (splitBy_len zs cs (by omega)), splitBy_len zs cs (by omega), fun i f c h1 h2 => ?_⟩
  have hi : i < fs.length := (List.getElem?_eq_some_iff.1 h1).1
  have e1 : zs[i]? = some (P.cellsOf f.type) := by rw [← hz, List.getElem?_map, h1]; rfl
  have e2 : f.offset = (zs.take i).sum := by
    have : (offs 0 zs)[i]? = some f.offset := by rw [← ho, List.getElem?_map, h1]; rfl
    have := offs_get zs 0 i _ this
    omega
  have e3 := splitBy_get zs cs i _ c e1 h2
  have e4 := hf i f (by simpa using h1)
  have hx : i < xs.length := by simp at hlen; omega
  rw [List.getElem?_eq_getElem hx, e2, ← e3] at e4
  exact ⟨m, _, e4⟩

/-- An array's parts. -/
theorem trod_cells {t e : TypeId} {k z n : Nat} {cs : List Value} {x : DataW H × List MemPlace} (ht : P.underlying t = some (.array k e)) (hz : P.cellsOf e = z) (hs : P.cellsOf t = k * z)
    (h : DataW.trod enc P W 0 (fun _ => true) true n t cs = some x) {R : List Value → Prop} (hR : RD enc P W e R) :
    ∃ css : List (List Value), cs = css.flatten ∧ css.length = k ∧ ∀ c, c ∈ css → c.length = z ∧ R c := by
  obtain ⟨xs, m, _, _, hl, hlen, hf⟩ := DataW.trod_array ht h
  have hsum : (List.replicate k z).sum = k * z := by simp
  refine ⟨splitBy (List.replicate k z) cs, (splitBy_flat _ cs (by rw [hsum]; omega)).symm, ?_, fun c hc => ?_⟩
  · have := congrArg List.length (splitBy_len (List.replicate k z) cs (by rw [hsum]; omega))
    simpa using this
  · obtain ⟨i, hi, e⟩ := List.getElem_of_mem hc
    have hlen2 := congrArg List.length (splitBy_len (List.replicate k z) cs (by rw [hsum]; omega))
    simp only [List.length_map, List.length_replicate] at hlen2
    have e3 := splitBy_get (List.replicate k z) cs i z c (by rw [List.getElem?_replicate, if_pos (by omega)]) (by rw [List.getElem?_eq_getElem hi, e])
    have e5 : ((List.replicate k z).take i).sum = i * z := by rw [List.take_replicate, List.sum_replicate_nat, Nat.min_eq_left (by omega)]
    rw [e5] at e3
    have e4 := hf i (by omega)
    rw [hz, ← e3, List.getElem?_eq_getElem (by omega)] at e4
    refine ⟨?_, hR _ _ _ e4⟩
    rw [e3, List.length_take, List.length_drop]
    have : (i + 1) * z ≤ k * z := Nat.mul_le_mul_right _ (by omega)
    rw [Nat.add_mul] at this
    omega

theorem cells?_spec {w : World} {a : Addr} {n : Nat} {cs : List Value} (h : w.cells? 0 a n = some cs) : cs.length = n ∧ Cells w a cs := by
  unfold World.cells? at h
  rw [if_pos (Nat.zero_le _)] at h
  have hl : cs.length = n := by simpa using mapM_some_length h
  refine ⟨hl, fun j v hj => ?_⟩
  have hjn : j < n := by rw [← hl]; exact (List.getElem?_eq_some_iff.1 hj).1
  have := mapM_some_get h j j (by simp [hjn])
  rw [this, hj]

/-- A slice's rows. -/
theorem RD.slice {t e z : Nat} {R : List Value → Prop} (ht : P.underlying t = some (.slice e)) (hz : P.cellsOf e = z) (hz0 : 0 < z) (hR : RD enc P W e R) :
    RD enc P W t fun cs => ∃ (p : Option Addr) (cap : Nat) (rows : List (List Value)), cs = [.slice p rows.length cap] ∧ rows.length ≤ 9223372036854775807 ∧ Rows W z p rows ∧ ∀ r, r ∈ rows → r.length = z ∧ R r := fun n cs x hx => by
  rcases DataW.trod_slice ht hx with ⟨rfl, _⟩ | ⟨a, len, cap, elems, rest, m, _, rfl, _, hb, hl, hc, hlen, hel, hspare⟩
  · exact ⟨none, 0, [], rfl, by simp, ⟨by simp, fun _ => rfl, fun q => absurd rfl q⟩, by simp⟩
  · have hrow : ∀ i, i < len → ∃ r, W.cells? 0 (a.add (i * z)) z = some r ∧ ∃ y, DataW.trod enc P W 0 (fun _ => true) true m e r = some y := fun i hi => by
      have h1 := hel i hi
      rw [hz, List.getElem?_eq_getElem (by omega)] at h1
      obtain ⟨r, h2, h3⟩ := Option.bind_eq_some_iff.1 h1
      exact ⟨r, h2, _, h3⟩
    have hch : ∃ rows : List (List Value), rows.length = len ∧ ∀ i r, rows[i]? = some r → W.cells? 0 (a.add (i * z)) z = some r ∧ ∃ y, DataW.trod enc P W 0 (fun _ => true) true m e r = some y := by
      clear hel hlen hl hx hspare
      induction len with
      | zero => exact ⟨[], rfl, by simp⟩
      | succ k ih =>
        obtain ⟨rows, h1, h2⟩ := ih (fun i hi => hrow i (by omega))
        obtain ⟨r, h3, h4⟩ := hrow k (by omega)
        refine ⟨rows ++ [r], by simp [h1], fun i s hs => ?_⟩
        rcases Nat.lt_or_ge i rows.length with q | q
        · rw [List.getElem?_append_left q] at hs; exact h2 i s hs
        · have : i = rows.length := by
            have := (List.getElem?_eq_some_iff.1 hs).1
            simp at this; omega
          subst this
          simp at hs; subst hs
          rw [h1]; exact ⟨h3, h4⟩
    obtain ⟨rows, h1, h2⟩ := hch
    subst h1
    have spot : rows ≠ [] → a.spot = none := fun hne => by
      cases rows with
      | nil => exact absurd rfl hne
      | cons r rs =>
        obtain ⟨h3, _⟩ := h2 0 r rfl
        obtain ⟨h4, h5⟩ := cells?_spec h3
        have h6 := h5 0 _ (List.getElem?_eq_getElem (by omega))
        cases hs : a.spot with
        | none => rfl
        | some s =>
          exfalso
          have : ((a.add (0 * z)).add 0).spot = some s := by simp [Addr.add, hs]
          unfold World.cell? at h6
          rw [this] at h6
          split at h6 <;> simp at h6
    refine ⟨some a, cap, rows, rfl, by unfold maxLen at hc; omega, ⟨fun j r hr => ?_, fun q => (by cases q), fun q b hb => ?_⟩, fun r hr => ?_⟩
    · obtain ⟨h3, _⟩ := h2 j r hr
      have h5 := (cells?_spec h3).2
      have hsp := spot (fun q => by rw [q] at hr; simp at hr)
      have e : (⟨pb (some a), po (some a) + j * z, none⟩ : Addr) = a.add (j * z) := by
        obtain ⟨ab, ao, aspt⟩ := a
        have hsp : aspt = none := hsp
        subst hsp
        show (⟨ab, ao + j * z, none⟩ : Addr) = _
        unfold Addr.add
        split
        · rename_i h0; simp [h0]
        · rfl
      rw [e]; exact h5
    · cases hb
      exact spot q
    · obtain ⟨i, hi, e⟩ := List.getElem_of_mem hr
      obtain ⟨h3, y, h4⟩ := h2 i r (by rw [List.getElem?_eq_getElem hi, e])
      exact ⟨(cells?_spec h3).1, hR _ _ _ h4⟩

/-- Rows of known form. -/
theorem rows_map {α : Type} {f : α → List Value} {Q : α → Prop} : ∀ {rows : List (List Value)}, (∀ r, r ∈ rows → ∃ x, r = f x ∧ Q x) → ∃ l : List α, rows = l.map f ∧ ∀ x, x ∈ l → Q x
  | [], _ => ⟨[], rfl, by simp⟩
  | r :: rs, h => by
    obtain ⟨l, h1, h2⟩ := rows_map (fun s hs => h s (by simp [hs])) (rows := rs)
    obtain ⟨x, h3, h4⟩ := h r (by simp)
    exact ⟨x :: l, by simp [h1, h3], fun y hy => by rcases List.mem_cons.1 hy with rfl | hy; exact h4; exact h2 y hy⟩

/-- A list of numbers. -/
theorem RD.ints {t e : Nat} (ht : P.underlying t = some (.slice e)) (he : P.underlying e = some (.int .i64)) (hz : P.cellsOf e = 1) :
    RD enc P W t fun cs => ∃ (p : Option Addr) (cap : Nat) (l : List Int), cs = [.slice p l.length cap] ∧ l.length ≤ 9223372036854775807 ∧ Ints W p l ∧ ∀ n, n ∈ l → kb .i64 n :=
  (RD.slice ht hz (by decide) (RD.int he)).mono fun cs ⟨p, cap, rows, h1, h2, h3, h4⟩ => by
    obtain ⟨l, rfl, h5⟩ := rows_map (f := fun n => [Value.int .i64 n]) (Q := kb .i64) (fun r hr => (h4 r hr).2)
    exact ⟨p, cap, l, by simpa using h1, by simpa using h2, h3, h5⟩

/-! ### Arguments -/
theorem arg_one {t : TypeId} {v : Value} {R : List Value → Prop} (hn : ∀ fs, P.underlying t ≠ some (.struct fs)) (hn2 : ∀ n e, P.underlying t ≠ some (.array n e)) (hv : Value.okWide P W .any base t v) {d : DataW H} {p : List MemPlace} (hd : DataW.Trod enc P W 0 (fun _ => true) true t v d p) (hR : RD enc P W t R) : R [v] := by
  obtain ⟨n, hn'⟩ := hd
  have : v.cells = #[v] := by
    cases v <;> try rfl
    exfalso
    unfold Value.okWide at hv
    cases hu : P.underlying t with
    | none => rw [hu] at hv; simp [Cell.okWide, Cell.ok, hu] at hv
    | some u =>
      rw [hu] at hv
      cases u <;> first | exact hn _ hu | exact hn2 _ _ hu | simp [Cell.okWide, Cell.ok, hu] at hv
  rw [this] at hn'
  exact hR _ _ _ hn'
theorem arg_agg {t : TypeId} {fs : Array Field} {v : Value} {R : List Value → Prop} (ht : P.underlying t = some (.struct fs)) (hv : Value.okWide P W .any base t v) {d : DataW H} {p : List MemPlace} (hd : DataW.Trod enc P W 0 (fun _ => true) true t v d p) (hR : RD enc P W t R) : ∃ cs, v = .agg cs.toArray ∧ R cs := by
  obtain ⟨n, hn'⟩ := hd
  unfold Value.okWide at hv
  rw [ht] at hv
  obtain ⟨cs, rfl, _⟩ := hv
  exact ⟨cs.toList, by simp, hR _ _ _ hn'⟩
theorem arg_arr {t e n : Nat} {v : Value} {R : List Value → Prop} (ht : P.underlying t = some (.array n e)) (hv : Value.okWide P W .any base t v) {d : DataW H} {p : List MemPlace} (hd : DataW.Trod enc P W 0 (fun _ => true) true t v d p) (hR : RD enc P W t R) : ∃ cs, v = .agg cs.toArray ∧ R cs := by
  obtain ⟨n, hn'⟩ := hd
  unfold Value.okWide at hv
  rw [ht] at hv
  obtain ⟨cs, rfl, _⟩ := hv
  exact ⟨cs.toList, by simp, hR _ _ _ hn'⟩

/-! ### The end -/
theorem trodAll_stays (hl : laidOutB P = true) {W' : World} {sp' : Nat → Bool} : ∀ {ts : List TypeId} {vs : List Value} {ds : List (DataW H)} {ps : List MemPlace}, (∀ t, t ∈ ts → P.readableRec t = true ∧ t < P.types.size) →
    DataW.TrodAll enc P W 0 (fun _ => true) true ts vs ds ps → (∀ p, p ∈ ps → W.sameAt W' p) → (∀ p, p ∈ ps → sp' p.block = true) → DataW.TrodAll enc P W' 0 sp' true ts vs ds ps
  | [], vs, ds, ps, _, h, _, _ => by
    obtain ⟨rfl, rfl, rfl⟩ := trodAll_nil h
    exact trodAll_mk0
  | t :: ts, vs, ds, ps, ht, h, h1, h2 => by
    obtain ⟨v, vs1, d, ds1, a, b, rfl, rfl, rfl, h3, h4⟩ := trodAll_cons h
    have := ht t (by simp)
    exact trodAll_cons_mk (Trod_stays hl this.1 this.2 h3 (fun p hp => h1 p (by simp [hp])) (fun p hp => h2 p (by simp [hp]))) (trodAll_stays hl (fun u hu => ht u (by simp [hu])) h4 (fun p hp => h1 p (by simp [hp])) (fun p hp => h2 p (by simp [hp])))

/-- A law's statement behind the call: it is true, and the arguments read as they did. -/
theorem law_post {fn : Func} {s : ChangeSpec} {apart fresh handsOn again : Bool} {W' : World} {args : Array Value} {ds gs : List (DataW H)} {before : List MemPlace} {tb : TypeId} (hl : laidOutB P = true) (hts : ∀ t, t ∈ fn.params.toList → P.readableRec t = true ∧ t < P.types.size)
    (hv : s.vars = []) (hr : fn.resultTypes = #[tb]) (hb : P.underlying tb = some .bool) (hs : ∀ ds : List (DataW H), ds.length = fn.params.toList.length → s.fn H ds = { results := [.lit (.bool true)], args := ds })
    (hW : DataW.Whole enc P fn.params.toList s.vars apart W args.toList ds gs before) (hst : St (bs W) [] W') : s.post enc P fn apart fresh handsOn again W args (.bool true) W' := by
  have hB : Below W.heap.size W W' := hst.below
  have hlt := hW.lt
  have hW0 := hW
  obtain ⟨p, q, hA, hV, rfl, hfz, hnd⟩ := hW
  rw [hv] at hV
  obtain ⟨rfl, rfl⟩ := trodVars_none hV
  rw [hv] at hW0
  have hd : ds.length = fn.params.toList.length := (trodAll_length hA).2
  have e : s.fn H (ds ++ []) = { results := [.lit (.bool true)], args := ds } := by rw [List.append_nil]; exact hs ds hd
  have hargs : ∀ sp : Nat → Bool, (∀ x ∈ p, sp x.block = true) → DataW.TrodAll enc P W' 0 sp true fn.params.toList args.toList (s.fn H (ds ++ [])).args p := fun sp hsp => by
    rw [e]; exact trodAll_stays hl hts hA (fun x hx => hB.same (hlt x (by simpa using hx))) hsp
  have hres : ∀ (b : Nat) (sp : Nat → Bool) (hd : Bool), DataW.TrodAll enc P W' b sp hd fn.resultTypes.toList ((Value.bool true).resultList fn.resultTypes.size) (s.fn H (ds ++ [])).results [] := fun b sp hd => by
    rw [e, hr]; exact trodAll_cons_mk (shut_bool hb _) trodAll_mk0
  have hvars : ∀ sp : Nat → Bool, DataW.TrodVars enc P W' sp s.vars (s.fn H (ds ++ [])).vars [] := fun sp => by rw [e, hv]; rfl
  have hW1 : DataW.Whole enc P fn.params.toList s.vars apart W args.toList ds [] (p ++ []) := by rw [hv]; exact hW0
  refine ⟨ds, [], p ++ [], [], p, [], hW1, hres _ _ _, hargs _ (fun x hx => by simpa using hlt x (by simpa using hx)), hvars _, hB.frame _, fun _ => ?_⟩
  refine ⟨?_, _, _, ([] ++ p) ++ [], ⟨[] ++ p, [], trodAll_append (hargs _ (fun _ _ => rfl)) (hres _ _ _), hvars _, rfl, ?_, ?_⟩, ?_⟩
  · exact ok_one hr rfl (okWide_bool_mk hb _)
  · intro b off hp
    have hp' : MemPlace.cell b off ∈ p := by simpa using hp
    rw [hB.frozen (p := ⟨b, off, none⟩) (hlt (.cell b off) (by simpa using hp'))]
    exact hfz b off (by simpa using hp')
  · intro ha
    simpa using hnd ha
  · intro x hx _
    simpa using hx
end
end Go.SL
