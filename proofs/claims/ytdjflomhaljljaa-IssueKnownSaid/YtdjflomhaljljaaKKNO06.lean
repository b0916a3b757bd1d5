/-
  An office answers as the plain words say.
  Drafts are made.
  Clouds by numbers, and beats.
  Drafts make valid services, and clouds by numbers are valid.
  Offices that have made their steps.
  What IssueNumbered rests on, in plain words.
  The steps of a draft: events and warnings, one by one.
  IssueThreats is walked.
  Frames of the laws about drafts.
  Notes, and what is refused.
  Logs.
  Entries are played.
  Logs are played.
  IssueFull is walked.
  Tallies of nothing.
  A new office of the document.
  What an office of the document answers before any step.
  Offices without a step answer alike.
  IssueChecks is walked.
  What a cloud does in truth, pixel by pixel: plain.
  What a cloud does in truth: the walk.
  Threats by their states, and levels at the times of steps: plain.
  More clouds, greater leads and holds, and turned orders: plain.
  IssueTruth is walked.
  IssueGreater is walked.
  Whether a region is hit.
  The tally of a region is walked.
  Tallies of an office are walked.
  What offices answer, by the entries that were played: plain. The example.
  The example of offices, by its entries: plain.
-/
import Derived.Test.YtdjflomhaljljaaKKNO05

namespace Go.Proofs.Ytdjflomhaljljaa
open Go.SL Go.Proofs Go.Cast
set_option linter.unusedVariables false

def CsM.p (c : CsM) : Cs := ⟨c.nm, c.rg, c.bg, c.en, c.pk⟩
theorem meetK_b {b n : Int} (hb : 0 ≤ b) (hn : 0 ≤ n) (h : b ≠ n) : meetK b n = 1 ↔ b = 0 := by
  unfold meetK
  constructor
  · intro q
    split at q
    · split at q
      · assumption
      · omega
    · split at q <;> omega
  · intro q; rw [if_pos (by omega), if_pos q]
theorem meetK_e {b n : Int} (hb : 0 ≤ b) (hn : 0 ≤ n) (h : b ≠ n) (h0 : b ≠ 0) : meetK b n = 2 ↔ n = 0 := by
  unfold meetK
  constructor
  · intro q
    split at q
    · omega
    · split at q
      · assumption
      · omega
  · intro q; rw [if_neg (by omega), if_pos q]
theorem nodup_at {cs : List CsM} (h : (cs.map CsM.b).Nodup) {i j : Nat} {c d : CsM} (hi : cs[i]? = some c) (hj : cs[j]? = some d) (e : c.b = d.b) : i = j := by
  have hi2 : (cs.map CsM.b)[i]? = some c.b := by rw [List.getElem?_map, hi]; rfl
  have hj2 : (cs.map CsM.b)[j]? = some d.b := by rw [List.getElem?_map, hj]; rfl
  have hp := List.pairwise_iff_getElem.1 h
  obtain ⟨h1, h2⟩ := List.getElem?_eq_some_iff.1 hi2
  obtain ⟨k1, k2⟩ := List.getElem?_eq_some_iff.1 hj2
  rcases Nat.lt_trichotomy i j with q | q | q
  · exact absurd (h2.trans (e.trans k2.symm)) (hp i j h1 k1 q)
  · exact q
  · exact absurd (k2.trans (e.symm.trans h2.symm)) (hp j i k1 h1 q)
theorem map_set_at {cs : List Cs} {f : Cs → Bool} {g : Cs → Cs} {j : Nat} {c : Cs} (hj : cs[j]? = some c) (hc : f c = true) (hu : ∀ i d, cs[i]? = some d → f d = true → i = j) : cs.set j (g c) = cs.map fun c => if f c = true then g c else c := by
  refine List.ext_getElem? fun i => ?_
  rw [List.getElem?_map, List.getElem?_set]
  have hlt := (List.getElem?_eq_some_iff.1 hj).1
  by_cases q : j = i
  · subst q
    rw [if_pos rfl, if_pos hlt, hj]; simp [hc]
  · rw [if_neg q]
    cases h : cs[i]? with
    | none => rfl
    | some d =>
      simp only [Option.map_some]
      rw [if_neg (fun e => q (hu i d h e).symm)]
theorem open_nm {cs : List Cs} {k j : Nat} {c : Cs} (hj : cs[j]? = some c) (hc : opn k c = true) (hu : ∀ i d, cs[i]? = some d → opn k d = true → i = j) : openNm k cs = c.nm := by
  obtain ⟨hlt, e⟩ := List.getElem?_eq_some_iff.1 hj
  have h : cs.findIdx (opn k) = j := (List.findIdx_eq hlt).2 ⟨by rw [e]; exact hc, fun i hi => by
    cases q : opn k cs[i] with
    | false => rfl
    | true => exact absurd (hu i _ (List.getElem?_eq_getElem (by omega)) q) (by omega)⟩
  unfold openNm
  rw [h, List.getD_eq_getElem?_getD, hj]; rfl
/-- The open warning of a region. -/
def OpnAt (cs : List CsM) (op : Option Nat) (k : Nat) : Prop := ∃ (j : Nat) (c : CsM), cs[j]? = some c ∧ op = some c.b ∧ c.rg = (k : Int) ∧ c.en = never
theorem meet_sim {H T : Int} {st : List Stp} {s : Stp} {n k : Nat} {cs : List CsM} {es : List Ev} {r : RcM} {t : Thr} {y : MeetY} (hH : 0 ≤ H) (hT : lastT st ≤ s.t ∨ st = []) (hcs : CsOk n (lvM H st s k) (cs.map CsM.p)) (hnd : (cs.map CsM.b).Nodup) (hi : r.i = k) (hsT : s.t = T) (ht : s.th.getD k zT = t)
    (hrc : r.rc = keepR (lastT st) H (histR k st)) (hlv : r.lv = lvL H k st) (hop : lvS H k st ≠ 0 → OpnAt cs r.op k) (hm : MeetP r T H t cs es y) :
    y.cs.map CsM.p = stepC k (lvS H k st) (lvS H k (st ++ [s])) T (cs.map CsM.p) ∧ y.es = stepE k (lvS H k st) (lvS H k (st ++ [s])) T t (cs.map CsM.p) es ∧ y.r.rc = keepR (lastT (st ++ [s])) H (histR k (st ++ [s])) ∧ y.r.lv = lvL H k (st ++ [s]) ∧
      (lvS H k (st ++ [s]) ≠ 0 → OpnAt y.cs y.r.op k) ∧ (∀ (j : Nat) (c : CsM), cs[j]? = some c → c.rg ≠ (k : Int) → y.cs[j]? = some c) := by
  have hnow : nowRc T H r.rc t.lv = keepR (lastT (st ++ [s])) H (histR k (st ++ [s])) := by rw [hrc, ← ht, ← hsT]; exact rc_snoc hH hT
  have hN : maxLv (nowRc T H r.rc t.lv) = lvS H k (st ++ [s]) := by rw [hnow]; rfl
  have hB : lastI r.lv = lvS H k st := by rw [hlv, lvL_last]
  have hb0 : 0 ≤ lvS H k st := lvS_nn
  have hn0 : 0 ≤ lvS H k (st ++ [s]) := lvS_nn
  obtain ⟨_, _, _, e4, e5, q⟩ := hm
  rw [hN, hB] at q
  rw [hN] at e5
  rw [hnow] at e4
  have e5' : y.r.lv = lvL H k (st ++ [s]) := by rw [e5, hlv, lvL_snoc]
  generalize lvS H k (st ++ [s]) = N at *
  generalize hBB : lvS H k st = B at *
  rcases q with ⟨q1, q2, q3, q4⟩ | ⟨q1, x', hh, q4⟩
  · refine ⟨?_, ?_, e4, e5', ?_, ?_⟩
    · unfold stepC; rw [if_pos q1.symm, q3]
    · unfold stepE; rw [if_pos q1.symm, q4]
    · intro h; rw [q2, q3]; exact hop (by rw [← q1]; exact h)
    · intro j c hj _; rw [q3]; exact hj
  · have hkd : (meetEv r.i T B N t).kd = meetK B N := rfl
    have hrg : (meetEv r.i T B N t).rg = (k : Int) := by show (r.i : Int) = k; rw [hi]
    rcases hh with ⟨h1, b, g1, g2, g3⟩ | ⟨h1, j, c, hc, g0, g1, g2, g3⟩
    · have hz : B = 0 := (meetK_b hb0 hn0 (Ne.symm q1)).1 (hkd ▸ h1)
      refine ⟨?_, ?_, e4, e5', ?_, ?_⟩
      · unfold stepC; rw [if_neg (Ne.symm q1), if_pos hz, g2, List.map_append]
        congr 1
        simp only [List.map_cons, List.map_nil, CsM.p, hrg, List.length_map]
        congr 2
        show max 0 N = N
        omega
      · unfold stepE; rw [if_neg (Ne.symm q1), q4, g3]
        unfold evS
        rw [if_pos hz, List.length_map]
        have : meetEv k T B N t = meetEv r.i T B N t := by rw [hi]
        rw [this]
      · intro h
        exact ⟨cs.length, _, by rw [g2, List.getElem?_append_right (Nat.le_refl _)]; simp; rfl, g1, hrg, rfl⟩
      · intro j c hj _
        rw [g2, List.getElem?_append_left (List.getElem?_eq_some_iff.1 hj).1]; exact hj
    · have hz : B ≠ 0 := fun e => h1 (hkd ▸ (meetK_b hb0 hn0 (Ne.symm q1)).2 e)
      obtain ⟨j', c', hc', ho', hr', he'⟩ := hop hz
      have hbb : c.b = c'.b := by rw [g0] at ho'; simpa using ho'
      have hjj := nodup_at hnd hc hc' hbb
      subst hjj
      rw [hc] at hc'
      cases hc'
      have hcp : (cs.map CsM.p)[j]? = some c.p := by rw [List.getElem?_map, hc]; rfl
      have hcf : opn k c.p = true := opn_iff.2 ⟨hr', he'⟩
      have hun : ∀ i d, (cs.map CsM.p)[i]? = some d → opn k d = true → i = j := fun i d hd ho => by
        have := opn_iff.1 ho
        exact hcs.one i j d c.p hd hcp (by rw [this.1]; exact hr'.symm) this.2 he'
      have hkd2 : ((meetEv r.i T B N t).kd = 2) ↔ N = 0 := by rw [hkd]; exact meetK_e hb0 hn0 (Ne.symm q1) hz
      refine ⟨?_, ?_, e4, e5', ?_, ?_⟩
      · unfold stepC; rw [if_neg (Ne.symm q1), if_neg hz, g2, List.map_set, ← map_set_at (g := fun c => { c with en := if N = 0 then T else c.en, pk := max c.pk N }) hcp hcf hun]
        congr 1
        simp only [CsM.p]
        congr 1
        by_cases hN0 : N = 0
        · rw [if_pos (hkd2.2 hN0), if_pos hN0]; rfl
        · rw [if_neg (fun q => hN0 (hkd2.1 q)), if_neg hN0]
      · unfold stepE; rw [if_neg (Ne.symm q1), q4, g3]
        unfold evS
        rw [if_neg hz, open_nm hcp hcf hun]
        have : meetEv k T B N t = meetEv r.i T B N t := by rw [hi]
        rw [this]; rfl
      · intro h
        refine ⟨j, { c with en := if (meetEv r.i T B N t).kd = 2 then (meetEv r.i T B N t).t else c.en, pk := max c.pk (meetEv r.i T B N t).lv }, by rw [g2]; exact List.getElem?_set_self (List.getElem?_eq_some_iff.1 hc).1, by rw [g1, g0], hr', ?_⟩
        show (if (meetEv r.i T B N t).kd = 2 then _ else c.en) = never
        rw [if_neg (fun q => h (hkd2.1 q))]; exact he'
      · intro i d hd hne
        rw [g2, List.getElem?_set]
        rw [if_neg]
        · exact hd
        · intro e; subst e; rw [hc] at hd; cases hd; exact hne hr'
theorem keep_pre {cs cs' : List CsM} (h : CsKeep cs cs') (hn : (cs'.map CsM.b).Nodup) : (cs.map CsM.b).Nodup := by
  refine List.pairwise_iff_getElem.2 fun i j hi hj hij e => ?_
  simp only [List.length_map] at hi hj
  simp only [List.getElem_map] at e
  obtain ⟨c, h1, h2⟩ := h i _ (List.getElem?_eq_getElem hi)
  obtain ⟨d, k1, k2⟩ := h j _ (List.getElem?_eq_getElem hj)
  have := nodup_at hn h1 k1 (by rw [h2, k2]; exact e)
  omega
theorem run_sim {H T b : Int} {sts : List (List Int)} {st : List Stp} {s : Stp} {n : Nat} {cs0 : List CsM} (hH : 0 ≤ H) (hT : lastT st ≤ s.t ∨ st = []) (hcs : CsOk n (fun i => lvS H i st) (cs0.map CsM.p)) (hnv : s.t ≠ never) (hsT : s.t = T) {rs ds : List RcM} {cs : List CsM} {es : List Ev} (h : RunP sts b H T cs0 rs ds cs es) :
    ∀ (all : List RcM), rs <+: all → all.length = n → (∀ (k : Nat) (r : RcM), all[k]? = some r → r.i = k ∧ s.th.getD k zT = thr sts r.x.r.pix b ∧ r.rc = keepR (lastT st) H (histR k st) ∧ r.lv = lvL H k st ∧ (lvS H k st ≠ 0 → OpnAt cs0 r.op k)) → (cs.map CsM.b).Nodup →
    cs.map CsM.p = runC H st s (cs0.map CsM.p) rs.length ∧ es = runE H st s (cs0.map CsM.p) rs.length ∧
    (∀ (k : Nat) (d : RcM), ds[k]? = some d → d.rc = keepR (lastT (st ++ [s])) H (histR k (st ++ [s])) ∧ d.lv = lvL H k (st ++ [s]) ∧ (lvS H k (st ++ [s]) ≠ 0 → OpnAt cs d.op k)) ∧
    (∀ (k : Nat) (r : RcM), rs.length ≤ k → all[k]? = some r → lvS H k st ≠ 0 → OpnAt cs r.op k) := by
  induction h with
  | nil =>
    intro all _ _ hall _
    exact ⟨rfl, rfl, fun k d hd => by simp at hd, fun k r _ hr => (hall k r hr).2.2.2.2⟩
  | @snoc rs ds cs es r y h1 h2 ih =>
    intro all hpre hlen hall hnd
    have hkp := meet_keep h2
    have hnd1 := keep_pre hkp.1 hnd
    have hpre2 : rs <+: all := (List.prefix_append rs [r]).trans hpre
    obtain ⟨i1, i2, i3, i4⟩ := ih all hpre2 hlen hall hnd1
    have hrl : all[rs.length]? = some r := by
      obtain ⟨z, hz⟩ := hpre
      rw [← hz, List.append_assoc, List.getElem?_append_right (Nat.le_refl _)]; simp
    obtain ⟨a1, a2, a3, a4, a5⟩ := hall _ r hrl
    have hk : rs.length < n := by rw [← hlen]; exact (List.getElem?_eq_some_iff.1 hrl).1
    have hdl := (run_keep h1).2.2.2.2
    have hok : CsOk n (lvM H st s rs.length) (cs.map CsM.p) := by rw [i1]; exact csOk_run hcs hnv _ (by omega)
    obtain ⟨m1, m2, m3, m4, m5, m6⟩ := meet_sim hH hT hok hnd1 a1 hsT a2 a3 a4 (i4 _ r (Nat.le_refl _) hrl) h2
    have keepO : ∀ (k : Nat) (op : Option Nat), k ≠ rs.length → OpnAt cs op k → OpnAt y.cs op k := fun k op hne ⟨j, c, g1, g2, g3, g4⟩ => ⟨j, c, m6 j c g1 (by rw [g3]; omega), g2, g3, g4⟩
    refine ⟨?_, ?_, ?_, ?_⟩
    · rw [m1, i1, List.length_append, List.length_singleton, ← hsT]; rfl
    · rw [m2, i1, i2, List.length_append, List.length_singleton, ← hsT, ← a2]; rfl
    · intro k d hd
      rcases Nat.lt_or_ge k ds.length with q | q
      · rw [List.getElem?_append_left q] at hd
        obtain ⟨g1, g2, g3⟩ := i3 k d hd
        exact ⟨g1, g2, fun hl => keepO k _ (by omega) (g3 hl)⟩
      · rw [List.getElem?_append_right q] at hd
        have e : k = ds.length := by
          rcases Nat.lt_or_ge (k - ds.length) 1 with z | z
          · omega
          · rw [List.getElem?_eq_none (by simpa using z)] at hd; cases hd
        subst e
        simp at hd; subst hd
        rw [hdl]
        exact ⟨m3, m4, m5⟩
    · intro k r' hk' hr' hl
      rw [List.length_append, List.length_singleton] at hk'
      exact keepO k _ (by omega) (i4 k r' (by omega) hr' hl)
/-- An office and the steps that were made in it. -/
structure SimO (o : OfM) (st : List Stp) : Prop where
  wf : WfO o
  ts : o.ts = st.map Stp.t
  inc : o.ts.Pairwise (· < ·)
  tb : ∀ t, t ∈ o.ts → 0 ≤ t ∧ t ≤ 4294967296
  rcs : ∀ (k : Nat) (r : RcM), o.rc[k]? = some r → r.rc = keepR (lastT st) o.hold (histR k st) ∧ r.lv = lvL o.hold k st ∧ (lvS o.hold k st ≠ 0 → OpnAt o.cs r.op k)
  cs : o.cs.map CsM.p = csF o.hold o.rc.length st
theorem SimO.hold {o : OfM} {st : List Stp} (h : SimO o st) : 0 ≤ o.hold ∧ o.hold ≤ 86400 := by
  have := specOk h.wf.spec
  exact this.2.2.2.2.2.2
theorem sim_new {g : Grid} {l : List RG} {a b d : Int} {o : OfM} (h : NewP g l a b d o) (hs : specE ⟨g, l.map RG.r, a, b, d⟩ = 0) (hp : ∀ x, x ∈ l → x.r.pix.length < 1000000000000) : SimO o [] := by
  have hw := new_wf h hs hp
  obtain ⟨h1, h2, h3, h4, h5, h6, h7, _, h8, h9⟩ := h
  refine ⟨hw, by rw [h5]; rfl, by rw [h5]; exact List.Pairwise.nil, by rw [h5]; simp, fun k r hr => ?_, by rw [h6]; rfl⟩
  have := h9.2 k r hr
  exact ⟨this.2.2.1, this.2.2.2.1, fun q => absurd rfl q⟩
theorem lastT_last {o : OfM} {st : List Stp} (h : o.ts = st.map Stp.t) (hn : o.ts ≠ []) : lastI o.ts = lastT st := by
  rcases List.eq_nil_or_concat st with q | ⟨l, s, q⟩
  · rw [q] at h; exact absurd h hn
  · rw [h, q, List.concat_eq_append, lastT_snoc, List.map_append]
    exact lastI_snoc _ _
/-- The threats at a step. -/
def thsO (o : OfM) (l : List Cloud) : List Thr := o.rc.map fun r => thr (lookL o.g l o.lead o.step) r.x.r.pix o.step
theorem sim_step {o : OfM} {st : List Stp} {T : Int} {l : List Cloud} {y : StepY} (h : SimO o st) (hp : StepP o T l y) (hT1 : 0 ≤ T) (hT2 : T ≤ 4294967296) (hlate : o.ts = [] ∨ lastI o.ts < T) (hnd : (y.cs.map CsM.b).Nodup) :
    SimO (y.o o T) (st ++ [⟨T, thsO o l⟩]) ∧ y.es = evF o.hold o.rc.length st ⟨T, thsO o l⟩ := by
  have hwf := step_wf h.wf hp
  obtain ⟨hr, _⟩ := hp
  have hlT : lastT st ≤ T ∨ st = [] := by
    rcases hlate with q | q
    · rw [h.ts] at q; exact .inr (List.map_eq_nil_iff.1 q)
    · by_cases e : o.ts = []
      · rw [h.ts] at e; exact .inr (List.map_eq_nil_iff.1 e)
      · rw [lastT_last h.ts e] at q; exact .inl (Int.le_of_lt q)
  have htn : ∀ s, s ∈ st → s.t ≠ never := fun s hs => by
    have := h.tb s.t (by rw [h.ts]; exact List.mem_map_of_mem hs)
    unfold never; omega
  have hok : CsOk o.rc.length (fun i => lvS o.hold i st) (o.cs.map CsM.p) := by rw [h.cs]; exact csOk_all st htn
  have hgd : ∀ (k : Nat) (r : RcM), o.rc[k]? = some r → (thsO o l).getD k zT = thr (lookL o.g l o.lead o.step) r.x.r.pix o.step := fun k r hr => by
    unfold thsO; rw [List.getD_eq_getElem?_getD, List.getElem?_map, hr]; rfl
  obtain ⟨s1, s2, s3, _⟩ := run_sim (s := ⟨T, thsO o l⟩) h.hold.1 hlT hok (by unfold never; show T ≠ _; omega) rfl hr o.rc (List.prefix_refl _) rfl (fun k r hr => ⟨(h.wf.idx k r hr).2, hgd k r hr, h.rcs k r hr⟩) hnd
  have hdl := (run_keep hr).2.2.2.2
  refine ⟨⟨hwf, by show o.ts ++ [T] = _; rw [h.ts, List.map_append]; rfl, ?_, ?_, s3, ?_⟩, by rw [s2, h.cs]; rfl⟩
  · show (o.ts ++ [T]).Pairwise (· < ·)
    rw [List.pairwise_append]
    refine ⟨h.inc, by simp, fun a ha b hb => ?_⟩
    simp at hb; subst hb
    rcases hlate with q | q
    · rw [q] at ha; simp at ha
    · refine Int.lt_of_le_of_lt ?_ q
      obtain ⟨i, hi, e⟩ := List.getElem_of_mem ha
      unfold lastI
      rw [List.getD_eq_getElem?_getD, List.getElem?_eq_getElem (by omega : o.ts.length - 1 < o.ts.length)]
      simp only [Option.getD_some]
      rw [← e]
      rcases Nat.lt_or_ge i (o.ts.length - 1) with z | z
      · exact Int.le_of_lt (List.pairwise_iff_getElem.1 h.inc i _ hi (by omega) z)
      · have : i = o.ts.length - 1 := by omega
        subst this; exact Int.le_refl _
  · intro t ht
    rcases List.mem_append.1 ht with q | q
    · exact h.tb t q
    · simp at q; subst q; exact ⟨hT1, hT2⟩
  · show y.cs.map CsM.p = csF o.hold y.ds.length (st ++ [_])
    rw [s1, csF_snoc, h.cs, hdl]

end Go.Proofs.Ytdjflomhaljljaa

namespace Go.Proofs.Ytdjflomhaljljaa
open Go.SL Go.Proofs Go.Cast
set_option linter.unusedVariables false

abbrev u8V (n : Int) : Value := .int .u8 n
def U8 (n : Int) : Prop := 0 ≤ n ∧ n ≤ 255
def U16 (n : Int) : Prop := 0 ≤ n ∧ n ≤ 65535
def I16 (n : Int) : Prop := -32768 ≤ n ∧ n ≤ 32767
/-- A draft. -/
structure DrM where
  px : List Int
  a : Int
  b : Int
  c : Int
abbrev DrM.cells (d : DrM) : List Value := d.px.map u8V ++ [.int .u16 d.a, .int .u16 d.b, .int .u16 d.c]
def DrM.ok (d : DrM) : Prop := d.px.length = 20 ∧ (∀ n, n ∈ d.px → U8 n) ∧ U16 d.a ∧ U16 d.b ∧ U16 d.c
theorem DrM.at (d : DrM) (h : d.px.length = 20) (k : Nat) (v : Value) (hk : [.int .u16 d.a, .int .u16 d.b, .int .u16 d.c][k]? = some v) : ∃ r, d.cells.toArray.toList.drop (20 + k) = [v] ++ r := by
  show ∃ r, (d.px.map u8V ++ _).drop (20 + k) = _
  have h2 : (d.px.map u8V).length = 20 := by simpa using h
  rw [← h2, List.drop_length_add_append]
  match k with
  | 0 => cases hk; exact ⟨_, rfl⟩
  | 1 => cases hk; exact ⟨_, rfl⟩
  | 2 => cases hk; exact ⟨_, rfl⟩
  | k + 3 => simp at hk
/-- A pixel is in a region. -/
def drIn (d : DrM) (i p : Nat) : Prop := (d.px.getD p 0).fdiv (2 ^ (Min.min (i : Int).toNat 64)) % 2 = 1 ∨ (i : Int) = 0 ∧ (d.px.getD p 0).tmod 8 = 0
instance (d : DrM) (i p : Nat) : Decidable (drIn d i p) := by unfold drIn; infer_instance
end Go.Proofs.Ytdjflomhaljljaa

namespace Go.Proofs.Ytdjflomhaljljaa
open Go.SL Go.Proofs Go.Cast
set_option linter.unusedVariables false

/-- A cloud by numbers. -/
structure ClM where
  px : List Int
  xa : Int
  xb : Int
  ya : Int
  yb : Int
  gr : Int
abbrev ClM.cells (c : ClM) : List Value := c.px.map u8V ++ [.int .i16 c.xa, .int .i16 c.xb, .int .i16 c.ya, .int .i16 c.yb, .int .u8 c.gr]
def ClM.ok (c : ClM) : Prop := c.px.length = 20 ∧ (∀ n, n ∈ c.px → U8 n) ∧ I16 c.xa ∧ I16 c.xb ∧ I16 c.ya ∧ I16 c.yb ∧ U8 c.gr
theorem ClM.len {c : ClM} (h : c.ok) : c.cells.length = 25 := by
  show (c.px.map u8V ++ _).length = 25
  rw [List.length_append, List.length_map, h.1]; rfl
theorem ClM.at (c : ClM) (h : c.px.length = 20) (k : Nat) (vs : List Value) (hk : ∃ r, [.int .i16 c.xa, .int .i16 c.xb, .int .i16 c.ya, .int .i16 c.yb, .int .u8 c.gr].drop k = vs ++ r) : ∃ r, c.cells.toArray.toList.drop (20 + k) = vs ++ r := by
  show ∃ r, (c.px.map u8V ++ _).drop (20 + k) = _
  have h2 : (c.px.map u8V).length = 20 := by simpa using h
  rw [← h2, List.drop_length_add_append]
  exact hk
structure ClsM (w : World) (p : Option Addr) (l : List ClM) : Prop where
  rows : RO 25 ClM.cells w p l
  ok : ∀ c, c ∈ l → c.ok
/-- A beat. -/
structure BtM where
  la : Int
  a : Int
  b : Int
  no : Bool
abbrev BtM.cells (b : BtM) : List Value := [.int .u16 b.la, .int .u8 b.a, .int .u8 b.b, .bool b.no]
def BtM.ok (b : BtM) : Prop := U16 b.la ∧ U8 b.a ∧ U8 b.b
structure BtsM (w : World) (p : Option Addr) (l : List BtM) : Prop where
  rows : RO 4 BtM.cells w p l
  ok : ∀ c, c ∈ l → c.ok
def btIx (n : Nat) (a : Int) : Nat := (a.tmod (n : Int)).toNat
/-- The clouds of a beat. -/
def beatL (b : BtM) (l : List Cloud) : List Cloud := if (l.length : Int) = 0 ∨ b.no = true then [] else [l.getD (btIx l.length b.a) default, l.getD (btIx l.length b.b) default]
theorem St.blkRows {β : Bs} {L : List Res} {w : World} (hw : St β L w) (i : Nat) {E z b : Nat} {C : Array Value} {rows : List (List Value)} (hi : L[i]? = some (blk b (.cells C E))) (hC : C.toList = rows.flatten) (hz : ∀ r, r ∈ rows → r.length = z) : St β (L.set i (own E z (some ⟨b, 0, none⟩) rows.length rows)) w :=
  hw.conv i hi (fun k hk => hk.2) ⟨Nat.le_refl _, hz, fun q => (by cases q), fun a ha => by
    cases ha
    exact ⟨rfl, rfl, C, [], hw.inv i _ hi, by rw [List.append_nil]; exact hC, by rw [← Array.length_toList, hC, flatten_len hz]⟩⟩

end Go.Proofs.Ytdjflomhaljljaa

namespace Go.Proofs.Ytdjflomhaljljaa
open Go.SL Go.Proofs Go.Cast
set_option linter.unusedVariables false

/-- The time of a beat. -/
def tAt (bs : List BtM) : Nat → Int
  | 0 => 0
  | i + 1 => tAt bs i + (1 + (bs.getD i ⟨0, 0, 0, true⟩).la.tmod 500)
/-- The threats of all regions. -/
def thsP (s : Sp) (l : List Cloud) : List Thr := s.regs.map fun r => thr (lookL s.g l s.lead s.step) r.pix s.step
theorem ths_eq {o : OfM} (h : WfO o) (l : List Cloud) : thsO o l = thsP o.sp l := by
  unfold thsO thsP OfM.sp
  refine List.ext_getElem? fun k => ?_
  simp only [List.getElem?_map]
  cases q : o.rc[k]? with
  | none =>
    have : o.rc.length ≤ k := by
      rcases Nat.lt_or_ge k o.rc.length with z | z
      · rw [List.getElem?_eq_getElem z] at q; cases q
      · exact z
    rw [List.getElem?_eq_none (by rw [← h.len]; exact this)]; rfl
  | some r => rw [(h.idx k r q).1]; rfl
theorem cs_nodup {o : OfM} {w : World} (h : (bagD (o.cs.map CsM.blk)).inv w) : (o.cs.map CsM.b).Nodup := by
  have := h.2
  rw [List.pairwise_map] at this
  unfold List.Nodup
  rw [List.pairwise_map]
  refine this.imp fun {a b} hab e => ?_
  exact hab a.b rfl (by show a.b = b.b; exact e)
/-- A step, and the plain words. -/
theorem Step_s (o : OfM) (st : List Stp) (T : Int) (m : List CP) (pm : Option Addr) (cm : Nat) (w : World) (hh : Has w (offR o)) (hcl : ∀ {L : List Res} {v : World}, St ⟨w, fpL (offR o)⟩ L v → Clouds v pm m) (hcn : m.length < 1000000000) (h : SimO o st) (hT1 : 0 ≤ T) (hT3 : T ≤ 4294967296) (hlate : o.ts = [] ∨ lastI o.ts < T) (hful : o.lg.length < 256) (hlk : lookE o.g (m.map CP.c) = 0) :
    Calls Try.prog 27 #[ptrN o.b, .int .i64 T, .slice pm m.length cm] w fun e w' => ∃ y : StepY, (StepP o T (m.map CP.c) y ∧ SimO (y.o o T) (st ++ [⟨T, thsP o.sp (m.map CP.c)⟩]) ∧ y.es = evF o.hold o.rc.length st ⟨T, thsP o.sp (m.map CP.c)⟩) ∧ e = .returned (.tuple #[.slice y.pe y.es.length y.ce, .int .i64 0]) ∧ St ⟨w, fpL (offR o)⟩ (own 62 7 y.pe y.ce (y.es.map evC) :: offR (y.o o T)) w' := by
  refine (Step_w o T m pm cm w hh hcl hcn h.wf hT1 hT3 hlate hful hlk).mono ?_
  rintro e w' ⟨y, hp, he, hs⟩
  have hnd : (y.cs.map CsM.b).Nodup := cs_nodup (o := y.o o T) (hs.inv 8 _ rfl)
  have := sim_step h hp hT1 hT3 hlate hnd
  rw [ths_eq h.wf] at this
  exact ⟨y, ⟨hp, this⟩, he, hs⟩
theorem n_eq {o : OfM} (h : WfO o) : o.rc.length = o.sp.regs.length := by unfold OfM.sp; rw [List.length_map]; exact h.len

end Go.Proofs.Ytdjflomhaljljaa

namespace Go.Proofs.Ytdjflomhaljljaa
open Go.SL Go.Proofs Go.Cast
set_option linter.unusedVariables false

/-- What stands in a log. -/
inductive Ent where
  | st (t : Int) (l : List Cloud)
  | nt (t : Int) (g : Grid) (vs : List Span) (lv : Int)
def LgM.ent : LgM → Ent
  | .st t _ _ l => .st t (l.map CP.c)
  | .nt t g _ _ vs lv => .nt t g vs lv
def lgB (l : List Cloud) (bs : List BtM) (n : Nat) : List Ent := (List.range n).map fun i => .st (tAt bs (i + 1)) (beatL (bs.getD i ⟨0, 0, 0, true⟩) l)
structure RnY where
  o : OfM
  evs : List (RowA Ev)
  pe : Option Addr
  ce : Nat
  ts : List Int
  pt : Option Addr
  ct : Nat
end Go.Proofs.Ytdjflomhaljljaa

namespace Go.Proofs.Ytdjflomhaljljaa
open Go.SL Go.Proofs Go.Cast
set_option linter.unusedVariables false

/-- What arrays of a law say of levels and open warnings. -/
structure NumI (n : Nat) (lv : Nat → Int) (cs : List Cs) (le nu pe be : List Int) : Prop where
  l1 : le.length = n
  l2 : nu.length = n
  l3 : pe.length = n
  l4 : be.length = n
  le : ∀ j, j < n → le.getD j 0 = lv j
  op : ∀ j, j < n → lv j ≠ 0 → ∃ (i : Nat) (c : Cs), cs[i]? = some c ∧ opn j c = true ∧ nu.getD j 0 = c.nm ∧ pe.getD j 0 = c.pk ∧ be.getD j 0 = c.bg
end Go.Proofs.Ytdjflomhaljljaa

namespace Go.Proofs.Ytdjflomhaljljaa
open Go.SL Go.Proofs Go.Cast
set_option linter.unusedVariables false

/-! ### The steps of a draft -/
section
variable (d : DrM) (lc : List Cloud) (bs : List BtM) (i : Nat)
end
section
variable {d : DrM} {lc : List Cloud} {bs : List BtM} {i : Nat}
end

end Go.Proofs.Ytdjflomhaljljaa

namespace Go.Proofs.Ytdjflomhaljljaa
open Go.SL Go.Proofs Go.Cast
set_option linter.unusedVariables false

theorem C15 : IsFn Try.prog 15 := ⟨_, Try.func15, by decide, rfl⟩
end Go.Proofs.Ytdjflomhaljljaa

namespace Go.Proofs.Ytdjflomhaljljaa
open Go.SL Go.Proofs Go.Cast
set_option linter.unusedVariables false



theorem levels_sim {o : OfM} {st : List Stp} (h : SimO o st) : levelsL o = (List.range o.rc.length).map fun j => lvS o.hold j st := by
  unfold levelsL
  refine List.ext_getElem? fun j => ?_
  rw [List.getElem?_map, List.getElem?_map]
  rcases Nat.lt_or_ge j o.rc.length with q | q
  · rw [List.getElem?_range q, List.getElem?_eq_getElem q]
    have := (h.rcs j _ (List.getElem?_eq_getElem q)).2.1
    simp only [Option.map_some, this, lvL_last]
  · rw [List.getElem?_eq_none q, List.getElem?_eq_none (by simpa using q)]; rfl

theorem BtsM.keep {w0 w : World} {L : List Res} {p : Option Addr} {l : List BtM} (h : BtsM w0 p l) (hw : St (bs w0) L w) : BtsM w p l := ⟨h.rows.keep w hw, h.ok⟩
theorem DrM.len {d : DrM} (h : d.ok) : d.cells.length = 23 := by
  show (d.px.map u8V ++ _).length = 23
  rw [List.length_append, List.length_map, h.1]; rfl

end Go.Proofs.Ytdjflomhaljljaa

namespace Go.Proofs.Ytdjflomhaljljaa
open Go.SL Go.Proofs Go.Cast
set_option linter.unusedVariables false

theorem I76 : EInfo Try.prog 76 2 16 (.agg #[.int .i64 0, .int .i64 0]) := ⟨by kernel_rfl, by kernel_rfl, by unfold ZeroOf; kernel_rfl, rfl, by decide⟩
theorem C60 : IsFn Try.prog 60 := ⟨_, Try.func60, by decide, rfl⟩
theorem EA23 : FlatA Try.prog 23 5 := ⟨⟨_, Try.underlying23, rfl⟩, by kernel_rfl, by kernel_rfl⟩
theorem C61 : IsFn Try.prog 61 := ⟨_, Try.func61, by decide, rfl⟩
theorem N91 : (Try.prog.info? 91).map (·.size) = some 1 := by kernel_rfl
theorem B165 : Builds Try.prog 165 [(0, 1), (1, 6), (7, 1)] [.int .i64 0, .int .i64 0, .int .i64 0, .int .i64 0, .int .i64 0, .int .i64 0, .slice none 0 0, .int .i64 0] := Builds.mk fun _ => by kernel_rfl


/-- What a note comes to. -/
def noteE (o : OfM) (T : Int) (f : Field) (lv : Int) : Int := if ¬ (0 ≤ T ∧ T ≤ 4294967296) then 3 else if 256 ≤ o.lg.length then 13 else if fieldE 1073741824 f ≠ 0 then fieldE 1073741824 f else if ¬ ([f.g.x, f.g.y, f.g.size, f.g.wide, f.g.high] = [o.g.x, o.g.y, o.g.size, o.g.wide, o.g.high]) then 11 else if ¬ (1 ≤ lv ∧ lv ≤ 1073741824) then 3 else 0
/-- What a step comes to. -/
def stpE (o : OfM) (T : Int) (l : List Cloud) : Int := if ¬ (0 ≤ T ∧ T ≤ 4294967296) then 3 else if 0 < o.ts.length ∧ T ≤ lastI o.ts then 17 else if 256 ≤ o.lg.length then 13 else lookE o.g l
theorem noteOk {o : OfM} {T lv : Int} {f : Field} (h : noteE o T f lv = 0) : (0 ≤ T ∧ T ≤ 4294967296) ∧ o.lg.length < 256 ∧ fieldE 1073741824 f = 0 ∧ [f.g.x, f.g.y, f.g.size, f.g.wide, f.g.high] = [o.g.x, o.g.y, o.g.size, o.g.wide, o.g.high] ∧ (1 ≤ lv ∧ lv ≤ 1073741824) := by
  unfold noteE at h
  split at h
  · omega
  · rename_i q1
    split at h
    · omega
    · split at h
      · rename_i q q2; exact absurd h q2
      · rename_i q2 q3
        split at h
        · omega
        · rename_i q4
          split at h
          · omega
          · rename_i q5
            exact ⟨Classical.not_not.1 q1, by omega, Classical.not_not.1 q3, Classical.not_not.1 q4, Classical.not_not.1 q5⟩
set_option maxRecDepth 20000 in
theorem CloneS_c (l : List Span) (p : Option Addr) (c : Nat) (w : World) (hn : l.length < 1000000000000) (hl : RO 2 Span.cells w p l) :
  Calls Try.prog 61 #[.slice p l.length c] w fun e w' => ∃ x : Option Addr × Nat, True ∧ e = .returned (.slice x.1 l.length x.2) ∧ St (bs w) [own 76 2 x.1 x.2 (l.map Span.cells)] w' := by
  refine enter (vs := [_]) (env := [(0, _)]) Try.func61 rfl rfl rfl rfl ?_
  refine VC.seq ?_
  refine VC.reg (VO.l (LO.as (.r rfl)) rfl <| VO.nil ?_)
  refine VE.seqN ?_
  refine VC.seq ?_
  refine VC.seq ?_
  refine VC.reg (VO.l (LO.mv (.r rfl)) rfl <| VO.l (LO.eqSn ⟨_, Try.underlying91⟩ (.r rfl) (.r rfl)) rfl <| VO.nil ?_)
  refine VE.seqN ?_
  refine VC.cond rfl (fun h4 => ?_) (fun h4 => ?_)
  ·
    have h0 := RO_none hl h4
    refine VC.seq ?_
    refine VC.reg (VO.l (LO.as (.r rfl)) rfl <| VO.nil ?_)
    refine VE.seqN ?_
    refine VC.ret (VE.thenR (VE.res (vs := [_]) rfl ⟨rfl, trivial⟩ (fun w hw => ?_)))
    first | exact ⟨(none, 0), trivial, by rw [h0]; rfl, by rw [h0]; exact hw.nil.ownNil 76 2⟩ | exact ⟨(p2, c2), trivial, rfl, hw.sel [0] rfl⟩
  ·
    refine VC.skip (VE.seqN ?_)
    refine VC.seq ?_
    refine VC.reg (VO.h rfl <| HO.bs0 S91 N76 fun b1 => VO.l (LO.mv (.r rfl)) rfl <| VO.h rfl <| HO.appN0 (f := Span.cells) (m := l) 0 (fun R => [R]) S91 S91 I76 (.r rfl) (.r rfl) rfl (fun w hw => hl.keep w hw) (fun _ => rfl) (fun _ => rfl) rfl rfl (fun _ => rfl) rfl (by omega) fun p2 c2 _ => VO.h rfl <| HO.lo (LO.as (.r rfl)) <| VO.nil ?_)
    refine VE.seqN ?_
    refine VC.ret (VE.res (vs := [_]) rfl ⟨rfl, trivial⟩ (fun w hw => ?_))
    first | exact ⟨(none, 0), trivial, by rw [h0]; rfl, by rw [h0]; exact hw.nil.ownNil 76 2⟩ | exact ⟨(p2, c2), trivial, rfl, hw.sel [0] rfl⟩

set_option maxRecDepth 20000 in
theorem Note_c (o : OfM) (T : Int) (f : Field) (pv : Option Addr) (cv : Nat) (lv : Int) (w : World) (hn : 0 < o.rc.length ∧ o.rc.length < 1000000) (hh : Has w (offR o)) (hv : ∀ {L : List Res} {v : World}, St ⟨w, fpL (offR o)⟩ L v → Spans v pv f.vals) (hok : noteE o T f lv = 0) :
  Calls Try.prog 31 #[ptrN o.b, .int .i64 T, .agg #[.int .i64 f.g.x, .int .i64 f.g.y, .int .i64 f.g.size, .int .i64 f.g.wide, .int .i64 f.g.high, .slice pv f.vals.length cv], .int .i64 lv] w fun e w' => ∃ y : (Option Addr × Nat) × (Option Addr × Nat), True ∧ e = .returned (.int .i64 0) ∧ St ⟨w, fpL (offR o)⟩ (offR { o with lg := o.lg ++ [LgM.nt T f.g y.1.1 y.1.2 f.vals lv], pl := y.2.1, cl := y.2.2 }) w' := by
  obtain ⟨hk1, hk2, hk3, hk4, hk5⟩ := noteOk hok
  have har : f.vals.length ≤ 4096 := by unfold fieldE at hk3; split at hk3; (· omega); (· rename_i q; have z := area_bd (Classical.not_not.1 q); split at hk3; (· omega); (· omega))
  refine enterO (vs := [_, _, _, _]) (env := [(0, _), (1, _), (2, _), (3, _)]) hh.enter Try.func31 rfl rfl rfl rfl ?_
  refine VC.seq ?_
  refine VC.reg (VO.h rfl <| HO.box (C := #[_, _, _, _, _, _]) rfl rfl fun b11 => VO.l (LO.as (.r rfl)) rfl <| VO.nil ?_)
  refine VE.seqN ?_
  refine VC.seq ?_
  refine VC.block ?_
  refine VC.seq ?_
  refine VC.reg (VO.l (LO.mv (.r rfl)) rfl <| VO.l (LO.call (xs := [_]) (vs := [_]) C53 ⟨(.r rfl), trivial⟩ (fun w hw => nothing_c o w (by omega) (cells_at hw 1 rfl ⟨_, rfl⟩))) rfl <| VO.l (LO.as (.r rfl)) rfl <| VO.nil ?_)
  refine VE.seqN ?_
  refine VC.cond rfl (fun h10 => ?_) (fun h10 => ?_)
  ·
    (exfalso; omega)
  ·
    refine VC.seq ?_
    refine VC.reg (VO.l (LO.mv (.r rfl)) rfl <| VO.l (LO.call (xs := [_, _, _]) (vs := [_, _, _]) C45 ⟨(.r rfl), (.r rfl), (.r rfl), trivial⟩ (fun w _ => iwithin_c _ _ _ w)) rfl <| VO.l (LO.not (.r rfl)) rfl <| VO.l (LO.as (.r rfl)) rfl <| VO.nil ?_)
    refine VE.seqN ?_
    refine VC.cond rfl (fun h13 => ?_) (fun h13 => ?_)
    ·
      (exfalso; exact h13 hk1)
    ·
      refine VC.seq ?_
      refine VC.reg (VO.l (LO.mv (.r rfl)) rfl <| VO.l (LO.nc (.r rfl)) rfl <| VO.l (LO.fa (r := 12) F117_4 (.r rfl) rfl) rfl <| VO.l (LO.ld O115 (.r rfl) (fun _ hw => cells_at hw 1 rfl ⟨_, rfl⟩)) rfl <| VO.l (LO.len S115 (.r rfl) rfl) rfl <| VO.l (LO.ge (.r rfl) (.r rfl)) rfl <| VO.l (LO.as (.r rfl)) rfl <| VO.nil ?_)
      refine VE.seqN ?_
      refine VC.cond rfl (fun h17 => ?_) (fun h17 => ?_)
      ·
        (exfalso; omega)
      ·
        refine VC.skip (VE.inN (VE.seqN ?_))
        refine VC.seq ?_
        refine VC.seq ?_
        refine VC.reg (VO.l (LO.lda (vs := [_, _, _, _, _, _]) A93 (.r rfl) (fun _ hw => cells_at hw 0 rfl ⟨_, rfl⟩) rfl) rfl <| VO.l (LO.call (xs := [_]) (vs := [_]) C60 ⟨(.r rfl), trivial⟩ (fun w hw => bCheckField_c f pv cv w (hv hw))) rfl <| VO.l (LO.as (.r rfl)) rfl <| VO.nil ?_)
        refine VE.seqN ?_
        refine VC.seq ?_
        refine VC.reg (VO.l (LO.mv (.r rfl)) rfl <| VO.l (LO.ne (.r rfl) (.r rfl)) rfl <| VO.nil ?_)
        refine VE.seqN ?_
        refine VC.cond rfl (fun h27 => ?_) (fun h27 => ?_)
        ·
          (exfalso; exact h27 hk3)
        ·
          refine VC.skip (VE.seqN ?_)
          refine VC.seq ?_
          refine VC.block ?_
          refine VC.seq ?_
          refine VC.draw mixed (LL.l (LO.fa (r := 0) F93_0 (.r rfl) rfl) rfl <| LL.l (LO.lda (vs := [_, _, _, _, _]) A23 (.r rfl) (fun _ hw => cells_at hw 0 rfl ⟨_, rfl⟩) rfl) rfl <| LL.l (LO.mv (.r rfl)) rfl <| LL.l (LO.nc (.r rfl)) rfl <| LL.l (LO.fa (r := 0) F117_0 (.r rfl) rfl) rfl <| LL.l (LO.fa (r := 0) F28_0 (.r rfl) rfl) rfl <| LL.l (LO.lda (vs := [_, _, _, _, _]) A23 (.r rfl) (fun _ hw => cells_at hw 1 rfl ⟨_, rfl⟩) rfl) rfl <| LL.l (LO.neA («as» := [_, _, _, _, _]) (bs := [_, _, _, _, _]) EA23 (.r rfl) (.r rfl) rfl rfl) rfl <| LL.l (LO.as (.r rfl)) rfl <| LL.nil) (by kernel_rfl) ?_
          refine VE.seqN ?_
          refine VC.cond rfl (fun h29 => ?_) (fun h29 => ?_)
          ·
            (exfalso; exact h29 hk4)
          ·
            refine VC.seq ?_
            refine VC.reg (VO.l (LO.mv (.r rfl)) rfl <| VO.l (LO.call (xs := [_, _, _]) (vs := [_, _, _]) C45 ⟨(.r rfl), (.r rfl), (.r rfl), trivial⟩ (fun w _ => iwithin_c _ _ _ w)) rfl <| VO.l (LO.not (.r rfl)) rfl <| VO.l (LO.as (.r rfl)) rfl <| VO.nil ?_)
            refine VE.seqN ?_
            refine VC.cond rfl (fun h38 => ?_) (fun h38 => ?_)
            ·
              (exfalso; exact h38 hk5)
            ·
              refine VC.skip (VE.inN (VE.seqN ?_))
              refine VC.seq ?_
              refine VC.reg (VO.l (LO.fa (r := 5) F93_1 (.r rfl) rfl) rfl <| VO.l (LO.ld O91 (.r rfl) (fun _ hw => cells_at hw 0 rfl ⟨_, rfl⟩)) rfl <| VO.h rfl <| HO.callx (xs := [_]) (vs := [_]) C61 ⟨(.r rfl), trivial⟩ (fun w hw => CloneS_c f.vals pv cv w (by omega) (hv hw)) fun qv _ => VO.l (LO.fa (r := 5) F93_1 (.r rfl) rfl) rfl <| VO.h0 <| HO.st 1 (vs := [_]) (C' := [_, _, _, _, _, _]) (L' := [_, _, _, _, _, _, _, _, _, _, _, _]) N91 rfl rfl rfl rfl rfl rfl rfl rfl <| VO.nil ?_)
              refine VE.seqN ?_
              refine VC.seq ?_
              refine VC.drawH [[0, 1, 2, 3, 4, 5, 6, 7, 8, 9, 10, 11], [0, 1, 2, 3, 4, 5, 6, 7, 8, 9, 10, 11], [0, 1, 2, 3, 4, 5, 6, 7, 8, 9, 11], [0, 1, 3, 4, 5, 6, 7, 8, 9, 11]] [some 2, some 1, some 1, some 1, some 1, some 0, some 0, some 0, some 0, some 0, none, none, some 2, some 2, none] mixed (by kernel_rfl) rfl (LX.l (fun _ hJ => LO.mv (.r rfl)) rfl <| LX.l (fun _ hJ => LO.mv (.r rfl)) rfl <| LX.l (fun _ hJ => LO.nc (.r rfl)) rfl <| LX.l (fun _ hJ => LO.fa (r := 12) F117_4 (.r rfl) rfl) rfl <| LX.l (fun _ hJ => LO.ld O115 (.r rfl) (fun _ hw => cells_at (hJ _ hw) 2 rfl ⟨_, rfl⟩)) rfl <| LX.l (fun _ hJ => LO.mv (.r rfl)) rfl <| LX.l (fun _ hJ => LO.lda (vs := [_, _, _, _, _, _]) A93 (.r rfl) (fun _ hw => cells_at (hJ _ hw) 1 rfl ⟨_, rfl⟩) rfl) rfl <| LX.l (fun _ hJ => LO.mv (.r rfl)) rfl <| LX.l (fun _ hJ => LO.bd (ps := [(_, _), (_, _), (_, _)]) (vs := [(_, _), (_, _), (_, _)]) (C := [_, _, _, _, _, _, _, _]) B165  ⟨(.r rfl), (.r rfl), (.r rfl), trivial⟩ rfl ⟨_, [_], [_, _, _, _, _, _, _, _], rfl, rfl, rfl, rfl, ⟨_, [_, _, _, _, _, _], [_, _, _, _, _, _, _, _], rfl, rfl, rfl, rfl, ⟨_, [_], [_, _, _, _, _, _, _, _], rfl, rfl, rfl, rfl, rfl⟩⟩⟩) rfl <| LX.l (fun _ hJ => LO.mi ⟨_, Try.underlying165, rfl⟩ (.r rfl)) rfl <| LX.s <| LX.s <| LX.l (fun _ hJ => LO.nc (.r rfl)) rfl <| LX.l (fun _ hJ => LO.fa (r := 12) F117_4 (.r rfl) rfl) rfl <| LX.s <| LX.nil) (HX.s <| HX.s <| HX.s <| HX.s <| HX.s <| HX.s <| HX.s <| HX.s <| HX.s <| HX.s <| HX.h rfl <| HO.bs (ps := [(_, _)]) (vs := [(_, _)]) (Z := [_]) (C := [_]) S115 Z167 N167 ⟨(.r rfl), trivial⟩ rfl rfl rfl rfl ⟨_, [_], [_], rfl, rfl, rfl, rfl, rfl⟩ fun b16 => ⟨selJ (L1 := [_, _, _, _, _, _, _, _, _, _, _, _]) [1, 2, 3, 4, 5, 6, 7, 8, 9, 10, 11, 12] rfl rfl rfl, HX.h rfl <| HO.appT ((LgM.nt T f.g qv.1 qv.2 f.vals lv)) 11 0 (fun R => [_, _, _, _, _, _, _, _, _, _, _, R, _]) S115 S115 I167 (.r rfl) (.r rfl) rfl rfl rfl rfl rfl rfl rfl (fun _ => rfl) rfl (by omega) fun p11 c11 => ⟨selJ (L1 := [_, _, _, _, _, _, _, _, _, _, _]) [1, 2, 3, 4, 5, 6, 7, 8, 9, 10, 12] rfl rfl rfl, HX.s <| HX.s <| HX.h0 <| HO.st 3 (vs := [_]) (C' := [_, _, _, _, _, _, _, _, _, _, _, _, _]) (L' := [_, _, _, _, _, _, _, _, _, _, _, _, _]) N115 rfl rfl rfl rfl rfl rfl rfl rfl <| ⟨selJ (L1 := [_, _, _, _, _, _, _, _, _, _]) [1, 2, 4, 5, 6, 7, 8, 9, 10, 12] rfl rfl rfl, HX.nil ?_⟩⟩⟩)
              refine VE.seqN ?_
              refine VC.seq ?_
              refine VC.reg (VO.l (LO.as (.r rfl)) rfl <| VO.nil ?_)
              refine VE.seqN ?_
              refine VC.ret (VE.res (vs := [_]) rfl ⟨rfl, trivial⟩ (fun w hw => ?_))
              have e1 : o.lg.flatMap LgM.res ++ [own 76 2 qv.1 qv.2 (f.vals.map Span.cells)] = (o.lg ++ [LgM.nt T f.g qv.1 qv.2 f.vals lv]).flatMap LgM.res := by rw [List.flatMap_append]; rfl
              refine ⟨(qv, (p11, c11)), trivial, rfl, ?_⟩
              show St _ [_, _, _, _, _, _, _, _, _, bagD ((o.lg ++ [LgM.nt T f.g qv.1 qv.2 f.vals lv]).flatMap LgM.res)] _
              rw [← e1]
              exact (St.bagAdd (selK (L1 := [_, _, _, _, _, _, _, _, _, _, _]) [1, 12, 3, 4, 5, 6, 7, 8, 9, 10, 11] rfl rfl _ hw)).sel [1, 2, 3, 4, 5, 6, 7, 8, 9, 0] rfl

end Go.Proofs.Ytdjflomhaljljaa

namespace Go.Proofs.Ytdjflomhaljljaa
open Go.SL Go.Proofs Go.Cast
set_option linter.unusedVariables false

theorem O29 : IsOne Try.prog 29 := ⟨⟨_, Try.underlying29, rfl⟩, by kernel_rfl⟩
theorem F165_0 : FieldAt Try.prog 165 0 0 := ⟨_, _, Try.underlying165, rfl, rfl, 0, by kernel_rfl⟩
theorem F165_1 : FieldAt Try.prog 165 1 1 := ⟨_, _, Try.underlying165, rfl, rfl, 5, by kernel_rfl⟩
theorem F165_2 : FieldAt Try.prog 165 2 7 := ⟨_, _, Try.underlying165, rfl, rfl, 0, by kernel_rfl⟩
theorem O167 : IsOne Try.prog 167 := ⟨⟨_, Try.underlying167, rfl⟩, by kernel_rfl⟩
/-- An entry. -/
structure EnP where
  t : Int
  l : List Cloud
  g : Grid
  vs : List Span
  lv : Int
/-- An entry in memory. -/
structure EnM where
  t : Int
  l : List CP
  pc : Option Addr
  cc : Nat
  g : Grid
  vs : List Span
  pv : Option Addr
  cv : Nat
  lv : Int
def EnM.p (x : EnM) : EnP := ⟨x.t, x.l.map CP.c, x.g, x.vs, x.lv⟩
def EnM.cells (x : EnM) : List Value := [.int .i64 x.t, .slice x.pc x.l.length x.cc, .int .i64 x.g.x, .int .i64 x.g.y, .int .i64 x.g.size, .int .i64 x.g.wide, .int .i64 x.g.high, .slice x.pv x.vs.length x.cv, .int .i64 x.lv]
def EnM.res (x : EnM) : List Res := [own 80 7 x.pc x.cc (x.l.map CP.cells), bagD (x.l.flatMap cpR), own 76 2 x.pv x.cv (x.vs.map Span.cells)]
def gZ : Grid := ⟨0, 0, 0, 0, 0⟩
def LgM.enp : LgM → EnP
  | .st t _ _ l => ⟨t, l.map CP.c, gZ, [], 0⟩
  | .nt t g _ _ vs lv => ⟨t, [], g, vs, lv⟩
/-- An entry of a log is not too long. -/
def EnP.bd (x : EnP) : Prop := x.l.length < 1000000000 ∧ (∀ c, c ∈ x.l → c.sure.length < 1000000000000 ∧ c.may.length < 1000000000000) ∧ x.vs.length ≤ 4096
def LgOk (o : OfM) : Prop := ∀ x, x ∈ o.lg → (LgM.enp x).bd
end Go.Proofs.Ytdjflomhaljljaa

namespace Go.Proofs.Ytdjflomhaljljaa
open Go.SL Go.Proofs Go.Cast
set_option linter.unusedVariables false



def isSt (x : EnP) : Bool := decide (x.lv = 0)
def stP (s : Sp) (l : List EnP) : List Stp := (l.filter isSt).map fun x => ⟨x.t, thsP s x.l⟩
def tsP (l : List EnP) : List Int := (l.filter isSt).map EnP.t
/-- What an entry comes to behind others. -/
def enE (s : Sp) (pre : List EnP) (x : EnP) : Int :=
  if x.lv = 0 then (if ¬ (0 ≤ x.t ∧ x.t ≤ 4294967296) then 3 else if 0 < (tsP pre).length ∧ x.t ≤ lastI (tsP pre) then 17 else if 256 ≤ pre.length then 13 else lookE s.g x.l)
  else (if ¬ (0 ≤ x.t ∧ x.t ≤ 4294967296) then 3 else if 256 ≤ pre.length then 13 else if fieldE 1073741824 ⟨x.g, x.vs⟩ ≠ 0 then fieldE 1073741824 ⟨x.g, x.vs⟩ else if ¬ ([x.g.x, x.g.y, x.g.size, x.g.wide, x.g.high] = [s.g.x, s.g.y, s.g.size, s.g.wide, s.g.high]) then 11 else if ¬ (1 ≤ x.lv ∧ x.lv ≤ 1073741824) then 3 else 0)
def EnP.canon (x : EnP) : EnP := if x.lv = 0 then ⟨x.t, x.l, gZ, [], 0⟩ else ⟨x.t, [], x.g, x.vs, x.lv⟩
/-- What holds of an office in which entries were played. -/
structure PlA (s : Sp) (l : List EnP) (o : OfM) (n : Nat) : Prop where
  sim : SimO o (stP s (l.take n))
  sp : o.sp = s
  lg : o.lg.map LgM.enp = (l.take n).map EnP.canon
  ok : LgOk o
theorem stP_y {s : Sp} {l : List EnP} {x : EnP} (h : x.lv = 0) : stP s (l ++ [x]) = stP s l ++ [⟨x.t, thsP s x.l⟩] := by
  unfold stP; rw [List.filter_append, List.map_append]; simp [isSt, h]
theorem stP_n {s : Sp} {l : List EnP} {x : EnP} (h : ¬ x.lv = 0) : stP s (l ++ [x]) = stP s l := by
  unfold stP; rw [List.filter_append]; simp [isSt, h]
theorem PlA.ts {s : Sp} {l : List EnP} {o : OfM} {n : Nat} (h : PlA s l o n) : o.ts = tsP (l.take n) := by
  rw [h.sim.ts]; unfold stP tsP; rw [List.map_map]; rfl
theorem PlA.len {s : Sp} {l : List EnP} {o : OfM} {n : Nat} (h : PlA s l o n) : o.lg.length = (l.take n).length := by
  have := congrArg List.length h.lg
  simpa using this
theorem PlA.g {s : Sp} {l : List EnP} {o : OfM} {n : Nat} (h : PlA s l o n) : o.g = s.g := congrArg Sp.g h.sp
theorem PlA.st {s : Sp} {l : List EnP} {o : OfM} {n : Nat} {x : EnP} (h : PlA s l o n) (hx : x.lv = 0) : stpE o x.t x.l = enE s (l.take n) x := by
  unfold stpE enE
  rw [if_pos hx, h.ts, h.len, h.g]
theorem PlA.nt {s : Sp} {l : List EnP} {o : OfM} {n : Nat} {x : EnP} (h : PlA s l o n) (hx : ¬ x.lv = 0) : noteE o x.t ⟨x.g, x.vs⟩ x.lv = enE s (l.take n) x := by
  unfold noteE enE
  rw [if_neg hx, h.len, h.g]
theorem take_en {l : List EnP} {n : Nat} {x : EnP} (hx : l[n]? = some x) : l.take (n + 1) = l.take n ++ [x] := by rw [List.take_add_one, hx]; rfl
theorem note_sim {o : OfM} {st : List Stp} {x : LgM} {p : Option Addr} {c : Nat} (h : SimO o st) : SimO { o with lg := o.lg ++ [x], pl := p, cl := c } st := by
  refine ⟨⟨h.wf.spec, h.wf.len, h.wf.idx, h.wf.pix, h.wf.rcb, h.wf.lvb, h.wf.op, h.wf.cs, ?_⟩, h.ts, h.inc, h.tb, h.rcs, h.cs⟩
  have := h.wf.ts
  show o.ts.length ≤ (o.lg ++ [x]).length
  rw [List.length_append]; simp; omega
theorem PlA.note {s : Sp} {l : List EnP} {o : OfM} {n : Nat} {x : EnP} {p q : Option Addr} {c d : Nat} (h : PlA s l o n) (hx : l[n]? = some x) (hlv : ¬ x.lv = 0) (hb : x.vs.length ≤ 4096) : PlA s l { o with lg := o.lg ++ [LgM.nt x.t x.g p c x.vs x.lv], pl := q, cl := d } (n + 1) := by
  refine ⟨by rw [take_en hx, stP_n hlv]; exact note_sim h.sim, h.sp, ?_, ?_⟩
  · show (o.lg ++ [_]).map LgM.enp = _
    rw [List.map_append, h.lg, take_en hx, List.map_append]
    congr 1
    show [_] = [x.canon]
    unfold EnP.canon
    rw [if_neg hlv]; rfl
  · intro y hy
    rcases List.mem_append.1 hy with z | z
    · exact h.ok y z
    · simp at z; subst z
      exact ⟨by simp [LgM.enp], fun c hc => by simp [LgM.enp] at hc, hb⟩
theorem PlA.step {s : Sp} {l : List EnP} {o : OfM} {n : Nat} {x : EnP} {y : StepY} (h : PlA s l o n) (hx : l[n]? = some x) (hlv : x.lv = 0) (hb : x.l.length < 1000000000 ∧ ∀ c, c ∈ x.l → c.sure.length < 1000000000000 ∧ c.may.length < 1000000000000) (hp : StepP o x.t x.l y) (hs : SimO (y.o o x.t) (stP s (l.take n) ++ [⟨x.t, thsP o.sp x.l⟩])) : PlA s l (y.o o x.t) (n + 1) := by
  obtain ⟨_, p, c, m, e1, e2⟩ := hp
  refine ⟨by rw [take_en hx, stP_y hlv, ← h.sp]; have := hs; rw [h.sp] at this ⊢; exact this, h.sp, ?_, ?_⟩
  · show (o.lg ++ [y.lg]).map LgM.enp = _
    rw [List.map_append, h.lg, take_en hx, List.map_append, e1]
    congr 1
    show [EnP.mk x.t (m.map CP.c) gZ [] 0] = [x.canon]
    unfold EnP.canon
    rw [if_pos hlv, e2]
  · intro z hz
    rcases List.mem_append.1 hz with q | q
    · exact h.ok z q
    · simp at q; subst q
      rw [e1]
      refine ⟨?_, ?_, Nat.zero_le _⟩
      · show (m.map CP.c).length < _; rw [e2]; exact hb.1
      · intro c hc
        exact hb.2 c (by rw [← e2]; exact hc)
/-- A log that is read. -/
structure LogM (w : World) (p : Option Addr) (l : List EnM) : Prop where
  rows : RO 9 EnM.cells w p l
  ok : ∀ x, x ∈ l → Clouds w x.pc x.l ∧ Spans w x.pv x.vs ∧ x.l.length < 1000000000
theorem LogM.keep {w0 w : World} {L : List Res} {p : Option Addr} {l : List EnM} (h : LogM w0 p l) (hw : St (bs w0) L w) : LogM w p l := ⟨h.rows.keep w hw, fun x hx => ⟨(h.ok x hx).1.keep w hw, (h.ok x hx).2.1.keep w hw, (h.ok x hx).2.2⟩⟩
theorem field_len {g : Grid} {vs : List Span} (h : fieldE 1073741824 ⟨g, vs⟩ = 0) : vs.length ≤ 4096 := by
  unfold fieldE at h
  split at h
  · omega
  · rename_i q
    have z := area_bd (Classical.not_not.1 q)
    split at h
    · omega
    · rename_i q2
      have q3 := Classical.not_not.1 q2
      dsimp only at q3 z
      omega
structure PlY where
  o : OfM
  es : List Ev
  pe : Option Addr
  ce : Nat
end Go.Proofs.Ytdjflomhaljljaa

namespace Go.Proofs.Ytdjflomhaljljaa
open Go.SL Go.Proofs Go.Cast
set_option linter.unusedVariables false

theorem spec_new {g : Grid} {rgs : List RG} {a b d : Int} {s : Sp} {o : OfM} {l : List EnP} (hn : NewP g rgs a b d o) (hse : s = ⟨g, rgs.map RG.r, a, b, d⟩) (hs : specE s = 0) (hp : ∀ x, x ∈ rgs → x.r.pix.length < 1000000000000) : PlA s l o 0 := by
  have h1 := sim_new hn (by rw [← hse]; exact hs) hp
  obtain ⟨e1, e2, e3, e4, e5, e6, e7, _, e8, _⟩ := hn
  exact ⟨h1, by rw [hse]; unfold OfM.sp; rw [e1, e2, e3, e4, e8], by rw [e7]; rfl, fun x hx => by rw [e7] at hx; cases hx⟩
theorem RO.nilE {α : Type} {z : Nat} {f : α → List Value} {w : World} : Go.SL.Rows w z none (([] : List α).map f) := ⟨fun j r h => by simp at h, fun _ => rfl, fun _ a ha => by cases ha⟩

end Go.Proofs.Ytdjflomhaljljaa

namespace Go.Proofs.Ytdjflomhaljljaa
open Go.SL Go.Proofs Go.Cast
set_option linter.unusedVariables false

theorem Z93 : ZeroOf Try.prog 93 (.agg #[.int .i64 0, .int .i64 0, .int .i64 0, .int .i64 0, .int .i64 0, .slice none 0 0]) := by unfold ZeroOf; kernel_rfl
theorem N93 : (Try.prog.info? 93).map (·.size) = some 6 := by kernel_rfl
def zS18 : List Span := List.replicate 18 ⟨0, 0⟩
theorem clNil {w : World} : Clouds w none [] := ⟨RO.nilE, fun x hx => by cases hx⟩
theorem lS_len (q : Nat × Nat × Nat) : ∀ x, x ∈ lS q → x.r.pix.length < 1000000000000 := fun x hx => by
  simp only [lS, List.mem_cons, List.not_mem_nil, or_false] at hx
  rcases hx with rfl | rfl
  · exact show (4 : Nat) < 1000000000000 by decide
  · exact show (3 : Nat) < 1000000000000 by decide

end Go.Proofs.Ytdjflomhaljljaa

namespace Go.Proofs.Ytdjflomhaljljaa
open Go.SL Go.Proofs Go.Cast
set_option linter.unusedVariables false

theorem Z112 : ZeroOf Try.prog 112 (.agg #[.int .i64 0, .int .i64 0, .int .i64 0, .int .i64 0, .int .i64 0, .int .i64 0, .int .i64 0]) := by unfold ZeroOf; kernel_rfl
theorem S185 : IsSlice Try.prog 185 165 := Try.underlying185
theorem A112 : IsAgg Try.prog 112 7 := ⟨⟨_, Try.underlying112, rfl⟩, by kernel_rfl⟩
theorem N112 : (Try.prog.info? 112).map (·.size) = some 7 := by kernel_rfl
theorem C71 : IsFn Try.prog 71 := ⟨_, Try.func71, by decide, rfl⟩
theorem I112 : EInfo Try.prog 112 7 56 (.agg #[.int .i64 0, .int .i64 0, .int .i64 0, .int .i64 0, .int .i64 0, .int .i64 0, .int .i64 0]) := ⟨by kernel_rfl, by kernel_rfl, by unfold ZeroOf; kernel_rfl, rfl, by decide⟩


end Go.Proofs.Ytdjflomhaljljaa

namespace Go.Proofs.Ytdjflomhaljljaa
open Go.SL Go.Proofs Go.Cast
set_option linter.unusedVariables false

end Go.Proofs.Ytdjflomhaljljaa

namespace Go.Proofs.Ytdjflomhaljljaa
open Go.SL Go.Proofs Go.Cast
set_option linter.unusedVariables false

end Go.Proofs.Ytdjflomhaljljaa

namespace Go.Proofs.Ytdjflomhaljljaa
open Go.SL Go.Proofs Go.Cast
set_option linter.unusedVariables false

end Go.Proofs.Ytdjflomhaljljaa

namespace Go.Proofs.Ytdjflomhaljljaa
open Go.SL Go.Proofs Go.Cast
set_option linter.unusedVariables false

end Go.Proofs.Ytdjflomhaljljaa

namespace Go.Proofs.Ytdjflomhaljljaa
open Go.SL Go.Proofs Go.Cast
set_option linter.unusedVariables false

section
variable {g : Grid} {c : Cloud} {p t : Int}
end
section
variable {g : Grid} {c : Cloud} {p t vx vy u v e : Int}
end
end Go.Proofs.Ytdjflomhaljljaa

namespace Go.Proofs.Ytdjflomhaljljaa
open Go.SL Go.Proofs Go.Cast
set_option linter.unusedVariables false

end Go.Proofs.Ytdjflomhaljljaa

namespace Go.Proofs.Ytdjflomhaljljaa
open Go.SL Go.Proofs Go.Cast
set_option linter.unusedVariables false

section
variable {l : List Cloud} {a b : Int} {m : Nat}
end
section
variable {l : List Cloud} {a b : Int} {pix : List Int} {m j : Nat} {c : Cloud}
end
end Go.Proofs.Ytdjflomhaljljaa

namespace Go.Proofs.Ytdjflomhaljljaa
open Go.SL Go.Proofs Go.Cast
set_option linter.unusedVariables false

section
variable {l l' : List Cloud} {a a' b : Int} {pix : List Int}
end
section
variable {s s' : Sp} {f f' : Nat → List Cloud} {bs : List BtM} {n : Nat}
end
section
variable {s s' : Sp} {f f' : Nat → List Cloud} {bs : List BtM} {o : OfM} {n : Nat}
end
section
variable {d : DrM} {l : List Cloud} {bs : List BtM} {mo lo ho : Int} {i k : Nat}
end
section
variable {s s' : Sp} {f f' : Nat → List Cloud} {bs : List BtM} {N n : Nat} {H : Int}
end
end Go.Proofs.Ytdjflomhaljljaa

namespace Go.Proofs.Ytdjflomhaljljaa
open Go.SL Go.Proofs Go.Cast
set_option linter.unusedVariables false

/-- A fact that is kept out of sight. -/
structure Hw (p : Prop) : Prop where
  out : p
end Go.Proofs.Ytdjflomhaljljaa

namespace Go.Proofs.Ytdjflomhaljljaa
open Go.SL Go.Proofs Go.Cast
set_option linter.unusedVariables false

theorem F64_1 : FieldAt Try.prog 64 1 1 := ⟨_, _, Try.underlying64, rfl, rfl, 0, by kernel_rfl⟩
theorem F64_2 : FieldAt Try.prog 64 2 2 := ⟨_, _, Try.underlying64, rfl, rfl, 0, by kernel_rfl⟩


end Go.Proofs.Ytdjflomhaljljaa

namespace Go.Proofs.Ytdjflomhaljljaa
open Go.SL Go.Proofs Go.Cast
set_option linter.unusedVariables false

theorem A165 : IsAgg Try.prog 165 8 := ⟨⟨_, Try.underlying165, rfl⟩, by kernel_rfl⟩
theorem IM208 : IsMapI Try.prog 208 := ⟨3, 3, .i64, Try.underlying208, Try.underlying3, by unfold ZeroOf; kernel_rfl⟩


set_option maxRecDepth 20000 in
theorem hit_c (n : NtM) (x : RG) (w : World) (hv : Spans w n.p n.vs) (hx : Ints w x.px x.r.pix) (hl : x.r.pix.length < 1000000000000) (hp : ∀ p, p ∈ x.r.pix → 0 ≤ p ∧ p < (n.vs.length : Int)) :
  Calls Try.prog 88 #[.agg n.cells.toArray, .agg #[.string x.r.name, .slice x.px x.r.pix.length x.cx]] w fun e w' => e = .returned (.tuple #[.bool (hitB x.r.pix n.vs n.lv), .bool (canB x.r.pix n.vs n.lv)]) ∧ St (bs w) [] w' := by
  refine enter (vs := [_, _]) (env := [(0, _), (1, _)]) Try.func88 rfl rfl rfl rfl ?_
  refine VC.seq ?_
  refine VC.reg (VO.h rfl <| HO.box (C := #[_, _, _, _, _, _, _, _]) rfl rfl fun b1 => VO.h rfl <| HO.box (C := #[_, _]) rfl rfl fun b2 => VO.l (LO.as (.r rfl)) rfl <| VO.l (LO.as (.r rfl)) rfl <| VO.nil ?_)
  refine VE.seqN ?_
  refine VC.seq ?_
  refine VC.seq ?_
  refine VC.reg (VO.l (LO.fa (r := 1) F74_1 (.r rfl) rfl) rfl <| VO.l (LO.ld O55 (.r rfl) (fun _ hw => cells_at hw 0 rfl ⟨_, rfl⟩)) rfl <| VO.l (LO.len S55 (.r rfl) rfl) rfl <| VO.l (LO.mv (.r rfl)) rfl <| VO.nil ?_)
  refine VE.seqN ?_
  refine VC.block ?_
  refine VC.loopK (α := Nat) 0 (fun gx => [(4, .bool (hitB (x.r.pix.take gx) n.vs n.lv)), (5, .bool (canB (x.r.pix.take gx) n.vs n.lv)), (11, .int .i64 (gx : Nat))]) [(2, _), (9, _), (10, _)] (fun gx => []) (fun gx => gx ≤ x.r.pix.length) (fun gx => x.r.pix.length - gx) 0 (by exact Nat.zero_le _) (.cons rfl (.cons rfl (.cons rfl (.cons rfl (.cons rfl (.cons rfl .nil)))))) (fun _ h => h) ?_
  rintro j hj
  refine VC.seq ?_
  refine VC.reg (VO.l (LO.lt (.r rfl) (.r rfl)) rfl <| VO.nil ?_)
  refine VE.seqN ?_
  refine VC.seq ?_
  refine VC.cond rfl (fun h12 => ?_) (fun h12 => ?_)
  ·
    obtain ⟨q, hq⟩ : ∃ q, x.r.pix[j]? = some q := ⟨_, List.getElem?_eq_getElem (by omega)⟩
    have hqb := hp q (List.mem_of_getElem? hq)
    refine VC.skip (VE.seqN ?_)
    refine VC.seq ?_
    refine VC.block ?_
    refine VC.seq ?_
    refine VC.reg (VO.l (LO.ixs S55 N3 (Go.SL.Rows.some (n := x.r.pix.length) hx (by simp)) (.r rfl) (.r rfl) rfl (by omega)) rfl <| VO.l (LO.ld O3 (.r rfl) (fun w hw => cells_part (off := 0) ((fun w2 hw2 => (Go.SL.Rows.keep hx w2 hw2).cells _ _ (by rw [List.getElem?_map, hq]; rfl)) w hw) ⟨_, rfl⟩)) rfl <| VO.l (LO.as (.r rfl)) rfl <| VO.nil ?_)
    refine VE.seqN ?_
    refine VC.seq ?_
    refine VC.draw mixed (LL.l (LO.mv (.r rfl)) rfl <| LL.l (LO.mv (.r rfl)) rfl <| LL.lg rfl rfl (GD.f _) (fun hg => LO.fa (r := 1) F165_1 (.r rfl) rfl) rfl <| LL.lg rfl rfl (GD.f _) (fun hg => LO.fa (r := 6) F93_1 (.g hg rfl) rfl) rfl <| LL.lg rfl rfl (GD.f _) (fun hg => LO.ld O91 (.g hg rfl) (fun _ hw => cells_at hw 1 rfl ⟨_, rfl⟩)) rfl <| LL.lg rfl rfl (GD.f _) (fun hg => LO.mv (.r rfl)) rfl <| LL.lg rfl rfl (GD.f _) (fun hg => LO.ixs S91 N76 hv.some (.g hg rfl) (.g hg rfl) (j := q.toNat) (by omega) (by omega)) rfl <| LL.lg rfl rfl (GD.f _) (fun hg => LO.fa F76_0 (.g hg rfl) rfl) rfl <| LL.lg rfl rfl (GD.f _) (fun hg => LO.ld O3 (.g hg rfl) (fun w hw => cells_part (off := 0) (hv.at (j := q.toNat) (by omega) w hw) ⟨_, rfl⟩)) rfl <| LL.lg rfl rfl (GD.f _) (fun hg => LO.fa (r := 7) F165_2 (.r rfl) rfl) rfl <| LL.lg rfl rfl (GD.f _) (fun hg => LO.ld O3 (.g hg rfl) (fun _ hw => cells_at hw 1 rfl ⟨_, rfl⟩)) rfl <| LL.lg rfl rfl (GD.f _) (fun hg => LO.ge (.g hg rfl) (.g hg rfl)) rfl <| LL.l (LO.pkO (.r rfl) (.r rfl) rfl rfl) rfl <| LL.l (LO.as (.r rfl)) rfl <| LL.nil) (by kernel_rfl) ?_
    refine VE.seqN ?_
    refine VC.draw mixed (LL.l (LO.mv (.r rfl)) rfl <| LL.l (LO.mv (.r rfl)) rfl <| LL.lg rfl rfl (GD.f _) (fun hg => LO.fa (r := 1) F165_1 (.r rfl) rfl) rfl <| LL.lg rfl rfl (GD.f _) (fun hg => LO.fa (r := 6) F93_1 (.g hg rfl) rfl) rfl <| LL.lg rfl rfl (GD.f _) (fun hg => LO.ld O91 (.g hg rfl) (fun _ hw => cells_at hw 1 rfl ⟨_, rfl⟩)) rfl <| LL.lg rfl rfl (GD.f _) (fun hg => LO.mv (.r rfl)) rfl <| LL.lg rfl rfl (GD.f _) (fun hg => LO.ixs S91 N76 hv.some (.g hg rfl) (.g hg rfl) (j := q.toNat) (by omega) (by omega)) rfl <| LL.lg rfl rfl (GD.f _) (fun hg => LO.fa F76_1 (.g hg rfl) rfl) rfl <| LL.lg rfl rfl (GD.f _) (fun hg => LO.ld O3 (.g hg rfl) (fun w hw => cells_part (off := 1) (hv.at (j := q.toNat) (by omega) w hw) ⟨_, rfl⟩)) rfl <| LL.lg rfl rfl (GD.f _) (fun hg => LO.fa (r := 7) F165_2 (.r rfl) rfl) rfl <| LL.lg rfl rfl (GD.f _) (fun hg => LO.ld O3 (.g hg rfl) (fun _ hw => cells_at hw 1 rfl ⟨_, rfl⟩)) rfl <| LL.lg rfl rfl (GD.f _) (fun hg => LO.ge (.g hg rfl) (.g hg rfl)) rfl <| LL.l (LO.pkO (.r rfl) (.r rfl) rfl rfl) rfl <| LL.l (LO.as (.r rfl)) rfl <| LL.nil) (by kernel_rfl) ?_
    refine VE.inN (VE.seqN ?_)
    refine VC.reg (VO.l (LO.add (.r rfl) (.r rfl) (wi (by omega) (by omega))) rfl <| VO.l (LO.mv (.r rfl)) rfl <| VO.nil ?_)
    refine VE.thenN fun a w ha hw => ⟨j + 1, (by omega), (by omega), ha.sub (.cons (congrArg (fun z => some (Value.bool z)) (any_take hq).symm) (.cons (congrArg (fun z => some (Value.bool z)) (any_take hq).symm) (.cons rfl (.cons rfl (.cons rfl (.cons rfl .nil)))))), hw⟩
  ·
    refine VC.exit (VE.thenX (VE.thenX (VE.inX (VE.seqN ?_))))
    refine VC.seq ?_
    refine VC.reg (VO.l (LO.mv (.r rfl)) rfl <| VO.l (LO.mv (.r rfl)) rfl <| VO.l (LO.as (.r rfl)) rfl <| VO.l (LO.as (.r rfl)) rfl <| VO.nil ?_)
    refine VE.seqN ?_
    refine VC.ret (VE.res (vs := [_, _]) rfl ⟨rfl, rfl, trivial⟩ (fun w hw => ?_))
    rw [List.take_of_length_le (by omega)]
    exact ⟨rfl, hw.nil⟩

end Go.Proofs.Ytdjflomhaljljaa

namespace Go.Proofs.Ytdjflomhaljljaa
open Go.SL Go.Proofs Go.Cast
set_option linter.unusedVariables false

theorem N165 : (Try.prog.info? 165).map (·.size) = some 8 := by kernel_rfl
theorem Z165 : ZeroOf Try.prog 165 (.agg #[.int .i64 0, .int .i64 0, .int .i64 0, .int .i64 0, .int .i64 0, .int .i64 0, .slice none 0 0, .int .i64 0]) := by unfold ZeroOf; kernel_rfl
theorem C88 : IsFn Try.prog 88 := ⟨_, Try.func88, by decide, rfl⟩
theorem F112_0 : FieldAt Try.prog 112 0 0 := ⟨_, _, Try.underlying112, rfl, rfl, 0, by kernel_rfl⟩
theorem F112_1 : FieldAt Try.prog 112 1 1 := ⟨_, _, Try.underlying112, rfl, rfl, 0, by kernel_rfl⟩
theorem F112_4 : FieldAt Try.prog 112 4 4 := ⟨_, _, Try.underlying112, rfl, rfl, 0, by kernel_rfl⟩
theorem F112_2 : FieldAt Try.prog 112 2 2 := ⟨_, _, Try.underlying112, rfl, rfl, 0, by kernel_rfl⟩
theorem F112_3 : FieldAt Try.prog 112 3 3 := ⟨_, _, Try.underlying112, rfl, rfl, 0, by kernel_rfl⟩
theorem F112_5 : FieldAt Try.prog 112 5 5 := ⟨_, _, Try.underlying112, rfl, rfl, 1, by kernel_rfl⟩


theorem cnt_le {pix : List Int} {on : Int → Bool} {ns : List Nt} {x : Tal} (h : CntT pix on ns x) : (0 ≤ x.h ∧ x.h ≤ ns.length) ∧ (0 ≤ x.m ∧ x.m ≤ ns.length) ∧ (0 ≤ x.o ∧ x.o ≤ ns.length) ∧ (0 ≤ x.a ∧ x.a ≤ ns.length) ∧ (0 ≤ x.q ∧ x.q ≤ ns.length) := by
  obtain ⟨h0, h1, h2, h3, h4⟩ := h
  rw [h0, h1, h2, h3, h4]
  exact ⟨cntK_le, cntK_le, cntK_le, cntK_le, cntK_le⟩
section
variable {pix : List Int} {on : Int → Bool} {n : NtM} {c : CsM} {k : Int}
theorem kN_0 (h : hitB pix n.vs n.lv = true ∧ on n.t = true) : kNt pix on n.n = 0 := by
  unfold kNt kN; show (if (hitB pix n.vs n.lv && on n.t) = true then 0 else _) = 0; rw [h.1, h.2]; rfl
theorem kN_1 (h : ¬ (hitB pix n.vs n.lv = true ∧ on n.t = true)) (h1 : hitB pix n.vs n.lv = true) : kNt pix on n.n = 1 := by
  unfold kNt; show kN (hitB pix n.vs n.lv) (canB pix n.vs n.lv) (on n.t) = 1
  rw [h1] at h ⊢; cases q : on n.t with
  | true => exact absurd ⟨rfl, q⟩ h
  | false => cases canB pix n.vs n.lv <;> rfl
theorem kN_2 (h : ¬ (hitB pix n.vs n.lv = true ∧ on n.t = true)) (h1 : ¬ hitB pix n.vs n.lv = true) (h2 : canB pix n.vs n.lv = true) : kNt pix on n.n = 2 := by
  unfold kNt; show kN (hitB pix n.vs n.lv) (canB pix n.vs n.lv) (on n.t) = 2
  rw [h2, Bool.eq_false_iff.2 h1]; cases on n.t <;> rfl
theorem kN_3 (h : ¬ (hitB pix n.vs n.lv = true ∧ on n.t = true)) (h1 : ¬ hitB pix n.vs n.lv = true) (h2 : ¬ canB pix n.vs n.lv = true) (h3 : on n.t = true) : kNt pix on n.n = 3 := by
  unfold kNt; show kN (hitB pix n.vs n.lv) (canB pix n.vs n.lv) (on n.t) = 3
  rw [h3, Bool.eq_false_iff.2 h1, Bool.eq_false_iff.2 h2]; rfl
theorem kN_4 (h : ¬ (hitB pix n.vs n.lv = true ∧ on n.t = true)) (h1 : ¬ hitB pix n.vs n.lv = true) (h2 : ¬ canB pix n.vs n.lv = true) (h3 : ¬ on n.t = true) : kNt pix on n.n = 4 := by
  unfold kNt; show kN (hitB pix n.vs n.lv) (canB pix n.vs n.lv) (on n.t) = 4
  rw [Bool.eq_false_iff.2 h3, Bool.eq_false_iff.2 h1, Bool.eq_false_iff.2 h2]; rfl
theorem inC_of (h : ((hitB pix n.vs n.lv = true ∧ c.rg = k) ∧ c.bg ≤ n.t) ∧ n.t < c.en) : inC pix c.p n.n = true := by
  unfold inC; show ((hitB pix n.vs n.lv && decide (c.bg ≤ n.t)) && decide (n.t < c.en)) = true
  rw [h.1.1.1, decide_eq_true h.1.2, decide_eq_true h.2]; rfl
theorem inC_to (hr : c.p.rg = k) (h : inC pix c.p n.n = true) : ((hitB pix n.vs n.lv = true ∧ c.rg = k) ∧ c.bg ≤ n.t) ∧ n.t < c.en := by
  unfold inC at h
  simp only [Bool.and_eq_true, decide_eq_true_eq] at h
  exact ⟨⟨⟨h.1.1, hr⟩, h.1.2⟩, h.2⟩
theorem upd_of {m f : Option Int} {v : Int} (h : m = f) (k : (¬ m.isSome = true) ∨ v < m.getD 0) : f = none ∨ ∃ u, f = some u ∧ v < u := by
  subst h
  cases m with
  | none => exact .inl rfl
  | some u => rcases k with q | q; (· exact absurd rfl q); (· exact .inr ⟨u, rfl, q⟩)
theorem same_of {m f : Option Int} {v : Int} (h : m = f) (k : ¬ ((¬ m.isSome = true) ∨ v < m.getD 0)) : ∃ u, f = some u ∧ u ≤ v := by
  subst h
  cases m with
  | none => exact absurd (.inl (fun q => by cases q)) k
  | some u => exact ⟨u, rfl, by have : ¬ v < u := fun q => k (.inr q); omega⟩
end

set_option maxRecDepth 20000 in
set_option maxHeartbeats 8000000 in
theorem score_c (o : OfM) (r : RcM) (ns : List NtM) (p : Option Addr) (c : Nat) (on : Int → Bool) (w : World) (hr : r ∈ o.rc) (hlv : r.lv.length = o.ts.length) (hn : o.ts.length < 1000000) (hs : o.ts.Pairwise (· ≤ ·)) (hcl : o.cs.length < 1000000000) (hcn : ∀ (j : Nat) (c : CsM), o.cs[j]? = some c → c.nm = (j : Int) + 1 ∧ 0 ≤ c.bg) (hnl : ns.length < 1000000000) (hpl : r.x.r.pix.length < 1000000000000) (hon : ∀ t, on t = !decide (atLv o.ts r.lv t = 0)) (hnt : ∀ n, n ∈ ns → (0 ≤ n.t ∧ n.t ≤ 4294967296) ∧ Spans w n.p n.vs ∧ ∀ p, p ∈ r.x.r.pix → 0 ≤ p ∧ p < (n.vs.length : Int)) (hx : Ints w r.x.px r.x.r.pix) (hh : Has w (offR o)) (hN : RO 8 NtM.cells w p ns) :
  Calls Try.prog 71 #[ptrN o.b, ptrN r.b, .slice p ns.length c] w fun e w' => e = .returned (.agg (talF r.i r.x.r.pix on (o.cs.map CsM.p) (ns.map NtM.n)).cells.toArray) ∧ St (bs w) [] w' := by
  have hcr : RO 1 csP w o.pk o.cs := RO.of_own hh 6 rfl
  obtain ⟨NS, hNS⟩ : ∃ l, l = ns.map NtM.n := ⟨_, rfl⟩
  obtain ⟨CS, hCS⟩ : ∃ l, l = o.cs.map CsM.p := ⟨_, rfl⟩
  have hNL : NS.length = ns.length := by rw [hNS, List.length_map]
  have hCL : CS.length = o.cs.length := by rw [hCS, List.length_map]
  rw [← hNS, ← hCS]
  refine enter (vs := [_, _, _]) (env := [(0, _), (1, _), (2, _)]) Try.func71 rfl rfl rfl rfl ?_
  refine VC.seq ?_
  refine VC.reg (VO.h rfl <| HO.alloc (C := #[_, _, _, _, _, _, _]) Z112 rfl fun b1 => VO.nil ?_)
  refine VE.seqN ?_
  refine VC.seq ?_
  refine VC.reg (VO.h rfl <| HO.alloc (C := #[_, _, _, _, _, _, _]) Z112 rfl fun b2 => VO.nil ?_)
  refine VE.seqN ?_
  refine VC.seq ?_
  refine VC.reg (VO.h rfl <| HO.mkmapI fun b3 => VO.h rfl <| HO.lo (LO.as (.r rfl)) <| VO.nil ?_)
  refine VE.seqN ?_
  refine VC.seq ?_
  refine VC.seq ?_
  refine VC.reg (VO.l (LO.mv (.r rfl)) rfl <| VO.l (LO.len S185 (.r rfl) rfl) rfl <| VO.l (LO.mv (.r rfl)) rfl <| VO.nil ?_)
  refine VE.seqN ?_
  refine VC.block ?_
  refine VC.perm [1, 0, 2] rfl ?_
  refine VC.loopK (α := Nat × Tal × (Array MapEntry) × Nat) 2 (fun gx => [(24, .int .i64 (gx.1 : Nat))]) [(0, _), (1, _), (6, _), (7, _), (8, _), (22, _), (23, _)] (fun gx => [blk b2 (.cells #[.int .i64 gx.2.1.h, .int .i64 gx.2.1.m, .int .i64 gx.2.1.a, .int .i64 gx.2.1.q, .int .i64 gx.2.1.o, .int .i64 0, .int .i64 0] 112), blk b3 (.map gx.2.2.1 gx.2.2.2)]) (fun gx => gx.1 ≤ ns.length ∧ CntT r.x.r.pix on (NS.take gx.1) gx.2.1 ∧ MapE gx.2.2.1.toList (mapF r.i r.x.r.pix CS NS gx.1 0) ∧ Stamps gx.2.2.1.toList gx.2.2.2) (fun gx => ns.length - gx.1) (0, (⟨0, 0, 0, 0, 0, 0, 0⟩ : Tal), #[], 0) (by exact ⟨Nat.zero_le _, ⟨rfl, rfl, rfl, rfl, rfl⟩, by rw [mapF_0]; exact mapE_nil, by simp [Stamps]⟩) (.cons rfl (.cons rfl (.cons rfl (.cons rfl (.cons rfl (.cons rfl (.cons rfl (.cons rfl .nil)))))))) (fun _ h => h) ?_
  rintro ⟨i, T, es, ck⟩ ⟨hi, hT, hE, hSt⟩
  show VC _ _ _ _ _ ([(24, .int .i64 (i : Nat))] ++ _) ([blk b2 (.cells #[.int .i64 T.h, .int .i64 T.m, .int .i64 T.a, .int .i64 T.q, .int .i64 T.o, .int .i64 0, .int .i64 0] 112), blk b3 (.map es ck)] ++ _) _ _
  dsimp only at hi hT hE hSt
  refine VC.seq ?_
  refine VC.reg (VO.l (LO.lt (.r rfl) (.r rfl)) rfl <| VO.nil ?_)
  refine VE.seqN ?_
  refine VC.seq ?_
  refine VC.cond rfl (fun h25 => ?_) (fun h25 => ?_)
  ·
    obtain ⟨nx, hnx⟩ : ∃ x, ns[i]? = some x := ⟨_, List.getElem?_eq_getElem (by omega)⟩
    have hnm := List.mem_of_getElem? hnx
    have hntb := (hnt nx hnm).1
    have hNx : NS[i]? = some nx.n := by rw [hNS, List.getElem?_map, hnx]; rfl
    have hNT : NS.take (i + 1) = NS.take i ++ [nx.n] := by rw [List.take_add_one, hNx]; rfl
    have hTl := cnt_le hT
    have hTl2 : (NS.take i).length ≤ NS.length := by rw [List.length_take]; omega
    refine VC.skip (VE.seqN ?_)
    refine VC.seq ?_
    refine VC.block ?_
    refine VC.seq ?_
    refine VC.reg (VO.l (LO.ixs S185 N165 hN.sm (.r rfl) (.r rfl) rfl (by omega)) rfl <| VO.l (LO.lda (vs := [_, _, _, _, _, _, _, _]) A165 (.r rfl) (fun w hw => cells_part (off := 0) ((fun w2 hw2 => (hN.keep w2 hw2).cells _ _ (by rw [List.getElem?_map, hnx]; rfl)) w hw) ⟨_, rfl⟩) rfl) rfl <| VO.h rfl <| HO.alloc (C := #[_, _, _, _, _, _, _, _]) Z165 rfl fun b4 => VO.h0 <| HO.st 0 (vs := [_, _, _, _, _, _, _, _]) (C' := [_, _, _, _, _, _, _, _]) (L' := [_, _, _, _]) N165 rfl rfl rfl rfl rfl rfl rfl rfl <| VO.nil ?_)
    refine VE.seqN ?_
    refine VC.seq ?_
    refine VC.draw mixed (LL.l (LO.lda (vs := [_, _, _, _, _, _, _, _]) A165 (.r rfl) (fun _ hw => cells_at hw 0 rfl ⟨_, rfl⟩) rfl) rfl <| LL.l (LO.mv (.r rfl)) rfl <| LL.l (LO.nc (.r rfl)) rfl <| LL.l (LO.fa (r := 0) F156_0 (.r rfl) rfl) rfl <| LL.l (LO.lda (vs := [_, _]) A74 (.r rfl) (cells_keep (sub_cells (off := 0) (rec_read hh hr).1 ⟨_, rfl⟩)) rfl) rfl <| LL.l (LO.call (xs := [_, _]) (vs := [_, _]) C88 ⟨(.r rfl), (.r rfl), trivial⟩ (fun w2 hw2 => hit_c nx r.x w2 ((hnt nx hnm).2.1.keep w2 hw2) (Go.SL.Rows.keep hx w2 hw2) hpl (hnt nx hnm).2.2)) rfl <| LL.l (LO.mv (.r rfl)) rfl <| LL.l (LO.ex (.r rfl) rfl) rfl <| LL.l (LO.ex (.r rfl) rfl) rfl <| LL.l (LO.as (.r rfl)) rfl <| LL.l (LO.as (.r rfl)) rfl <| LL.nil) (by kernel_rfl) ?_
    refine VE.seqN ?_
    refine VC.seq ?_
    refine VC.reg (VO.l (LO.mv (.r rfl)) rfl <| VO.l (LO.mv (.r rfl)) rfl <| VO.l (LO.fa (r := 0) F165_0 (.r rfl) rfl) rfl <| VO.l (LO.ld O3 (.r rfl) (fun _ hw => cells_at hw 0 rfl ⟨_, rfl⟩)) rfl <| VO.l (LO.call (xs := [_, _, _]) (vs := [_, _, _]) C59 ⟨(.r rfl), (.r rfl), (.r rfl), trivial⟩ (fun w2 hw2 => at_o o r nx.t w2 hr hlv hn hs (hh.keep hw2))) rfl <| VO.l (LO.ne (.r rfl) (.r rfl)) rfl <| VO.l (LO.as (.r rfl)) rfl <| VO.nil ?_)
    rw [show (!decide (atLv o.ts r.lv nx.t = 0)) = on nx.t from (hon nx.t).symm]
    refine VE.seqN ?_
    refine VC.seq ?_
    refine VC.block ?_
    refine VC.seq ?_
    refine VC.reg (VO.l (LO.mv (.r rfl)) rfl <| VO.l (LO.mv (.r rfl)) rfl <| VO.lg rfl rfl (GD.t _) (fun hg => LO.mv (.r rfl)) rfl <| VO.l (LO.pkA (.r rfl) rfl rfl (.r rfl)) rfl <| VO.l (LO.as (.r rfl)) rfl <| VO.nil ?_)
    refine VE.seqN ?_
    refine VC.cond rfl (fun h47 => ?_) (fun h47 => ?_)
    ·
      refine VC.reg (VO.l (LO.fa (r := 0) F112_0 (.r rfl) rfl) rfl <| VO.l (LO.ld O3 (.r rfl) (fun _ hw => cells_at hw 1 rfl ⟨_, rfl⟩)) rfl <| VO.l (LO.add (.r rfl) (.r rfl) (wi (by omega) (by omega))) rfl <| VO.l (LO.fa (r := 0) F112_0 (.r rfl) rfl) rfl <| VO.h0 <| HO.st 1 (vs := [_]) (C' := [_, _, _, _, _, _, _]) (L' := [_, _, _, _]) N3 rfl rfl rfl rfl rfl rfl rfl rfl <| VO.nil ?_)
      refine VE.inN (VE.seqN ?_)
      refine VC.seq ?_
      refine VC.reg (VO.l (LO.mv (.r rfl)) rfl <| VO.l (LO.nc (.r rfl)) rfl <| VO.l (LO.fa (r := 11) F117_3 (.r rfl) rfl) rfl <| VO.l (LO.ld O114 (.r rfl) (cells_keep (sub_cells (off := 11) (off_cells hh) ⟨_, rfl⟩))) rfl <| VO.l (LO.len S114 (.r rfl) rfl) rfl <| VO.l (LO.mv (.r rfl)) rfl <| VO.nil ?_)
      refine VE.seqN ?_
      refine VC.block ?_
      refine VC.perm [2, 0, 1, 3] rfl ?_
      refine VC.loopK (α := Nat × (Array MapEntry) × Nat) 1 (fun gx => [(79, .int .i64 (gx.1 : Nat))]) [(0, _), (1, _), (6, _), (7, _), (8, _), (10, _), (11, _), (22, _), (23, _), (24, _), (77, _), (78, _)] (fun gx => [blk b3 (.map gx.2.1 gx.2.2)]) (fun gx => gx.1 ≤ o.cs.length ∧ MapE gx.2.1.toList (mapF r.i r.x.r.pix CS NS i gx.1) ∧ Stamps gx.2.1.toList gx.2.2) (fun gx => o.cs.length - gx.1) (0, es, ck) (by exact ⟨Nat.zero_le _, hE, hSt⟩) (.cons rfl (.cons rfl (.cons rfl (.cons rfl (.cons rfl (.cons rfl (.cons rfl (.cons rfl (.cons rfl (.cons rfl (.cons rfl (.cons rfl (.cons rfl .nil))))))))))))) (fun _ h => h) ?_
      rintro ⟨j, es, ck⟩ ⟨hj, hE, hSt⟩
      show VC _ _ _ _ _ ([(79, .int .i64 (j : Nat))] ++ _) ([blk b3 (.map es ck)] ++ _) _ _
      dsimp only at hj hE hSt
      refine VC.seq ?_
      refine VC.reg (VO.l (LO.lt (.r rfl) (.r rfl)) rfl <| VO.nil ?_)
      refine VE.seqN ?_
      refine VC.seq ?_
      refine VC.cond rfl (fun h80 => ?_) (fun h80 => ?_)
      ·
        obtain ⟨cx, hcx⟩ : ∃ x, o.cs[j]? = some x := ⟨_, List.getElem?_eq_getElem (by omega)⟩
        have hcm := List.mem_of_getElem? hcx
        have hcb := hcn j cx hcx
        have hCx : CS[j]? = some cx.p := by rw [hCS, List.getElem?_map, hcx]; rfl
        refine VC.skip (VE.seqN ?_)
        refine VC.seq ?_
        refine VC.block ?_
        refine VC.seq ?_
        refine VC.reg (VO.l (LO.ixs S114 N150 hcr.sm (.r rfl) (.r rfl) rfl (by omega)) rfl <| VO.l (LO.ld O150 (.r rfl) (fun w hw => cells_part (off := 0) ((fun w2 hw2 => (hcr.keep w2 hw2).cells _ _ (by rw [List.getElem?_map, hcx]; rfl)) w hw) ⟨_, rfl⟩)) rfl <| VO.l (LO.as (.r rfl)) rfl <| VO.nil ?_)
        refine VE.seqN ?_
        refine VC.seq ?_
        refine VC.draw mixed (LL.l (LO.mv (.r rfl)) rfl <| LL.l (LO.mv (.r rfl)) rfl <| LL.lg rfl rfl (GD.t _) (fun hg => LO.mv (.r rfl)) rfl <| LL.lg rfl rfl (GD.t _) (fun hg => LO.nc (.g hg rfl)) rfl <| LL.lg rfl rfl (GD.t _) (fun hg => LO.fa (r := 1) F64_1 (.g hg rfl) rfl) rfl <| LL.lg rfl rfl (GD.t _) (fun hg => LO.ld O3 (.g hg rfl) (cells_keep (sub_cells (off := 1) (case_read hh hcm) ⟨_, rfl⟩))) rfl <| LL.lg rfl rfl (GD.t _) (fun hg => LO.mv (.r rfl)) rfl <| LL.lg rfl rfl (GD.t _) (fun hg => LO.nc (.g hg rfl)) rfl <| LL.lg rfl rfl (GD.t _) (fun hg => LO.fa (r := 2) F156_1 (.g hg rfl) rfl) rfl <| LL.lg rfl rfl (GD.t _) (fun hg => LO.ld O3 (.g hg rfl) (cells_keep (sub_cells (off := 2) (rec_read hh hr).1 ⟨_, rfl⟩))) rfl <| LL.lg rfl rfl (GD.t _) (fun hg => LO.eq (.g hg rfl) (.g hg rfl)) rfl <| LL.l (LO.pkA (.r rfl) rfl rfl (.r rfl)) rfl <| LL.l (LO.mv (.r rfl)) rfl <| LL.lg rfl rfl (GD.t _) (fun hg => LO.mv (.r rfl)) rfl <| LL.lg rfl rfl (GD.t _) (fun hg => LO.nc (.g hg rfl)) rfl <| LL.lg rfl rfl (GD.t _) (fun hg => LO.fa (r := 2) F64_2 (.g hg rfl) rfl) rfl <| LL.lg rfl rfl (GD.t _) (fun hg => LO.ld O3 (.g hg rfl) (cells_keep (sub_cells (off := 2) (case_read hh hcm) ⟨_, rfl⟩))) rfl <| LL.lg rfl rfl (GD.t _) (fun hg => LO.fa (r := 0) F165_0 (.r rfl) rfl) rfl <| LL.lg rfl rfl (GD.t _) (fun hg => LO.ld O3 (.g hg rfl) (fun _ hw => cells_at hw 1 rfl ⟨_, rfl⟩)) rfl <| LL.lg rfl rfl (GD.t _) (fun hg => LO.le (.g hg rfl) (.g hg rfl)) rfl <| LL.l (LO.pkA (.r rfl) rfl rfl (.r rfl)) rfl <| LL.l (LO.mv (.r rfl)) rfl <| LL.lg rfl rfl (GD.t _) (fun hg => LO.fa (r := 0) F165_0 (.r rfl) rfl) rfl <| LL.lg rfl rfl (GD.t _) (fun hg => LO.ld O3 (.g hg rfl) (fun _ hw => cells_at hw 1 rfl ⟨_, rfl⟩)) rfl <| LL.lg rfl rfl (GD.t _) (fun hg => LO.mv (.r rfl)) rfl <| LL.lg rfl rfl (GD.t _) (fun hg => LO.nc (.g hg rfl)) rfl <| LL.lg rfl rfl (GD.t _) (fun hg => LO.fa (r := 3) F64_3 (.g hg rfl) rfl) rfl <| LL.lg rfl rfl (GD.t _) (fun hg => LO.ld O3 (.g hg rfl) (cells_keep (sub_cells (off := 3) (case_read hh hcm) ⟨_, rfl⟩))) rfl <| LL.lg rfl rfl (GD.t _) (fun hg => LO.lt (.g hg rfl) (.g hg rfl)) rfl <| LL.l (LO.pkA (.r rfl) rfl rfl (.r rfl)) rfl <| LL.nil) (by kernel_rfl) ?_
        refine VE.seqN ?_
        refine VC.cond rfl (fun h112 => ?_) (fun h112 => ?_)
        ·
          have hic : inC r.x.r.pix cx.p nx.n = true := inC_of h112
          have hrg : cx.p.rg = (r.i : Int) := h112.1.1.2
          have hbt : cx.bg ≤ nx.t := h112.1.2
          have hat : mapF (r.i : Int) r.x.r.pix CS NS i j cx.nm = firstN r.x.r.pix cx.p (NS.take i) := by rw [hcb.1]; exact mapF_at hCx hrg
          refine VC.seq ?_
          refine VC.reg (VO.l (LO.mv (.r rfl)) rfl <| VO.l (LO.mv (.r rfl)) rfl <| VO.l (LO.nc (.r rfl)) rfl <| VO.l (LO.fa (r := 0) F64_0 (.r rfl) rfl) rfl <| VO.l (LO.ld O3 (.r rfl) (cells_keep (sub_cells (off := 0) (case_read hh hcm) ⟨_, rfl⟩))) rfl <| VO.l (LO.lk2 IM208 (.r rfl) (.r rfl) (fun _ hw => ⟨es, ck, St.inv hw 0 _ rfl, hE⟩)) rfl <| VO.l (LO.mv (.r rfl)) rfl <| VO.l (LO.ex (.r rfl) rfl) rfl <| VO.l (LO.ex (.r rfl) rfl) rfl <| VO.l (LO.as (.r rfl)) rfl <| VO.l (LO.as (.r rfl)) rfl <| VO.nil ?_)
          refine VE.seqN ?_
          refine VC.seq ?_
          refine VC.draw mixed (LL.l (LO.mv (.r rfl)) rfl <| LL.l (LO.not (.r rfl)) rfl <| LL.l (LO.mv (.r rfl)) rfl <| LL.lg rfl rfl (GD.f _) (fun hg => LO.fa (r := 0) F165_0 (.r rfl) rfl) rfl <| LL.lg rfl rfl (GD.f _) (fun hg => LO.ld O3 (.g hg rfl) (fun _ hw => cells_at hw 1 rfl ⟨_, rfl⟩)) rfl <| LL.lg rfl rfl (GD.f _) (fun hg => LO.mv (.r rfl)) rfl <| LL.lg rfl rfl (GD.f _) (fun hg => LO.nc (.g hg rfl)) rfl <| LL.lg rfl rfl (GD.f _) (fun hg => LO.fa (r := 2) F64_2 (.g hg rfl) rfl) rfl <| LL.lg rfl rfl (GD.f _) (fun hg => LO.ld O3 (.g hg rfl) (cells_keep (sub_cells (off := 2) (case_read hh hcm) ⟨_, rfl⟩))) rfl <| LL.lg rfl rfl (GD.f _) (fun hg => LO.sub (.g hg rfl) (.g hg rfl) (wi (by omega) (by omega))) rfl <| LL.lg rfl rfl (GD.f _) (fun hg => LO.mv (.r rfl)) rfl <| LL.lg rfl rfl (GD.f _) (fun hg => LO.lt (.g hg rfl) (.g hg rfl)) rfl <| LL.l (LO.pkO (.r rfl) (.r rfl) rfl rfl) rfl <| LL.nil) (by kernel_rfl) ?_
          refine VE.seqN ?_
          refine VC.cond rfl (fun h134 => ?_) (fun h134 => ?_)
          ·
            have hupd := mapF_upd (k := (r.i : Int)) hCx hNx hrg hic (upd_of hat h134)
            refine VC.drawH [[0, 1, 2, 3], [1, 2, 3]] [some 0, some 0, some 0, some 0, some 0, some 0, some 0, some 0, some 0, some 0, some 0, some 0, none] mixed (by kernel_rfl) rfl (LX.l (fun _ hJ => LO.mv (.r rfl)) rfl <| LX.l (fun _ hJ => LO.mv (.r rfl)) rfl <| LX.l (fun _ hJ => LO.nc (.r rfl)) rfl <| LX.l (fun _ hJ => LO.fa (r := 0) F64_0 (.r rfl) rfl) rfl <| LX.l (fun _ hJ => LO.ld O3 (.r rfl) (cells_keep (sub_cells (off := 0) (case_read hh hcm) ⟨_, rfl⟩))) rfl <| LX.l (fun _ hJ => LO.fa (r := 0) F165_0 (.r rfl) rfl) rfl <| LX.l (fun _ hJ => LO.ld O3 (.r rfl) (fun _ hw => cells_at (hJ _ hw) 1 rfl ⟨_, rfl⟩)) rfl <| LX.l (fun _ hJ => LO.mv (.r rfl)) rfl <| LX.l (fun _ hJ => LO.nc (.r rfl)) rfl <| LX.l (fun _ hJ => LO.fa (r := 2) F64_2 (.r rfl) rfl) rfl <| LX.l (fun _ hJ => LO.ld O3 (.r rfl) (cells_keep (sub_cells (off := 2) (case_read hh hcm) ⟨_, rfl⟩))) rfl <| LX.l (fun _ hJ => LO.sub (.r rfl) (.r rfl) (wi (by omega) (by omega))) rfl <| LX.s <| LX.nil) (HX.s <| HX.s <| HX.s <| HX.s <| HX.s <| HX.s <| HX.s <| HX.s <| HX.s <| HX.s <| HX.s <| HX.s <| HX.h0 <| HO.mupI 0 (fun R => [R, _, _, _]) IM208 (.r rfl) (.r rfl) (.r rfl) rfl hE hSt (fun _ => rfl) fun es2 ck2 hE2 hSt2 => ⟨fun _ hw => hw.sel [1, 2, 3] rfl, HX.nil ?_⟩)
            refine VE.inN (VE.seqN ?_)
            refine VC.reg (VO.l (LO.add (.r rfl) (.r rfl) (wi (by omega) (by omega))) rfl <| VO.l (LO.mv (.r rfl)) rfl <| VO.nil ?_)
            refine VE.thenN fun a w ha hw => ⟨(j + 1, es2, ck2), ⟨by dsimp only; omega, by dsimp only; rw [hupd]; rw [hcb.1] at hE2; exact hE2, hSt2⟩, (by dsimp only; omega), ha.sub (.cons rfl (.cons rfl (.cons rfl (.cons rfl (.cons rfl (.cons rfl (.cons rfl (.cons rfl (.cons rfl (.cons rfl (.cons rfl (.cons rfl (.cons rfl .nil))))))))))))), (by exact selK (L1 := [_, _, _, _]) [0, 1, 2, 3] rfl rfl _ hw)⟩
          ·
            obtain ⟨u, hu1, hu2⟩ := same_of hat h134
            have hsame := mapF_same (k := (r.i : Int)) hCx hNx hrg hic hu1 hu2
            refine VC.skip (VE.inN (VE.seqN ?_))
            refine VC.reg (VO.l (LO.add (.r rfl) (.r rfl) (wi (by omega) (by omega))) rfl <| VO.l (LO.mv (.r rfl)) rfl <| VO.nil ?_)
            refine VE.thenN fun a w ha hw => ⟨(j + 1, es, ck), ⟨by dsimp only; omega, by dsimp only; rw [hsame]; exact hE, hSt⟩, (by dsimp only; omega), ha.sub (.cons rfl (.cons rfl (.cons rfl (.cons rfl (.cons rfl (.cons rfl (.cons rfl (.cons rfl (.cons rfl (.cons rfl (.cons rfl (.cons rfl (.cons rfl .nil))))))))))))), (by exact selK (L1 := [_, _, _, _]) [0, 1, 2, 3] rfl rfl _ hw)⟩
        ·
          have hskip := mapF_skip (k := (r.i : Int)) (pix := r.x.r.pix) hCx hNx (fun q => h112 (inC_to q.1 q.2))
          refine VC.skip (VE.inN (VE.seqN ?_))
          refine VC.reg (VO.l (LO.add (.r rfl) (.r rfl) (wi (by omega) (by omega))) rfl <| VO.l (LO.mv (.r rfl)) rfl <| VO.nil ?_)
          refine VE.thenN fun a w ha hw => ⟨(j + 1, es, ck), ⟨by dsimp only; omega, by dsimp only; rw [hskip]; exact hE, hSt⟩, (by dsimp only; omega), ha.sub (.cons rfl (.cons rfl (.cons rfl (.cons rfl (.cons rfl (.cons rfl (.cons rfl (.cons rfl (.cons rfl (.cons rfl (.cons rfl (.cons rfl (.cons rfl .nil))))))))))))), (by exact selK (L1 := [_, _, _, _]) [0, 1, 2, 3] rfl rfl _ hw)⟩
      ·
        have hje : j = CS.length := by omega
        rw [hje, mapF_next] at hE
        refine VC.exit (VE.thenX (VE.thenX (VE.inX (VE.inN (VE.seqN ?_)))))
        refine VC.reg (VO.l (LO.add (.r rfl) (.r rfl) (wi (by omega) (by omega))) rfl <| VO.l (LO.mv (.r rfl)) rfl <| VO.nil ?_)
        refine VE.thenN fun a w ha hw => ⟨(i + 1, (bump 0 T), es, ck), ⟨by dsimp only; omega, by dsimp only; rw [hNT]; exact cnt_bump hT (kN_0 h47), hE, hSt⟩, (by dsimp only; omega), ha.sub (.cons rfl (.cons rfl (.cons rfl (.cons rfl (.cons rfl (.cons rfl (.cons rfl (.cons rfl .nil)))))))), (by exact selK (L1 := [_, _, _]) [2, 0, 3] rfl rfl _ hw)⟩
    ·
      refine VC.seq ?_
      refine VC.reg (VO.l (LO.mv (.r rfl)) rfl <| VO.l (LO.as (.r rfl)) rfl <| VO.nil ?_)
      refine VE.seqN ?_
      refine VC.cond rfl (fun h56 => ?_) (fun h56 => ?_)
      ·
        refine VC.reg (VO.l (LO.fa (r := 1) F112_1 (.r rfl) rfl) rfl <| VO.l (LO.ld O3 (.r rfl) (fun _ hw => cells_at hw 1 rfl ⟨_, rfl⟩)) rfl <| VO.l (LO.add (.r rfl) (.r rfl) (wi (by omega) (by omega))) rfl <| VO.l (LO.fa (r := 1) F112_1 (.r rfl) rfl) rfl <| VO.h0 <| HO.st 1 (vs := [_]) (C' := [_, _, _, _, _, _, _]) (L' := [_, _, _, _]) N3 rfl rfl rfl rfl rfl rfl rfl rfl <| VO.nil ?_)
        refine VE.inN (VE.seqN ?_)
        refine VC.seq ?_
        refine VC.reg (VO.l (LO.mv (.r rfl)) rfl <| VO.l (LO.nc (.r rfl)) rfl <| VO.l (LO.fa (r := 11) F117_3 (.r rfl) rfl) rfl <| VO.l (LO.ld O114 (.r rfl) (cells_keep (sub_cells (off := 11) (off_cells hh) ⟨_, rfl⟩))) rfl <| VO.l (LO.len S114 (.r rfl) rfl) rfl <| VO.l (LO.mv (.r rfl)) rfl <| VO.nil ?_)
        refine VE.seqN ?_
        refine VC.block ?_
        refine VC.perm [2, 0, 1, 3] rfl ?_
        refine VC.loopK (α := Nat × (Array MapEntry) × Nat) 1 (fun gx => [(79, .int .i64 (gx.1 : Nat))]) [(0, _), (1, _), (6, _), (7, _), (8, _), (10, _), (11, _), (22, _), (23, _), (24, _), (77, _), (78, _)] (fun gx => [blk b3 (.map gx.2.1 gx.2.2)]) (fun gx => gx.1 ≤ o.cs.length ∧ MapE gx.2.1.toList (mapF r.i r.x.r.pix CS NS i gx.1) ∧ Stamps gx.2.1.toList gx.2.2) (fun gx => o.cs.length - gx.1) (0, es, ck) (by exact ⟨Nat.zero_le _, hE, hSt⟩) (.cons rfl (.cons rfl (.cons rfl (.cons rfl (.cons rfl (.cons rfl (.cons rfl (.cons rfl (.cons rfl (.cons rfl (.cons rfl (.cons rfl (.cons rfl .nil))))))))))))) (fun _ h => h) ?_
        rintro ⟨j, es, ck⟩ ⟨hj, hE, hSt⟩
        show VC _ _ _ _ _ ([(79, .int .i64 (j : Nat))] ++ _) ([blk b3 (.map es ck)] ++ _) _ _
        dsimp only at hj hE hSt
        refine VC.seq ?_
        refine VC.reg (VO.l (LO.lt (.r rfl) (.r rfl)) rfl <| VO.nil ?_)
        refine VE.seqN ?_
        refine VC.seq ?_
        refine VC.cond rfl (fun h80 => ?_) (fun h80 => ?_)
        ·
          obtain ⟨cx, hcx⟩ : ∃ x, o.cs[j]? = some x := ⟨_, List.getElem?_eq_getElem (by omega)⟩
          have hcm := List.mem_of_getElem? hcx
          have hcb := hcn j cx hcx
          have hCx : CS[j]? = some cx.p := by rw [hCS, List.getElem?_map, hcx]; rfl
          refine VC.skip (VE.seqN ?_)
          refine VC.seq ?_
          refine VC.block ?_
          refine VC.seq ?_
          refine VC.reg (VO.l (LO.ixs S114 N150 hcr.sm (.r rfl) (.r rfl) rfl (by omega)) rfl <| VO.l (LO.ld O150 (.r rfl) (fun w hw => cells_part (off := 0) ((fun w2 hw2 => (hcr.keep w2 hw2).cells _ _ (by rw [List.getElem?_map, hcx]; rfl)) w hw) ⟨_, rfl⟩)) rfl <| VO.l (LO.as (.r rfl)) rfl <| VO.nil ?_)
          refine VE.seqN ?_
          refine VC.seq ?_
          refine VC.draw mixed (LL.l (LO.mv (.r rfl)) rfl <| LL.l (LO.mv (.r rfl)) rfl <| LL.lg rfl rfl (GD.t _) (fun hg => LO.mv (.r rfl)) rfl <| LL.lg rfl rfl (GD.t _) (fun hg => LO.nc (.g hg rfl)) rfl <| LL.lg rfl rfl (GD.t _) (fun hg => LO.fa (r := 1) F64_1 (.g hg rfl) rfl) rfl <| LL.lg rfl rfl (GD.t _) (fun hg => LO.ld O3 (.g hg rfl) (cells_keep (sub_cells (off := 1) (case_read hh hcm) ⟨_, rfl⟩))) rfl <| LL.lg rfl rfl (GD.t _) (fun hg => LO.mv (.r rfl)) rfl <| LL.lg rfl rfl (GD.t _) (fun hg => LO.nc (.g hg rfl)) rfl <| LL.lg rfl rfl (GD.t _) (fun hg => LO.fa (r := 2) F156_1 (.g hg rfl) rfl) rfl <| LL.lg rfl rfl (GD.t _) (fun hg => LO.ld O3 (.g hg rfl) (cells_keep (sub_cells (off := 2) (rec_read hh hr).1 ⟨_, rfl⟩))) rfl <| LL.lg rfl rfl (GD.t _) (fun hg => LO.eq (.g hg rfl) (.g hg rfl)) rfl <| LL.l (LO.pkA (.r rfl) rfl rfl (.r rfl)) rfl <| LL.l (LO.mv (.r rfl)) rfl <| LL.lg rfl rfl (GD.t _) (fun hg => LO.mv (.r rfl)) rfl <| LL.lg rfl rfl (GD.t _) (fun hg => LO.nc (.g hg rfl)) rfl <| LL.lg rfl rfl (GD.t _) (fun hg => LO.fa (r := 2) F64_2 (.g hg rfl) rfl) rfl <| LL.lg rfl rfl (GD.t _) (fun hg => LO.ld O3 (.g hg rfl) (cells_keep (sub_cells (off := 2) (case_read hh hcm) ⟨_, rfl⟩))) rfl <| LL.lg rfl rfl (GD.t _) (fun hg => LO.fa (r := 0) F165_0 (.r rfl) rfl) rfl <| LL.lg rfl rfl (GD.t _) (fun hg => LO.ld O3 (.g hg rfl) (fun _ hw => cells_at hw 1 rfl ⟨_, rfl⟩)) rfl <| LL.lg rfl rfl (GD.t _) (fun hg => LO.le (.g hg rfl) (.g hg rfl)) rfl <| LL.l (LO.pkA (.r rfl) rfl rfl (.r rfl)) rfl <| LL.l (LO.mv (.r rfl)) rfl <| LL.lg rfl rfl (GD.t _) (fun hg => LO.fa (r := 0) F165_0 (.r rfl) rfl) rfl <| LL.lg rfl rfl (GD.t _) (fun hg => LO.ld O3 (.g hg rfl) (fun _ hw => cells_at hw 1 rfl ⟨_, rfl⟩)) rfl <| LL.lg rfl rfl (GD.t _) (fun hg => LO.mv (.r rfl)) rfl <| LL.lg rfl rfl (GD.t _) (fun hg => LO.nc (.g hg rfl)) rfl <| LL.lg rfl rfl (GD.t _) (fun hg => LO.fa (r := 3) F64_3 (.g hg rfl) rfl) rfl <| LL.lg rfl rfl (GD.t _) (fun hg => LO.ld O3 (.g hg rfl) (cells_keep (sub_cells (off := 3) (case_read hh hcm) ⟨_, rfl⟩))) rfl <| LL.lg rfl rfl (GD.t _) (fun hg => LO.lt (.g hg rfl) (.g hg rfl)) rfl <| LL.l (LO.pkA (.r rfl) rfl rfl (.r rfl)) rfl <| LL.nil) (by kernel_rfl) ?_
          refine VE.seqN ?_
          refine VC.cond rfl (fun h112 => ?_) (fun h112 => ?_)
          ·
            have hic : inC r.x.r.pix cx.p nx.n = true := inC_of h112
            have hrg : cx.p.rg = (r.i : Int) := h112.1.1.2
            have hbt : cx.bg ≤ nx.t := h112.1.2
            have hat : mapF (r.i : Int) r.x.r.pix CS NS i j cx.nm = firstN r.x.r.pix cx.p (NS.take i) := by rw [hcb.1]; exact mapF_at hCx hrg
            refine VC.seq ?_
            refine VC.reg (VO.l (LO.mv (.r rfl)) rfl <| VO.l (LO.mv (.r rfl)) rfl <| VO.l (LO.nc (.r rfl)) rfl <| VO.l (LO.fa (r := 0) F64_0 (.r rfl) rfl) rfl <| VO.l (LO.ld O3 (.r rfl) (cells_keep (sub_cells (off := 0) (case_read hh hcm) ⟨_, rfl⟩))) rfl <| VO.l (LO.lk2 IM208 (.r rfl) (.r rfl) (fun _ hw => ⟨es, ck, St.inv hw 0 _ rfl, hE⟩)) rfl <| VO.l (LO.mv (.r rfl)) rfl <| VO.l (LO.ex (.r rfl) rfl) rfl <| VO.l (LO.ex (.r rfl) rfl) rfl <| VO.l (LO.as (.r rfl)) rfl <| VO.l (LO.as (.r rfl)) rfl <| VO.nil ?_)
            refine VE.seqN ?_
            refine VC.seq ?_
            refine VC.draw mixed (LL.l (LO.mv (.r rfl)) rfl <| LL.l (LO.not (.r rfl)) rfl <| LL.l (LO.mv (.r rfl)) rfl <| LL.lg rfl rfl (GD.f _) (fun hg => LO.fa (r := 0) F165_0 (.r rfl) rfl) rfl <| LL.lg rfl rfl (GD.f _) (fun hg => LO.ld O3 (.g hg rfl) (fun _ hw => cells_at hw 1 rfl ⟨_, rfl⟩)) rfl <| LL.lg rfl rfl (GD.f _) (fun hg => LO.mv (.r rfl)) rfl <| LL.lg rfl rfl (GD.f _) (fun hg => LO.nc (.g hg rfl)) rfl <| LL.lg rfl rfl (GD.f _) (fun hg => LO.fa (r := 2) F64_2 (.g hg rfl) rfl) rfl <| LL.lg rfl rfl (GD.f _) (fun hg => LO.ld O3 (.g hg rfl) (cells_keep (sub_cells (off := 2) (case_read hh hcm) ⟨_, rfl⟩))) rfl <| LL.lg rfl rfl (GD.f _) (fun hg => LO.sub (.g hg rfl) (.g hg rfl) (wi (by omega) (by omega))) rfl <| LL.lg rfl rfl (GD.f _) (fun hg => LO.mv (.r rfl)) rfl <| LL.lg rfl rfl (GD.f _) (fun hg => LO.lt (.g hg rfl) (.g hg rfl)) rfl <| LL.l (LO.pkO (.r rfl) (.r rfl) rfl rfl) rfl <| LL.nil) (by kernel_rfl) ?_
            refine VE.seqN ?_
            refine VC.cond rfl (fun h134 => ?_) (fun h134 => ?_)
            ·
              have hupd := mapF_upd (k := (r.i : Int)) hCx hNx hrg hic (upd_of hat h134)
              refine VC.drawH [[0, 1, 2, 3], [1, 2, 3]] [some 0, some 0, some 0, some 0, some 0, some 0, some 0, some 0, some 0, some 0, some 0, some 0, none] mixed (by kernel_rfl) rfl (LX.l (fun _ hJ => LO.mv (.r rfl)) rfl <| LX.l (fun _ hJ => LO.mv (.r rfl)) rfl <| LX.l (fun _ hJ => LO.nc (.r rfl)) rfl <| LX.l (fun _ hJ => LO.fa (r := 0) F64_0 (.r rfl) rfl) rfl <| LX.l (fun _ hJ => LO.ld O3 (.r rfl) (cells_keep (sub_cells (off := 0) (case_read hh hcm) ⟨_, rfl⟩))) rfl <| LX.l (fun _ hJ => LO.fa (r := 0) F165_0 (.r rfl) rfl) rfl <| LX.l (fun _ hJ => LO.ld O3 (.r rfl) (fun _ hw => cells_at (hJ _ hw) 1 rfl ⟨_, rfl⟩)) rfl <| LX.l (fun _ hJ => LO.mv (.r rfl)) rfl <| LX.l (fun _ hJ => LO.nc (.r rfl)) rfl <| LX.l (fun _ hJ => LO.fa (r := 2) F64_2 (.r rfl) rfl) rfl <| LX.l (fun _ hJ => LO.ld O3 (.r rfl) (cells_keep (sub_cells (off := 2) (case_read hh hcm) ⟨_, rfl⟩))) rfl <| LX.l (fun _ hJ => LO.sub (.r rfl) (.r rfl) (wi (by omega) (by omega))) rfl <| LX.s <| LX.nil) (HX.s <| HX.s <| HX.s <| HX.s <| HX.s <| HX.s <| HX.s <| HX.s <| HX.s <| HX.s <| HX.s <| HX.s <| HX.h0 <| HO.mupI 0 (fun R => [R, _, _, _]) IM208 (.r rfl) (.r rfl) (.r rfl) rfl hE hSt (fun _ => rfl) fun es2 ck2 hE2 hSt2 => ⟨fun _ hw => hw.sel [1, 2, 3] rfl, HX.nil ?_⟩)
              refine VE.inN (VE.seqN ?_)
              refine VC.reg (VO.l (LO.add (.r rfl) (.r rfl) (wi (by omega) (by omega))) rfl <| VO.l (LO.mv (.r rfl)) rfl <| VO.nil ?_)
              refine VE.thenN fun a w ha hw => ⟨(j + 1, es2, ck2), ⟨by dsimp only; omega, by dsimp only; rw [hupd]; rw [hcb.1] at hE2; exact hE2, hSt2⟩, (by dsimp only; omega), ha.sub (.cons rfl (.cons rfl (.cons rfl (.cons rfl (.cons rfl (.cons rfl (.cons rfl (.cons rfl (.cons rfl (.cons rfl (.cons rfl (.cons rfl (.cons rfl .nil))))))))))))), (by exact selK (L1 := [_, _, _, _]) [0, 1, 2, 3] rfl rfl _ hw)⟩
            ·
              obtain ⟨u, hu1, hu2⟩ := same_of hat h134
              have hsame := mapF_same (k := (r.i : Int)) hCx hNx hrg hic hu1 hu2
              refine VC.skip (VE.inN (VE.seqN ?_))
              refine VC.reg (VO.l (LO.add (.r rfl) (.r rfl) (wi (by omega) (by omega))) rfl <| VO.l (LO.mv (.r rfl)) rfl <| VO.nil ?_)
              refine VE.thenN fun a w ha hw => ⟨(j + 1, es, ck), ⟨by dsimp only; omega, by dsimp only; rw [hsame]; exact hE, hSt⟩, (by dsimp only; omega), ha.sub (.cons rfl (.cons rfl (.cons rfl (.cons rfl (.cons rfl (.cons rfl (.cons rfl (.cons rfl (.cons rfl (.cons rfl (.cons rfl (.cons rfl (.cons rfl .nil))))))))))))), (by exact selK (L1 := [_, _, _, _]) [0, 1, 2, 3] rfl rfl _ hw)⟩
          ·
            have hskip := mapF_skip (k := (r.i : Int)) (pix := r.x.r.pix) hCx hNx (fun q => h112 (inC_to q.1 q.2))
            refine VC.skip (VE.inN (VE.seqN ?_))
            refine VC.reg (VO.l (LO.add (.r rfl) (.r rfl) (wi (by omega) (by omega))) rfl <| VO.l (LO.mv (.r rfl)) rfl <| VO.nil ?_)
            refine VE.thenN fun a w ha hw => ⟨(j + 1, es, ck), ⟨by dsimp only; omega, by dsimp only; rw [hskip]; exact hE, hSt⟩, (by dsimp only; omega), ha.sub (.cons rfl (.cons rfl (.cons rfl (.cons rfl (.cons rfl (.cons rfl (.cons rfl (.cons rfl (.cons rfl (.cons rfl (.cons rfl (.cons rfl (.cons rfl .nil))))))))))))), (by exact selK (L1 := [_, _, _, _]) [0, 1, 2, 3] rfl rfl _ hw)⟩
        ·
          have hje : j = CS.length := by omega
          rw [hje, mapF_next] at hE
          refine VC.exit (VE.thenX (VE.thenX (VE.inX (VE.inN (VE.seqN ?_)))))
          refine VC.reg (VO.l (LO.add (.r rfl) (.r rfl) (wi (by omega) (by omega))) rfl <| VO.l (LO.mv (.r rfl)) rfl <| VO.nil ?_)
          refine VE.thenN fun a w ha hw => ⟨(i + 1, (bump 1 T), es, ck), ⟨by dsimp only; omega, by dsimp only; rw [hNT]; exact cnt_bump hT (kN_1 h47 h56), hE, hSt⟩, (by dsimp only; omega), ha.sub (.cons rfl (.cons rfl (.cons rfl (.cons rfl (.cons rfl (.cons rfl (.cons rfl (.cons rfl .nil)))))))), (by exact selK (L1 := [_, _, _]) [2, 0, 3] rfl rfl _ hw)⟩
      ·
        refine VC.seq ?_
        refine VC.reg (VO.l (LO.mv (.r rfl)) rfl <| VO.l (LO.as (.r rfl)) rfl <| VO.nil ?_)
        refine VE.seqN ?_
        refine VC.cond rfl (fun h62 => ?_) (fun h62 => ?_)
        ·
          refine VC.reg (VO.l (LO.fa (r := 4) F112_4 (.r rfl) rfl) rfl <| VO.l (LO.ld O3 (.r rfl) (fun _ hw => cells_at hw 1 rfl ⟨_, rfl⟩)) rfl <| VO.l (LO.add (.r rfl) (.r rfl) (wi (by omega) (by omega))) rfl <| VO.l (LO.fa (r := 4) F112_4 (.r rfl) rfl) rfl <| VO.h0 <| HO.st 1 (vs := [_]) (C' := [_, _, _, _, _, _, _]) (L' := [_, _, _, _]) N3 rfl rfl rfl rfl rfl rfl rfl rfl <| VO.nil ?_)
          refine VE.inN (VE.seqN ?_)
          refine VC.seq ?_
          refine VC.reg (VO.l (LO.mv (.r rfl)) rfl <| VO.l (LO.nc (.r rfl)) rfl <| VO.l (LO.fa (r := 11) F117_3 (.r rfl) rfl) rfl <| VO.l (LO.ld O114 (.r rfl) (cells_keep (sub_cells (off := 11) (off_cells hh) ⟨_, rfl⟩))) rfl <| VO.l (LO.len S114 (.r rfl) rfl) rfl <| VO.l (LO.mv (.r rfl)) rfl <| VO.nil ?_)
          refine VE.seqN ?_
          refine VC.block ?_
          refine VC.perm [2, 0, 1, 3] rfl ?_
          refine VC.loopK (α := Nat × (Array MapEntry) × Nat) 1 (fun gx => [(79, .int .i64 (gx.1 : Nat))]) [(0, _), (1, _), (6, _), (7, _), (8, _), (10, _), (11, _), (22, _), (23, _), (24, _), (77, _), (78, _)] (fun gx => [blk b3 (.map gx.2.1 gx.2.2)]) (fun gx => gx.1 ≤ o.cs.length ∧ MapE gx.2.1.toList (mapF r.i r.x.r.pix CS NS i gx.1) ∧ Stamps gx.2.1.toList gx.2.2) (fun gx => o.cs.length - gx.1) (0, es, ck) (by exact ⟨Nat.zero_le _, hE, hSt⟩) (.cons rfl (.cons rfl (.cons rfl (.cons rfl (.cons rfl (.cons rfl (.cons rfl (.cons rfl (.cons rfl (.cons rfl (.cons rfl (.cons rfl (.cons rfl .nil))))))))))))) (fun _ h => h) ?_
          rintro ⟨j, es, ck⟩ ⟨hj, hE, hSt⟩
          show VC _ _ _ _ _ ([(79, .int .i64 (j : Nat))] ++ _) ([blk b3 (.map es ck)] ++ _) _ _
          dsimp only at hj hE hSt
          refine VC.seq ?_
          refine VC.reg (VO.l (LO.lt (.r rfl) (.r rfl)) rfl <| VO.nil ?_)
          refine VE.seqN ?_
          refine VC.seq ?_
          refine VC.cond rfl (fun h80 => ?_) (fun h80 => ?_)
          ·
            obtain ⟨cx, hcx⟩ : ∃ x, o.cs[j]? = some x := ⟨_, List.getElem?_eq_getElem (by omega)⟩
            have hcm := List.mem_of_getElem? hcx
            have hcb := hcn j cx hcx
            have hCx : CS[j]? = some cx.p := by rw [hCS, List.getElem?_map, hcx]; rfl
            refine VC.skip (VE.seqN ?_)
            refine VC.seq ?_
            refine VC.block ?_
            refine VC.seq ?_
            refine VC.reg (VO.l (LO.ixs S114 N150 hcr.sm (.r rfl) (.r rfl) rfl (by omega)) rfl <| VO.l (LO.ld O150 (.r rfl) (fun w hw => cells_part (off := 0) ((fun w2 hw2 => (hcr.keep w2 hw2).cells _ _ (by rw [List.getElem?_map, hcx]; rfl)) w hw) ⟨_, rfl⟩)) rfl <| VO.l (LO.as (.r rfl)) rfl <| VO.nil ?_)
            refine VE.seqN ?_
            refine VC.seq ?_
            refine VC.draw mixed (LL.l (LO.mv (.r rfl)) rfl <| LL.l (LO.mv (.r rfl)) rfl <| LL.lg rfl rfl (GD.t _) (fun hg => LO.mv (.r rfl)) rfl <| LL.lg rfl rfl (GD.t _) (fun hg => LO.nc (.g hg rfl)) rfl <| LL.lg rfl rfl (GD.t _) (fun hg => LO.fa (r := 1) F64_1 (.g hg rfl) rfl) rfl <| LL.lg rfl rfl (GD.t _) (fun hg => LO.ld O3 (.g hg rfl) (cells_keep (sub_cells (off := 1) (case_read hh hcm) ⟨_, rfl⟩))) rfl <| LL.lg rfl rfl (GD.t _) (fun hg => LO.mv (.r rfl)) rfl <| LL.lg rfl rfl (GD.t _) (fun hg => LO.nc (.g hg rfl)) rfl <| LL.lg rfl rfl (GD.t _) (fun hg => LO.fa (r := 2) F156_1 (.g hg rfl) rfl) rfl <| LL.lg rfl rfl (GD.t _) (fun hg => LO.ld O3 (.g hg rfl) (cells_keep (sub_cells (off := 2) (rec_read hh hr).1 ⟨_, rfl⟩))) rfl <| LL.lg rfl rfl (GD.t _) (fun hg => LO.eq (.g hg rfl) (.g hg rfl)) rfl <| LL.l (LO.pkA (.r rfl) rfl rfl (.r rfl)) rfl <| LL.l (LO.mv (.r rfl)) rfl <| LL.lg rfl rfl (GD.t _) (fun hg => LO.mv (.r rfl)) rfl <| LL.lg rfl rfl (GD.t _) (fun hg => LO.nc (.g hg rfl)) rfl <| LL.lg rfl rfl (GD.t _) (fun hg => LO.fa (r := 2) F64_2 (.g hg rfl) rfl) rfl <| LL.lg rfl rfl (GD.t _) (fun hg => LO.ld O3 (.g hg rfl) (cells_keep (sub_cells (off := 2) (case_read hh hcm) ⟨_, rfl⟩))) rfl <| LL.lg rfl rfl (GD.t _) (fun hg => LO.fa (r := 0) F165_0 (.r rfl) rfl) rfl <| LL.lg rfl rfl (GD.t _) (fun hg => LO.ld O3 (.g hg rfl) (fun _ hw => cells_at hw 1 rfl ⟨_, rfl⟩)) rfl <| LL.lg rfl rfl (GD.t _) (fun hg => LO.le (.g hg rfl) (.g hg rfl)) rfl <| LL.l (LO.pkA (.r rfl) rfl rfl (.r rfl)) rfl <| LL.l (LO.mv (.r rfl)) rfl <| LL.lg rfl rfl (GD.t _) (fun hg => LO.fa (r := 0) F165_0 (.r rfl) rfl) rfl <| LL.lg rfl rfl (GD.t _) (fun hg => LO.ld O3 (.g hg rfl) (fun _ hw => cells_at hw 1 rfl ⟨_, rfl⟩)) rfl <| LL.lg rfl rfl (GD.t _) (fun hg => LO.mv (.r rfl)) rfl <| LL.lg rfl rfl (GD.t _) (fun hg => LO.nc (.g hg rfl)) rfl <| LL.lg rfl rfl (GD.t _) (fun hg => LO.fa (r := 3) F64_3 (.g hg rfl) rfl) rfl <| LL.lg rfl rfl (GD.t _) (fun hg => LO.ld O3 (.g hg rfl) (cells_keep (sub_cells (off := 3) (case_read hh hcm) ⟨_, rfl⟩))) rfl <| LL.lg rfl rfl (GD.t _) (fun hg => LO.lt (.g hg rfl) (.g hg rfl)) rfl <| LL.l (LO.pkA (.r rfl) rfl rfl (.r rfl)) rfl <| LL.nil) (by kernel_rfl) ?_
            refine VE.seqN ?_
            refine VC.cond rfl (fun h112 => ?_) (fun h112 => ?_)
            ·
              have hic : inC r.x.r.pix cx.p nx.n = true := inC_of h112
              have hrg : cx.p.rg = (r.i : Int) := h112.1.1.2
              have hbt : cx.bg ≤ nx.t := h112.1.2
              have hat : mapF (r.i : Int) r.x.r.pix CS NS i j cx.nm = firstN r.x.r.pix cx.p (NS.take i) := by rw [hcb.1]; exact mapF_at hCx hrg
              refine VC.seq ?_
              refine VC.reg (VO.l (LO.mv (.r rfl)) rfl <| VO.l (LO.mv (.r rfl)) rfl <| VO.l (LO.nc (.r rfl)) rfl <| VO.l (LO.fa (r := 0) F64_0 (.r rfl) rfl) rfl <| VO.l (LO.ld O3 (.r rfl) (cells_keep (sub_cells (off := 0) (case_read hh hcm) ⟨_, rfl⟩))) rfl <| VO.l (LO.lk2 IM208 (.r rfl) (.r rfl) (fun _ hw => ⟨es, ck, St.inv hw 0 _ rfl, hE⟩)) rfl <| VO.l (LO.mv (.r rfl)) rfl <| VO.l (LO.ex (.r rfl) rfl) rfl <| VO.l (LO.ex (.r rfl) rfl) rfl <| VO.l (LO.as (.r rfl)) rfl <| VO.l (LO.as (.r rfl)) rfl <| VO.nil ?_)
              refine VE.seqN ?_
              refine VC.seq ?_
              refine VC.draw mixed (LL.l (LO.mv (.r rfl)) rfl <| LL.l (LO.not (.r rfl)) rfl <| LL.l (LO.mv (.r rfl)) rfl <| LL.lg rfl rfl (GD.f _) (fun hg => LO.fa (r := 0) F165_0 (.r rfl) rfl) rfl <| LL.lg rfl rfl (GD.f _) (fun hg => LO.ld O3 (.g hg rfl) (fun _ hw => cells_at hw 1 rfl ⟨_, rfl⟩)) rfl <| LL.lg rfl rfl (GD.f _) (fun hg => LO.mv (.r rfl)) rfl <| LL.lg rfl rfl (GD.f _) (fun hg => LO.nc (.g hg rfl)) rfl <| LL.lg rfl rfl (GD.f _) (fun hg => LO.fa (r := 2) F64_2 (.g hg rfl) rfl) rfl <| LL.lg rfl rfl (GD.f _) (fun hg => LO.ld O3 (.g hg rfl) (cells_keep (sub_cells (off := 2) (case_read hh hcm) ⟨_, rfl⟩))) rfl <| LL.lg rfl rfl (GD.f _) (fun hg => LO.sub (.g hg rfl) (.g hg rfl) (wi (by omega) (by omega))) rfl <| LL.lg rfl rfl (GD.f _) (fun hg => LO.mv (.r rfl)) rfl <| LL.lg rfl rfl (GD.f _) (fun hg => LO.lt (.g hg rfl) (.g hg rfl)) rfl <| LL.l (LO.pkO (.r rfl) (.r rfl) rfl rfl) rfl <| LL.nil) (by kernel_rfl) ?_
              refine VE.seqN ?_
              refine VC.cond rfl (fun h134 => ?_) (fun h134 => ?_)
              ·
                have hupd := mapF_upd (k := (r.i : Int)) hCx hNx hrg hic (upd_of hat h134)
                refine VC.drawH [[0, 1, 2, 3], [1, 2, 3]] [some 0, some 0, some 0, some 0, some 0, some 0, some 0, some 0, some 0, some 0, some 0, some 0, none] mixed (by kernel_rfl) rfl (LX.l (fun _ hJ => LO.mv (.r rfl)) rfl <| LX.l (fun _ hJ => LO.mv (.r rfl)) rfl <| LX.l (fun _ hJ => LO.nc (.r rfl)) rfl <| LX.l (fun _ hJ => LO.fa (r := 0) F64_0 (.r rfl) rfl) rfl <| LX.l (fun _ hJ => LO.ld O3 (.r rfl) (cells_keep (sub_cells (off := 0) (case_read hh hcm) ⟨_, rfl⟩))) rfl <| LX.l (fun _ hJ => LO.fa (r := 0) F165_0 (.r rfl) rfl) rfl <| LX.l (fun _ hJ => LO.ld O3 (.r rfl) (fun _ hw => cells_at (hJ _ hw) 1 rfl ⟨_, rfl⟩)) rfl <| LX.l (fun _ hJ => LO.mv (.r rfl)) rfl <| LX.l (fun _ hJ => LO.nc (.r rfl)) rfl <| LX.l (fun _ hJ => LO.fa (r := 2) F64_2 (.r rfl) rfl) rfl <| LX.l (fun _ hJ => LO.ld O3 (.r rfl) (cells_keep (sub_cells (off := 2) (case_read hh hcm) ⟨_, rfl⟩))) rfl <| LX.l (fun _ hJ => LO.sub (.r rfl) (.r rfl) (wi (by omega) (by omega))) rfl <| LX.s <| LX.nil) (HX.s <| HX.s <| HX.s <| HX.s <| HX.s <| HX.s <| HX.s <| HX.s <| HX.s <| HX.s <| HX.s <| HX.s <| HX.h0 <| HO.mupI 0 (fun R => [R, _, _, _]) IM208 (.r rfl) (.r rfl) (.r rfl) rfl hE hSt (fun _ => rfl) fun es2 ck2 hE2 hSt2 => ⟨fun _ hw => hw.sel [1, 2, 3] rfl, HX.nil ?_⟩)
                refine VE.inN (VE.seqN ?_)
                refine VC.reg (VO.l (LO.add (.r rfl) (.r rfl) (wi (by omega) (by omega))) rfl <| VO.l (LO.mv (.r rfl)) rfl <| VO.nil ?_)
                refine VE.thenN fun a w ha hw => ⟨(j + 1, es2, ck2), ⟨by dsimp only; omega, by dsimp only; rw [hupd]; rw [hcb.1] at hE2; exact hE2, hSt2⟩, (by dsimp only; omega), ha.sub (.cons rfl (.cons rfl (.cons rfl (.cons rfl (.cons rfl (.cons rfl (.cons rfl (.cons rfl (.cons rfl (.cons rfl (.cons rfl (.cons rfl (.cons rfl .nil))))))))))))), (by exact selK (L1 := [_, _, _, _]) [0, 1, 2, 3] rfl rfl _ hw)⟩
              ·
                obtain ⟨u, hu1, hu2⟩ := same_of hat h134
                have hsame := mapF_same (k := (r.i : Int)) hCx hNx hrg hic hu1 hu2
                refine VC.skip (VE.inN (VE.seqN ?_))
                refine VC.reg (VO.l (LO.add (.r rfl) (.r rfl) (wi (by omega) (by omega))) rfl <| VO.l (LO.mv (.r rfl)) rfl <| VO.nil ?_)
                refine VE.thenN fun a w ha hw => ⟨(j + 1, es, ck), ⟨by dsimp only; omega, by dsimp only; rw [hsame]; exact hE, hSt⟩, (by dsimp only; omega), ha.sub (.cons rfl (.cons rfl (.cons rfl (.cons rfl (.cons rfl (.cons rfl (.cons rfl (.cons rfl (.cons rfl (.cons rfl (.cons rfl (.cons rfl (.cons rfl .nil))))))))))))), (by exact selK (L1 := [_, _, _, _]) [0, 1, 2, 3] rfl rfl _ hw)⟩
            ·
              have hskip := mapF_skip (k := (r.i : Int)) (pix := r.x.r.pix) hCx hNx (fun q => h112 (inC_to q.1 q.2))
              refine VC.skip (VE.inN (VE.seqN ?_))
              refine VC.reg (VO.l (LO.add (.r rfl) (.r rfl) (wi (by omega) (by omega))) rfl <| VO.l (LO.mv (.r rfl)) rfl <| VO.nil ?_)
              refine VE.thenN fun a w ha hw => ⟨(j + 1, es, ck), ⟨by dsimp only; omega, by dsimp only; rw [hskip]; exact hE, hSt⟩, (by dsimp only; omega), ha.sub (.cons rfl (.cons rfl (.cons rfl (.cons rfl (.cons rfl (.cons rfl (.cons rfl (.cons rfl (.cons rfl (.cons rfl (.cons rfl (.cons rfl (.cons rfl .nil))))))))))))), (by exact selK (L1 := [_, _, _, _]) [0, 1, 2, 3] rfl rfl _ hw)⟩
          ·
            have hje : j = CS.length := by omega
            rw [hje, mapF_next] at hE
            refine VC.exit (VE.thenX (VE.thenX (VE.inX (VE.inN (VE.seqN ?_)))))
            refine VC.reg (VO.l (LO.add (.r rfl) (.r rfl) (wi (by omega) (by omega))) rfl <| VO.l (LO.mv (.r rfl)) rfl <| VO.nil ?_)
            refine VE.thenN fun a w ha hw => ⟨(i + 1, (bump 2 T), es, ck), ⟨by dsimp only; omega, by dsimp only; rw [hNT]; exact cnt_bump hT (kN_2 h47 h56 h62), hE, hSt⟩, (by dsimp only; omega), ha.sub (.cons rfl (.cons rfl (.cons rfl (.cons rfl (.cons rfl (.cons rfl (.cons rfl (.cons rfl .nil)))))))), (by exact selK (L1 := [_, _, _]) [2, 0, 3] rfl rfl _ hw)⟩
        ·
          refine VC.seq ?_
          refine VC.reg (VO.l (LO.mv (.r rfl)) rfl <| VO.l (LO.as (.r rfl)) rfl <| VO.nil ?_)
          refine VE.seqN ?_
          refine VC.cond rfl (fun h68 => ?_) (fun h68 => ?_)
          ·
            refine VC.reg (VO.l (LO.fa (r := 2) F112_2 (.r rfl) rfl) rfl <| VO.l (LO.ld O3 (.r rfl) (fun _ hw => cells_at hw 1 rfl ⟨_, rfl⟩)) rfl <| VO.l (LO.add (.r rfl) (.r rfl) (wi (by omega) (by omega))) rfl <| VO.l (LO.fa (r := 2) F112_2 (.r rfl) rfl) rfl <| VO.h0 <| HO.st 1 (vs := [_]) (C' := [_, _, _, _, _, _, _]) (L' := [_, _, _, _]) N3 rfl rfl rfl rfl rfl rfl rfl rfl <| VO.nil ?_)
            refine VE.inN (VE.seqN ?_)
            refine VC.seq ?_
            refine VC.reg (VO.l (LO.mv (.r rfl)) rfl <| VO.l (LO.nc (.r rfl)) rfl <| VO.l (LO.fa (r := 11) F117_3 (.r rfl) rfl) rfl <| VO.l (LO.ld O114 (.r rfl) (cells_keep (sub_cells (off := 11) (off_cells hh) ⟨_, rfl⟩))) rfl <| VO.l (LO.len S114 (.r rfl) rfl) rfl <| VO.l (LO.mv (.r rfl)) rfl <| VO.nil ?_)
            refine VE.seqN ?_
            refine VC.block ?_
            refine VC.perm [2, 0, 1, 3] rfl ?_
            refine VC.loopK (α := Nat × (Array MapEntry) × Nat) 1 (fun gx => [(79, .int .i64 (gx.1 : Nat))]) [(0, _), (1, _), (6, _), (7, _), (8, _), (10, _), (11, _), (22, _), (23, _), (24, _), (77, _), (78, _)] (fun gx => [blk b3 (.map gx.2.1 gx.2.2)]) (fun gx => gx.1 ≤ o.cs.length ∧ MapE gx.2.1.toList (mapF r.i r.x.r.pix CS NS i gx.1) ∧ Stamps gx.2.1.toList gx.2.2) (fun gx => o.cs.length - gx.1) (0, es, ck) (by exact ⟨Nat.zero_le _, hE, hSt⟩) (.cons rfl (.cons rfl (.cons rfl (.cons rfl (.cons rfl (.cons rfl (.cons rfl (.cons rfl (.cons rfl (.cons rfl (.cons rfl (.cons rfl (.cons rfl .nil))))))))))))) (fun _ h => h) ?_
            rintro ⟨j, es, ck⟩ ⟨hj, hE, hSt⟩
            show VC _ _ _ _ _ ([(79, .int .i64 (j : Nat))] ++ _) ([blk b3 (.map es ck)] ++ _) _ _
            dsimp only at hj hE hSt
            refine VC.seq ?_
            refine VC.reg (VO.l (LO.lt (.r rfl) (.r rfl)) rfl <| VO.nil ?_)
            refine VE.seqN ?_
            refine VC.seq ?_
            refine VC.cond rfl (fun h80 => ?_) (fun h80 => ?_)
            ·
              obtain ⟨cx, hcx⟩ : ∃ x, o.cs[j]? = some x := ⟨_, List.getElem?_eq_getElem (by omega)⟩
              have hcm := List.mem_of_getElem? hcx
              have hcb := hcn j cx hcx
              have hCx : CS[j]? = some cx.p := by rw [hCS, List.getElem?_map, hcx]; rfl
              refine VC.skip (VE.seqN ?_)
              refine VC.seq ?_
              refine VC.block ?_
              refine VC.seq ?_
              refine VC.reg (VO.l (LO.ixs S114 N150 hcr.sm (.r rfl) (.r rfl) rfl (by omega)) rfl <| VO.l (LO.ld O150 (.r rfl) (fun w hw => cells_part (off := 0) ((fun w2 hw2 => (hcr.keep w2 hw2).cells _ _ (by rw [List.getElem?_map, hcx]; rfl)) w hw) ⟨_, rfl⟩)) rfl <| VO.l (LO.as (.r rfl)) rfl <| VO.nil ?_)
              refine VE.seqN ?_
              refine VC.seq ?_
              refine VC.draw mixed (LL.l (LO.mv (.r rfl)) rfl <| LL.l (LO.mv (.r rfl)) rfl <| LL.lg rfl rfl (GD.t _) (fun hg => LO.mv (.r rfl)) rfl <| LL.lg rfl rfl (GD.t _) (fun hg => LO.nc (.g hg rfl)) rfl <| LL.lg rfl rfl (GD.t _) (fun hg => LO.fa (r := 1) F64_1 (.g hg rfl) rfl) rfl <| LL.lg rfl rfl (GD.t _) (fun hg => LO.ld O3 (.g hg rfl) (cells_keep (sub_cells (off := 1) (case_read hh hcm) ⟨_, rfl⟩))) rfl <| LL.lg rfl rfl (GD.t _) (fun hg => LO.mv (.r rfl)) rfl <| LL.lg rfl rfl (GD.t _) (fun hg => LO.nc (.g hg rfl)) rfl <| LL.lg rfl rfl (GD.t _) (fun hg => LO.fa (r := 2) F156_1 (.g hg rfl) rfl) rfl <| LL.lg rfl rfl (GD.t _) (fun hg => LO.ld O3 (.g hg rfl) (cells_keep (sub_cells (off := 2) (rec_read hh hr).1 ⟨_, rfl⟩))) rfl <| LL.lg rfl rfl (GD.t _) (fun hg => LO.eq (.g hg rfl) (.g hg rfl)) rfl <| LL.l (LO.pkA (.r rfl) rfl rfl (.r rfl)) rfl <| LL.l (LO.mv (.r rfl)) rfl <| LL.lg rfl rfl (GD.t _) (fun hg => LO.mv (.r rfl)) rfl <| LL.lg rfl rfl (GD.t _) (fun hg => LO.nc (.g hg rfl)) rfl <| LL.lg rfl rfl (GD.t _) (fun hg => LO.fa (r := 2) F64_2 (.g hg rfl) rfl) rfl <| LL.lg rfl rfl (GD.t _) (fun hg => LO.ld O3 (.g hg rfl) (cells_keep (sub_cells (off := 2) (case_read hh hcm) ⟨_, rfl⟩))) rfl <| LL.lg rfl rfl (GD.t _) (fun hg => LO.fa (r := 0) F165_0 (.r rfl) rfl) rfl <| LL.lg rfl rfl (GD.t _) (fun hg => LO.ld O3 (.g hg rfl) (fun _ hw => cells_at hw 1 rfl ⟨_, rfl⟩)) rfl <| LL.lg rfl rfl (GD.t _) (fun hg => LO.le (.g hg rfl) (.g hg rfl)) rfl <| LL.l (LO.pkA (.r rfl) rfl rfl (.r rfl)) rfl <| LL.l (LO.mv (.r rfl)) rfl <| LL.lg rfl rfl (GD.t _) (fun hg => LO.fa (r := 0) F165_0 (.r rfl) rfl) rfl <| LL.lg rfl rfl (GD.t _) (fun hg => LO.ld O3 (.g hg rfl) (fun _ hw => cells_at hw 1 rfl ⟨_, rfl⟩)) rfl <| LL.lg rfl rfl (GD.t _) (fun hg => LO.mv (.r rfl)) rfl <| LL.lg rfl rfl (GD.t _) (fun hg => LO.nc (.g hg rfl)) rfl <| LL.lg rfl rfl (GD.t _) (fun hg => LO.fa (r := 3) F64_3 (.g hg rfl) rfl) rfl <| LL.lg rfl rfl (GD.t _) (fun hg => LO.ld O3 (.g hg rfl) (cells_keep (sub_cells (off := 3) (case_read hh hcm) ⟨_, rfl⟩))) rfl <| LL.lg rfl rfl (GD.t _) (fun hg => LO.lt (.g hg rfl) (.g hg rfl)) rfl <| LL.l (LO.pkA (.r rfl) rfl rfl (.r rfl)) rfl <| LL.nil) (by kernel_rfl) ?_
              refine VE.seqN ?_
              refine VC.cond rfl (fun h112 => ?_) (fun h112 => ?_)
              ·
                have hic : inC r.x.r.pix cx.p nx.n = true := inC_of h112
                have hrg : cx.p.rg = (r.i : Int) := h112.1.1.2
                have hbt : cx.bg ≤ nx.t := h112.1.2
                have hat : mapF (r.i : Int) r.x.r.pix CS NS i j cx.nm = firstN r.x.r.pix cx.p (NS.take i) := by rw [hcb.1]; exact mapF_at hCx hrg
                refine VC.seq ?_
                refine VC.reg (VO.l (LO.mv (.r rfl)) rfl <| VO.l (LO.mv (.r rfl)) rfl <| VO.l (LO.nc (.r rfl)) rfl <| VO.l (LO.fa (r := 0) F64_0 (.r rfl) rfl) rfl <| VO.l (LO.ld O3 (.r rfl) (cells_keep (sub_cells (off := 0) (case_read hh hcm) ⟨_, rfl⟩))) rfl <| VO.l (LO.lk2 IM208 (.r rfl) (.r rfl) (fun _ hw => ⟨es, ck, St.inv hw 0 _ rfl, hE⟩)) rfl <| VO.l (LO.mv (.r rfl)) rfl <| VO.l (LO.ex (.r rfl) rfl) rfl <| VO.l (LO.ex (.r rfl) rfl) rfl <| VO.l (LO.as (.r rfl)) rfl <| VO.l (LO.as (.r rfl)) rfl <| VO.nil ?_)
                refine VE.seqN ?_
                refine VC.seq ?_
                refine VC.draw mixed (LL.l (LO.mv (.r rfl)) rfl <| LL.l (LO.not (.r rfl)) rfl <| LL.l (LO.mv (.r rfl)) rfl <| LL.lg rfl rfl (GD.f _) (fun hg => LO.fa (r := 0) F165_0 (.r rfl) rfl) rfl <| LL.lg rfl rfl (GD.f _) (fun hg => LO.ld O3 (.g hg rfl) (fun _ hw => cells_at hw 1 rfl ⟨_, rfl⟩)) rfl <| LL.lg rfl rfl (GD.f _) (fun hg => LO.mv (.r rfl)) rfl <| LL.lg rfl rfl (GD.f _) (fun hg => LO.nc (.g hg rfl)) rfl <| LL.lg rfl rfl (GD.f _) (fun hg => LO.fa (r := 2) F64_2 (.g hg rfl) rfl) rfl <| LL.lg rfl rfl (GD.f _) (fun hg => LO.ld O3 (.g hg rfl) (cells_keep (sub_cells (off := 2) (case_read hh hcm) ⟨_, rfl⟩))) rfl <| LL.lg rfl rfl (GD.f _) (fun hg => LO.sub (.g hg rfl) (.g hg rfl) (wi (by omega) (by omega))) rfl <| LL.lg rfl rfl (GD.f _) (fun hg => LO.mv (.r rfl)) rfl <| LL.lg rfl rfl (GD.f _) (fun hg => LO.lt (.g hg rfl) (.g hg rfl)) rfl <| LL.l (LO.pkO (.r rfl) (.r rfl) rfl rfl) rfl <| LL.nil) (by kernel_rfl) ?_
                refine VE.seqN ?_
                refine VC.cond rfl (fun h134 => ?_) (fun h134 => ?_)
                ·
                  have hupd := mapF_upd (k := (r.i : Int)) hCx hNx hrg hic (upd_of hat h134)
                  refine VC.drawH [[0, 1, 2, 3], [1, 2, 3]] [some 0, some 0, some 0, some 0, some 0, some 0, some 0, some 0, some 0, some 0, some 0, some 0, none] mixed (by kernel_rfl) rfl (LX.l (fun _ hJ => LO.mv (.r rfl)) rfl <| LX.l (fun _ hJ => LO.mv (.r rfl)) rfl <| LX.l (fun _ hJ => LO.nc (.r rfl)) rfl <| LX.l (fun _ hJ => LO.fa (r := 0) F64_0 (.r rfl) rfl) rfl <| LX.l (fun _ hJ => LO.ld O3 (.r rfl) (cells_keep (sub_cells (off := 0) (case_read hh hcm) ⟨_, rfl⟩))) rfl <| LX.l (fun _ hJ => LO.fa (r := 0) F165_0 (.r rfl) rfl) rfl <| LX.l (fun _ hJ => LO.ld O3 (.r rfl) (fun _ hw => cells_at (hJ _ hw) 1 rfl ⟨_, rfl⟩)) rfl <| LX.l (fun _ hJ => LO.mv (.r rfl)) rfl <| LX.l (fun _ hJ => LO.nc (.r rfl)) rfl <| LX.l (fun _ hJ => LO.fa (r := 2) F64_2 (.r rfl) rfl) rfl <| LX.l (fun _ hJ => LO.ld O3 (.r rfl) (cells_keep (sub_cells (off := 2) (case_read hh hcm) ⟨_, rfl⟩))) rfl <| LX.l (fun _ hJ => LO.sub (.r rfl) (.r rfl) (wi (by omega) (by omega))) rfl <| LX.s <| LX.nil) (HX.s <| HX.s <| HX.s <| HX.s <| HX.s <| HX.s <| HX.s <| HX.s <| HX.s <| HX.s <| HX.s <| HX.s <| HX.h0 <| HO.mupI 0 (fun R => [R, _, _, _]) IM208 (.r rfl) (.r rfl) (.r rfl) rfl hE hSt (fun _ => rfl) fun es2 ck2 hE2 hSt2 => ⟨fun _ hw => hw.sel [1, 2, 3] rfl, HX.nil ?_⟩)
                  refine VE.inN (VE.seqN ?_)
                  refine VC.reg (VO.l (LO.add (.r rfl) (.r rfl) (wi (by omega) (by omega))) rfl <| VO.l (LO.mv (.r rfl)) rfl <| VO.nil ?_)
                  refine VE.thenN fun a w ha hw => ⟨(j + 1, es2, ck2), ⟨by dsimp only; omega, by dsimp only; rw [hupd]; rw [hcb.1] at hE2; exact hE2, hSt2⟩, (by dsimp only; omega), ha.sub (.cons rfl (.cons rfl (.cons rfl (.cons rfl (.cons rfl (.cons rfl (.cons rfl (.cons rfl (.cons rfl (.cons rfl (.cons rfl (.cons rfl (.cons rfl .nil))))))))))))), (by exact selK (L1 := [_, _, _, _]) [0, 1, 2, 3] rfl rfl _ hw)⟩
                ·
                  obtain ⟨u, hu1, hu2⟩ := same_of hat h134
                  have hsame := mapF_same (k := (r.i : Int)) hCx hNx hrg hic hu1 hu2
                  refine VC.skip (VE.inN (VE.seqN ?_))
                  refine VC.reg (VO.l (LO.add (.r rfl) (.r rfl) (wi (by omega) (by omega))) rfl <| VO.l (LO.mv (.r rfl)) rfl <| VO.nil ?_)
                  refine VE.thenN fun a w ha hw => ⟨(j + 1, es, ck), ⟨by dsimp only; omega, by dsimp only; rw [hsame]; exact hE, hSt⟩, (by dsimp only; omega), ha.sub (.cons rfl (.cons rfl (.cons rfl (.cons rfl (.cons rfl (.cons rfl (.cons rfl (.cons rfl (.cons rfl (.cons rfl (.cons rfl (.cons rfl (.cons rfl .nil))))))))))))), (by exact selK (L1 := [_, _, _, _]) [0, 1, 2, 3] rfl rfl _ hw)⟩
              ·
                have hskip := mapF_skip (k := (r.i : Int)) (pix := r.x.r.pix) hCx hNx (fun q => h112 (inC_to q.1 q.2))
                refine VC.skip (VE.inN (VE.seqN ?_))
                refine VC.reg (VO.l (LO.add (.r rfl) (.r rfl) (wi (by omega) (by omega))) rfl <| VO.l (LO.mv (.r rfl)) rfl <| VO.nil ?_)
                refine VE.thenN fun a w ha hw => ⟨(j + 1, es, ck), ⟨by dsimp only; omega, by dsimp only; rw [hskip]; exact hE, hSt⟩, (by dsimp only; omega), ha.sub (.cons rfl (.cons rfl (.cons rfl (.cons rfl (.cons rfl (.cons rfl (.cons rfl (.cons rfl (.cons rfl (.cons rfl (.cons rfl (.cons rfl (.cons rfl .nil))))))))))))), (by exact selK (L1 := [_, _, _, _]) [0, 1, 2, 3] rfl rfl _ hw)⟩
            ·
              have hje : j = CS.length := by omega
              rw [hje, mapF_next] at hE
              refine VC.exit (VE.thenX (VE.thenX (VE.inX (VE.inN (VE.seqN ?_)))))
              refine VC.reg (VO.l (LO.add (.r rfl) (.r rfl) (wi (by omega) (by omega))) rfl <| VO.l (LO.mv (.r rfl)) rfl <| VO.nil ?_)
              refine VE.thenN fun a w ha hw => ⟨(i + 1, (bump 3 T), es, ck), ⟨by dsimp only; omega, by dsimp only; rw [hNT]; exact cnt_bump hT (kN_3 h47 h56 h62 h68), hE, hSt⟩, (by dsimp only; omega), ha.sub (.cons rfl (.cons rfl (.cons rfl (.cons rfl (.cons rfl (.cons rfl (.cons rfl (.cons rfl .nil)))))))), (by exact selK (L1 := [_, _, _]) [2, 0, 3] rfl rfl _ hw)⟩
          ·
            refine VC.reg (VO.l (LO.fa (r := 3) F112_3 (.r rfl) rfl) rfl <| VO.l (LO.ld O3 (.r rfl) (fun _ hw => cells_at hw 1 rfl ⟨_, rfl⟩)) rfl <| VO.l (LO.add (.r rfl) (.r rfl) (wi (by omega) (by omega))) rfl <| VO.l (LO.fa (r := 3) F112_3 (.r rfl) rfl) rfl <| VO.h0 <| HO.st 1 (vs := [_]) (C' := [_, _, _, _, _, _, _]) (L' := [_, _, _, _]) N3 rfl rfl rfl rfl rfl rfl rfl rfl <| VO.nil ?_)
            refine VE.inN (VE.seqN ?_)
            refine VC.seq ?_
            refine VC.reg (VO.l (LO.mv (.r rfl)) rfl <| VO.l (LO.nc (.r rfl)) rfl <| VO.l (LO.fa (r := 11) F117_3 (.r rfl) rfl) rfl <| VO.l (LO.ld O114 (.r rfl) (cells_keep (sub_cells (off := 11) (off_cells hh) ⟨_, rfl⟩))) rfl <| VO.l (LO.len S114 (.r rfl) rfl) rfl <| VO.l (LO.mv (.r rfl)) rfl <| VO.nil ?_)
            refine VE.seqN ?_
            refine VC.block ?_
            refine VC.perm [2, 0, 1, 3] rfl ?_
            refine VC.loopK (α := Nat × (Array MapEntry) × Nat) 1 (fun gx => [(79, .int .i64 (gx.1 : Nat))]) [(0, _), (1, _), (6, _), (7, _), (8, _), (10, _), (11, _), (22, _), (23, _), (24, _), (77, _), (78, _)] (fun gx => [blk b3 (.map gx.2.1 gx.2.2)]) (fun gx => gx.1 ≤ o.cs.length ∧ MapE gx.2.1.toList (mapF r.i r.x.r.pix CS NS i gx.1) ∧ Stamps gx.2.1.toList gx.2.2) (fun gx => o.cs.length - gx.1) (0, es, ck) (by exact ⟨Nat.zero_le _, hE, hSt⟩) (.cons rfl (.cons rfl (.cons rfl (.cons rfl (.cons rfl (.cons rfl (.cons rfl (.cons rfl (.cons rfl (.cons rfl (.cons rfl (.cons rfl (.cons rfl .nil))))))))))))) (fun _ h => h) ?_
            rintro ⟨j, es, ck⟩ ⟨hj, hE, hSt⟩
            show VC _ _ _ _ _ ([(79, .int .i64 (j : Nat))] ++ _) ([blk b3 (.map es ck)] ++ _) _ _
            dsimp only at hj hE hSt
            refine VC.seq ?_
            refine VC.reg (VO.l (LO.lt (.r rfl) (.r rfl)) rfl <| VO.nil ?_)
            refine VE.seqN ?_
            refine VC.seq ?_
            refine VC.cond rfl (fun h80 => ?_) (fun h80 => ?_)
            ·
              obtain ⟨cx, hcx⟩ : ∃ x, o.cs[j]? = some x := ⟨_, List.getElem?_eq_getElem (by omega)⟩
              have hcm := List.mem_of_getElem? hcx
              have hcb := hcn j cx hcx
              have hCx : CS[j]? = some cx.p := by rw [hCS, List.getElem?_map, hcx]; rfl
              refine VC.skip (VE.seqN ?_)
              refine VC.seq ?_
              refine VC.block ?_
              refine VC.seq ?_
              refine VC.reg (VO.l (LO.ixs S114 N150 hcr.sm (.r rfl) (.r rfl) rfl (by omega)) rfl <| VO.l (LO.ld O150 (.r rfl) (fun w hw => cells_part (off := 0) ((fun w2 hw2 => (hcr.keep w2 hw2).cells _ _ (by rw [List.getElem?_map, hcx]; rfl)) w hw) ⟨_, rfl⟩)) rfl <| VO.l (LO.as (.r rfl)) rfl <| VO.nil ?_)
              refine VE.seqN ?_
              refine VC.seq ?_
              refine VC.draw mixed (LL.l (LO.mv (.r rfl)) rfl <| LL.l (LO.mv (.r rfl)) rfl <| LL.lg rfl rfl (GD.t _) (fun hg => LO.mv (.r rfl)) rfl <| LL.lg rfl rfl (GD.t _) (fun hg => LO.nc (.g hg rfl)) rfl <| LL.lg rfl rfl (GD.t _) (fun hg => LO.fa (r := 1) F64_1 (.g hg rfl) rfl) rfl <| LL.lg rfl rfl (GD.t _) (fun hg => LO.ld O3 (.g hg rfl) (cells_keep (sub_cells (off := 1) (case_read hh hcm) ⟨_, rfl⟩))) rfl <| LL.lg rfl rfl (GD.t _) (fun hg => LO.mv (.r rfl)) rfl <| LL.lg rfl rfl (GD.t _) (fun hg => LO.nc (.g hg rfl)) rfl <| LL.lg rfl rfl (GD.t _) (fun hg => LO.fa (r := 2) F156_1 (.g hg rfl) rfl) rfl <| LL.lg rfl rfl (GD.t _) (fun hg => LO.ld O3 (.g hg rfl) (cells_keep (sub_cells (off := 2) (rec_read hh hr).1 ⟨_, rfl⟩))) rfl <| LL.lg rfl rfl (GD.t _) (fun hg => LO.eq (.g hg rfl) (.g hg rfl)) rfl <| LL.l (LO.pkA (.r rfl) rfl rfl (.r rfl)) rfl <| LL.l (LO.mv (.r rfl)) rfl <| LL.lg rfl rfl (GD.t _) (fun hg => LO.mv (.r rfl)) rfl <| LL.lg rfl rfl (GD.t _) (fun hg => LO.nc (.g hg rfl)) rfl <| LL.lg rfl rfl (GD.t _) (fun hg => LO.fa (r := 2) F64_2 (.g hg rfl) rfl) rfl <| LL.lg rfl rfl (GD.t _) (fun hg => LO.ld O3 (.g hg rfl) (cells_keep (sub_cells (off := 2) (case_read hh hcm) ⟨_, rfl⟩))) rfl <| LL.lg rfl rfl (GD.t _) (fun hg => LO.fa (r := 0) F165_0 (.r rfl) rfl) rfl <| LL.lg rfl rfl (GD.t _) (fun hg => LO.ld O3 (.g hg rfl) (fun _ hw => cells_at hw 1 rfl ⟨_, rfl⟩)) rfl <| LL.lg rfl rfl (GD.t _) (fun hg => LO.le (.g hg rfl) (.g hg rfl)) rfl <| LL.l (LO.pkA (.r rfl) rfl rfl (.r rfl)) rfl <| LL.l (LO.mv (.r rfl)) rfl <| LL.lg rfl rfl (GD.t _) (fun hg => LO.fa (r := 0) F165_0 (.r rfl) rfl) rfl <| LL.lg rfl rfl (GD.t _) (fun hg => LO.ld O3 (.g hg rfl) (fun _ hw => cells_at hw 1 rfl ⟨_, rfl⟩)) rfl <| LL.lg rfl rfl (GD.t _) (fun hg => LO.mv (.r rfl)) rfl <| LL.lg rfl rfl (GD.t _) (fun hg => LO.nc (.g hg rfl)) rfl <| LL.lg rfl rfl (GD.t _) (fun hg => LO.fa (r := 3) F64_3 (.g hg rfl) rfl) rfl <| LL.lg rfl rfl (GD.t _) (fun hg => LO.ld O3 (.g hg rfl) (cells_keep (sub_cells (off := 3) (case_read hh hcm) ⟨_, rfl⟩))) rfl <| LL.lg rfl rfl (GD.t _) (fun hg => LO.lt (.g hg rfl) (.g hg rfl)) rfl <| LL.l (LO.pkA (.r rfl) rfl rfl (.r rfl)) rfl <| LL.nil) (by kernel_rfl) ?_
              refine VE.seqN ?_
              refine VC.cond rfl (fun h112 => ?_) (fun h112 => ?_)
              ·
                have hic : inC r.x.r.pix cx.p nx.n = true := inC_of h112
                have hrg : cx.p.rg = (r.i : Int) := h112.1.1.2
                have hbt : cx.bg ≤ nx.t := h112.1.2
                have hat : mapF (r.i : Int) r.x.r.pix CS NS i j cx.nm = firstN r.x.r.pix cx.p (NS.take i) := by rw [hcb.1]; exact mapF_at hCx hrg
                refine VC.seq ?_
                refine VC.reg (VO.l (LO.mv (.r rfl)) rfl <| VO.l (LO.mv (.r rfl)) rfl <| VO.l (LO.nc (.r rfl)) rfl <| VO.l (LO.fa (r := 0) F64_0 (.r rfl) rfl) rfl <| VO.l (LO.ld O3 (.r rfl) (cells_keep (sub_cells (off := 0) (case_read hh hcm) ⟨_, rfl⟩))) rfl <| VO.l (LO.lk2 IM208 (.r rfl) (.r rfl) (fun _ hw => ⟨es, ck, St.inv hw 0 _ rfl, hE⟩)) rfl <| VO.l (LO.mv (.r rfl)) rfl <| VO.l (LO.ex (.r rfl) rfl) rfl <| VO.l (LO.ex (.r rfl) rfl) rfl <| VO.l (LO.as (.r rfl)) rfl <| VO.l (LO.as (.r rfl)) rfl <| VO.nil ?_)
                refine VE.seqN ?_
                refine VC.seq ?_
                refine VC.draw mixed (LL.l (LO.mv (.r rfl)) rfl <| LL.l (LO.not (.r rfl)) rfl <| LL.l (LO.mv (.r rfl)) rfl <| LL.lg rfl rfl (GD.f _) (fun hg => LO.fa (r := 0) F165_0 (.r rfl) rfl) rfl <| LL.lg rfl rfl (GD.f _) (fun hg => LO.ld O3 (.g hg rfl) (fun _ hw => cells_at hw 1 rfl ⟨_, rfl⟩)) rfl <| LL.lg rfl rfl (GD.f _) (fun hg => LO.mv (.r rfl)) rfl <| LL.lg rfl rfl (GD.f _) (fun hg => LO.nc (.g hg rfl)) rfl <| LL.lg rfl rfl (GD.f _) (fun hg => LO.fa (r := 2) F64_2 (.g hg rfl) rfl) rfl <| LL.lg rfl rfl (GD.f _) (fun hg => LO.ld O3 (.g hg rfl) (cells_keep (sub_cells (off := 2) (case_read hh hcm) ⟨_, rfl⟩))) rfl <| LL.lg rfl rfl (GD.f _) (fun hg => LO.sub (.g hg rfl) (.g hg rfl) (wi (by omega) (by omega))) rfl <| LL.lg rfl rfl (GD.f _) (fun hg => LO.mv (.r rfl)) rfl <| LL.lg rfl rfl (GD.f _) (fun hg => LO.lt (.g hg rfl) (.g hg rfl)) rfl <| LL.l (LO.pkO (.r rfl) (.r rfl) rfl rfl) rfl <| LL.nil) (by kernel_rfl) ?_
                refine VE.seqN ?_
                refine VC.cond rfl (fun h134 => ?_) (fun h134 => ?_)
                ·
                  have hupd := mapF_upd (k := (r.i : Int)) hCx hNx hrg hic (upd_of hat h134)
                  refine VC.drawH [[0, 1, 2, 3], [1, 2, 3]] [some 0, some 0, some 0, some 0, some 0, some 0, some 0, some 0, some 0, some 0, some 0, some 0, none] mixed (by kernel_rfl) rfl (LX.l (fun _ hJ => LO.mv (.r rfl)) rfl <| LX.l (fun _ hJ => LO.mv (.r rfl)) rfl <| LX.l (fun _ hJ => LO.nc (.r rfl)) rfl <| LX.l (fun _ hJ => LO.fa (r := 0) F64_0 (.r rfl) rfl) rfl <| LX.l (fun _ hJ => LO.ld O3 (.r rfl) (cells_keep (sub_cells (off := 0) (case_read hh hcm) ⟨_, rfl⟩))) rfl <| LX.l (fun _ hJ => LO.fa (r := 0) F165_0 (.r rfl) rfl) rfl <| LX.l (fun _ hJ => LO.ld O3 (.r rfl) (fun _ hw => cells_at (hJ _ hw) 1 rfl ⟨_, rfl⟩)) rfl <| LX.l (fun _ hJ => LO.mv (.r rfl)) rfl <| LX.l (fun _ hJ => LO.nc (.r rfl)) rfl <| LX.l (fun _ hJ => LO.fa (r := 2) F64_2 (.r rfl) rfl) rfl <| LX.l (fun _ hJ => LO.ld O3 (.r rfl) (cells_keep (sub_cells (off := 2) (case_read hh hcm) ⟨_, rfl⟩))) rfl <| LX.l (fun _ hJ => LO.sub (.r rfl) (.r rfl) (wi (by omega) (by omega))) rfl <| LX.s <| LX.nil) (HX.s <| HX.s <| HX.s <| HX.s <| HX.s <| HX.s <| HX.s <| HX.s <| HX.s <| HX.s <| HX.s <| HX.s <| HX.h0 <| HO.mupI 0 (fun R => [R, _, _, _]) IM208 (.r rfl) (.r rfl) (.r rfl) rfl hE hSt (fun _ => rfl) fun es2 ck2 hE2 hSt2 => ⟨fun _ hw => hw.sel [1, 2, 3] rfl, HX.nil ?_⟩)
                  refine VE.inN (VE.seqN ?_)
                  refine VC.reg (VO.l (LO.add (.r rfl) (.r rfl) (wi (by omega) (by omega))) rfl <| VO.l (LO.mv (.r rfl)) rfl <| VO.nil ?_)
                  refine VE.thenN fun a w ha hw => ⟨(j + 1, es2, ck2), ⟨by dsimp only; omega, by dsimp only; rw [hupd]; rw [hcb.1] at hE2; exact hE2, hSt2⟩, (by dsimp only; omega), ha.sub (.cons rfl (.cons rfl (.cons rfl (.cons rfl (.cons rfl (.cons rfl (.cons rfl (.cons rfl (.cons rfl (.cons rfl (.cons rfl (.cons rfl (.cons rfl .nil))))))))))))), (by exact selK (L1 := [_, _, _, _]) [0, 1, 2, 3] rfl rfl _ hw)⟩
                ·
                  obtain ⟨u, hu1, hu2⟩ := same_of hat h134
                  have hsame := mapF_same (k := (r.i : Int)) hCx hNx hrg hic hu1 hu2
                  refine VC.skip (VE.inN (VE.seqN ?_))
                  refine VC.reg (VO.l (LO.add (.r rfl) (.r rfl) (wi (by omega) (by omega))) rfl <| VO.l (LO.mv (.r rfl)) rfl <| VO.nil ?_)
                  refine VE.thenN fun a w ha hw => ⟨(j + 1, es, ck), ⟨by dsimp only; omega, by dsimp only; rw [hsame]; exact hE, hSt⟩, (by dsimp only; omega), ha.sub (.cons rfl (.cons rfl (.cons rfl (.cons rfl (.cons rfl (.cons rfl (.cons rfl (.cons rfl (.cons rfl (.cons rfl (.cons rfl (.cons rfl (.cons rfl .nil))))))))))))), (by exact selK (L1 := [_, _, _, _]) [0, 1, 2, 3] rfl rfl _ hw)⟩
              ·
                have hskip := mapF_skip (k := (r.i : Int)) (pix := r.x.r.pix) hCx hNx (fun q => h112 (inC_to q.1 q.2))
                refine VC.skip (VE.inN (VE.seqN ?_))
                refine VC.reg (VO.l (LO.add (.r rfl) (.r rfl) (wi (by omega) (by omega))) rfl <| VO.l (LO.mv (.r rfl)) rfl <| VO.nil ?_)
                refine VE.thenN fun a w ha hw => ⟨(j + 1, es, ck), ⟨by dsimp only; omega, by dsimp only; rw [hskip]; exact hE, hSt⟩, (by dsimp only; omega), ha.sub (.cons rfl (.cons rfl (.cons rfl (.cons rfl (.cons rfl (.cons rfl (.cons rfl (.cons rfl (.cons rfl (.cons rfl (.cons rfl (.cons rfl (.cons rfl .nil))))))))))))), (by exact selK (L1 := [_, _, _, _]) [0, 1, 2, 3] rfl rfl _ hw)⟩
            ·
              have hje : j = CS.length := by omega
              rw [hje, mapF_next] at hE
              refine VC.exit (VE.thenX (VE.thenX (VE.inX (VE.inN (VE.seqN ?_)))))
              refine VC.reg (VO.l (LO.add (.r rfl) (.r rfl) (wi (by omega) (by omega))) rfl <| VO.l (LO.mv (.r rfl)) rfl <| VO.nil ?_)
              refine VE.thenN fun a w ha hw => ⟨(i + 1, (bump 4 T), es, ck), ⟨by dsimp only; omega, by dsimp only; rw [hNT]; exact cnt_bump hT (kN_4 h47 h56 h62 h68), hE, hSt⟩, (by dsimp only; omega), ha.sub (.cons rfl (.cons rfl (.cons rfl (.cons rfl (.cons rfl (.cons rfl (.cons rfl (.cons rfl .nil)))))))), (by exact selK (L1 := [_, _, _]) [2, 0, 3] rfl rfl _ hw)⟩
  ·
    have hie : i = ns.length := by omega
    refine VC.exit (VE.thenX (VE.thenX (VE.inX (VE.seqN ?_))))
    refine VC.seq ?_
    refine VC.reg (VO.l (LO.as (.r rfl)) rfl <| VO.nil ?_)
    refine VE.seqN ?_
    refine VC.seq ?_
    refine VC.seq ?_
    refine VC.reg (VO.l (LO.mv (.r rfl)) rfl <| VO.h rfl <| HO.rangeM Try.underlying208 rfl (fun _ hw => St.inv hw 1 _ rfl) fun b11 => VO.nil ?_)
    refine VE.seqN ?_
    refine VC.block ?_
    refine VC.perm [1, 0, 2, 3] rfl ?_
    refine VC.loopK (α := (Array Nat) × Bool × Int × Int) 2 (fun gx => [(18, .bool gx.2.1)]) [(6, _), (7, _), (150, _)] (fun gx => [blk b2 (.cells #[.int .i64 T.h, .int .i64 T.m, .int .i64 T.a, .int .i64 T.q, .int .i64 T.o, .int .i64 gx.2.2.1, .int .i64 gx.2.2.2] 112), blk b11 (.mapIter (some b3) ck gx.1 ck)]) (fun gx => AhI es.toList gx.1 gx.2.1 gx.2.2.1 gx.2.2.2) (fun gx => (leftOf es gx.1).size) (#[], false, 0, 0) (by exact ah_0) (.cons rfl (.cons rfl (.cons rfl (.cons rfl .nil)))) (fun _ h => h) ?_
    rintro ⟨seen, sm, lo, hi⟩ hA
    show VC _ _ _ _ _ ([(18, .bool sm)] ++ _) ([blk b2 (.cells #[.int .i64 T.h, .int .i64 T.m, .int .i64 T.a, .int .i64 T.q, .int .i64 T.o, .int .i64 lo, .int .i64 hi] 112), blk b11 (.mapIter (some b3) ck seen ck)] ++ _) _ _
    dsimp only at hA
    refine VC.seq ?_
    by_cases h0 : (leftOf es seen).size = 0
    ·
      refine VC.reg (VO.h rfl <| HO.nextM0 1 rfl rfl (fun _ hw => St.inv hw 2 _ rfl) hSt.2 (Nat.le_refl _) h0 <| VO.h rfl <| HO.lo (LO.ex (.r rfl) rfl) <| VO.nil ?_)
      refine VE.seqN ?_
      refine VC.seq ?_
      refine VC.cond rfl (fun h152 => ?_) (fun h152 => ?_)
      ·
        (exfalso; cases h152)
      ·
        refine VC.exit (VE.thenX (VE.thenX (VE.inX (VE.seqN ?_))))
        refine VC.seq ?_
        refine VC.reg (VO.l (LO.lda (vs := [_, _, _, _, _, _, _]) A112 (.r rfl) (fun _ hw => cells_at hw 0 rfl ⟨_, rfl⟩) rfl) rfl <| VO.h0 <| HO.st 3 (vs := [_, _, _, _, _, _, _]) (C' := [_, _, _, _, _, _, _]) (L' := [_, _, _, _]) N112 rfl rfl rfl rfl rfl rfl rfl rfl <| VO.nil ?_)
        refine VE.seqN ?_
        refine VC.ret (VE.res (vs := [_]) rfl ⟨RV.agg (vs := [_, _, _, _, _, _, _]) A112 rfl (cells_blk 3 rfl ⟨_, rfl⟩) rfl, trivial⟩ (fun w hw => ?_))
        refine ⟨?_, hw.nil⟩
        rw [hie, ← hNL] at hE
        rw [hie, ← hNL, List.take_length] at hT
        obtain ⟨e1, e2⟩ := ah_end hA hE h0
        obtain ⟨g1, g2, g3, g4, g5⟩ := hT
        simp only [resV, talF, ← g1, ← g2, ← g3, ← g4, ← g5, ← e1, ← e2]
    ·
      refine VC.reg (VO.h rfl <| HO.nextM1 1 (fun R => [_, R, _, _]) rfl rfl (fun _ => rfl) (fun _ hw => St.inv hw 2 _ rfl) hSt.2 (Nat.le_refl _) h0 fun e he => VO.h rfl <| HO.lo (LO.ex (.r rfl) rfl) <| VO.nil ?_)
      refine VE.seqN ?_
      refine VC.seq ?_
      refine VC.cond rfl (fun h152 => ?_) (fun h152 => ?_)
      ·
        refine VC.skip (VE.seqN ?_)
        refine VC.block ?_
        refine VC.seq ?_
        obtain ⟨kn, kv, hk1, hk2, _⟩ := hE.ent e (left_mem.1 he).1
        refine VC.reg (VO.l (LO.entryI (.r rfl) (fun _ hw => St.inv hw 1 _ rfl) (fun _ hw => St.inv hw 2 _ rfl) (left_mem.1 he).1 hSt.1 hk1 hk2) rfl <| VO.l (LO.ex (.r rfl) rfl) rfl <| VO.l (LO.as (.r rfl)) rfl <| VO.nil ?_)
        refine VE.seqN ?_
        refine VC.seq ?_
        refine VC.seq ?_
        refine VC.reg (VO.l (LO.mv (.r rfl)) rfl <| VO.l (LO.not (.r rfl)) rfl <| VO.nil ?_)
        refine VE.seqN ?_
        refine VC.cond rfl (fun h156 => ?_) (fun h156 => ?_)
        ·
          refine VC.reg (VO.l (LO.mv (.r rfl)) rfl <| VO.l (LO.mv (.r rfl)) rfl <| VO.l (LO.bd (ps := [(_, _), (_, _)]) (vs := [(_, _), (_, _)]) (C := [_, _]) B76  ⟨(.r rfl), (.r rfl), trivial⟩ rfl ⟨_, [_], [_, _], rfl, rfl, rfl, rfl, ⟨_, [_], [_, _], rfl, rfl, rfl, rfl, rfl⟩⟩) rfl <| VO.l (LO.fa (r := 5) F112_5 (.r rfl) rfl) rfl <| VO.h0 <| HO.st 0 (vs := [_, _]) (C' := [_, _, _, _, _, _, _]) (L' := [_, _, _, _]) N76 rfl rfl rfl rfl rfl rfl rfl rfl <| VO.nil ?_)
          refine VE.seqN ?_
          refine VC.seq ?_
          refine VC.reg (VO.l (LO.as (.r rfl)) rfl <| VO.nil ?_)
          refine VE.seqN ?_
          refine VC.reg (VO.l (LO.fa (r := 5) F112_5 (.r rfl) rfl) rfl <| VO.l (LO.fa (r := 5) F76_0 (.r rfl) rfl) rfl <| VO.l (LO.ld O3 (.r rfl) (fun _ hw => cells_at hw 0 rfl ⟨_, rfl⟩)) rfl <| VO.l (LO.mv (.r rfl)) rfl <| VO.l (LO.min (.r rfl) (.r rfl)) rfl <| VO.l (LO.fa (r := 5) F112_5 (.r rfl) rfl) rfl <| VO.l (LO.fa (r := 6) F76_1 (.r rfl) rfl) rfl <| VO.l (LO.ld O3 (.r rfl) (fun _ hw => cells_at hw 0 rfl ⟨_, rfl⟩)) rfl <| VO.l (LO.mv (.r rfl)) rfl <| VO.l (LO.max (.r rfl) (.r rfl)) rfl <| VO.l (LO.bd (ps := [(_, _), (_, _)]) (vs := [(_, _), (_, _)]) (C := [_, _]) B76  ⟨(.r rfl), (.r rfl), trivial⟩ rfl ⟨_, [_], [_, _], rfl, rfl, rfl, rfl, ⟨_, [_], [_, _], rfl, rfl, rfl, rfl, rfl⟩⟩) rfl <| VO.l (LO.fa (r := 5) F112_5 (.r rfl) rfl) rfl <| VO.h0 <| HO.st 0 (vs := [_, _]) (C' := [_, _, _, _, _, _, _]) (L' := [_, _, _, _]) N76 rfl rfl rfl rfl rfl rfl rfl rfl <| VO.nil ?_)
          refine VE.inN ?_
          refine VE.thenN fun a w ha hw => ⟨(seen.push e.born, true, (min kv kv), (max kv kv)), (by dsimp only; have hsm : sm = false := (by simpa using h156); subst hsm; exact ah_first hA hSt.1 (left_mem.1 he).1 hk2), (by dsimp only; exact left_lt he), ha.sub (.cons rfl (.cons rfl (.cons rfl (.cons rfl .nil)))), (by exact selK (L1 := [_, _, _, _]) [0, 1, 2, 3] rfl rfl _ hw)⟩
        ·
          refine VC.skip (VE.seqN ?_)
          refine VC.seq ?_
          refine VC.reg (VO.l (LO.as (.r rfl)) rfl <| VO.nil ?_)
          refine VE.seqN ?_
          refine VC.reg (VO.l (LO.fa (r := 5) F112_5 (.r rfl) rfl) rfl <| VO.l (LO.fa (r := 5) F76_0 (.r rfl) rfl) rfl <| VO.l (LO.ld O3 (.r rfl) (fun _ hw => cells_at hw 0 rfl ⟨_, rfl⟩)) rfl <| VO.l (LO.mv (.r rfl)) rfl <| VO.l (LO.min (.r rfl) (.r rfl)) rfl <| VO.l (LO.fa (r := 5) F112_5 (.r rfl) rfl) rfl <| VO.l (LO.fa (r := 6) F76_1 (.r rfl) rfl) rfl <| VO.l (LO.ld O3 (.r rfl) (fun _ hw => cells_at hw 0 rfl ⟨_, rfl⟩)) rfl <| VO.l (LO.mv (.r rfl)) rfl <| VO.l (LO.max (.r rfl) (.r rfl)) rfl <| VO.l (LO.bd (ps := [(_, _), (_, _)]) (vs := [(_, _), (_, _)]) (C := [_, _]) B76  ⟨(.r rfl), (.r rfl), trivial⟩ rfl ⟨_, [_], [_, _], rfl, rfl, rfl, rfl, ⟨_, [_], [_, _], rfl, rfl, rfl, rfl, rfl⟩⟩) rfl <| VO.l (LO.fa (r := 5) F112_5 (.r rfl) rfl) rfl <| VO.h0 <| HO.st 0 (vs := [_, _]) (C' := [_, _, _, _, _, _, _]) (L' := [_, _, _, _]) N76 rfl rfl rfl rfl rfl rfl rfl rfl <| VO.nil ?_)
          refine VE.inN ?_
          refine VE.thenN fun a w ha hw => ⟨(seen.push e.born, true, (min lo kv), (max hi kv)), (by dsimp only; have hsm : sm = true := (by simpa using h156); subst hsm; exact ah_more hA hSt.1 (left_mem.1 he).1 hk2), (by dsimp only; exact left_lt he), ha.sub (.cons rfl (.cons rfl (.cons rfl (.cons rfl .nil)))), (by exact selK (L1 := [_, _, _, _]) [0, 1, 2, 3] rfl rfl _ hw)⟩
      ·
        (exfalso; exact h152 rfl)

end Go.Proofs.Ytdjflomhaljljaa

namespace Go.Proofs.Ytdjflomhaljljaa
open Go.SL Go.Proofs Go.Cast
set_option linter.unusedVariables false

theorem I165 : EInfo Try.prog 165 8 80 (.agg #[.int .i64 0, .int .i64 0, .int .i64 0, .int .i64 0, .int .i64 0, .int .i64 0, .slice none 0 0, .int .i64 0]) := ⟨by kernel_rfl, by kernel_rfl, by unfold ZeroOf; kernel_rfl, rfl, by decide⟩


def LgM.nts : LgM → List NtM
  | .st _ _ _ _ => []
  | .nt t g p c vs lv => [⟨t, g, p, c, vs, lv⟩]
def ntsL (l : List LgM) : List NtM := l.flatMap LgM.nts
theorem ntsL_mem {l : List LgM} {n : NtM} : n ∈ ntsL l ↔ LgM.nt n.t n.g n.p n.c n.vs n.lv ∈ l := by
  unfold ntsL
  rw [List.mem_flatMap]
  constructor
  · rintro ⟨x, hx, h⟩
    cases x with
    | st => cases h
    | nt => rw [List.mem_singleton.1 h]; exact hx
  · exact fun h => ⟨_, h, by simp [LgM.nts]⟩
theorem ntsL_len {l : List LgM} : (ntsL l).length ≤ l.length := by
  induction l with
  | nil => exact Nat.le_refl _
  | cons x l ih =>
    have e : ntsL (x :: l) = LgM.nts x ++ ntsL l := rfl
    have h : (LgM.nts x).length ≤ 1 := by cases x <;> simp [LgM.nts]
    rw [e, List.length_append, List.length_cons]; omega
theorem ntsL_snoc {l : List LgM} {x : LgM} : ntsL (l ++ [x]) = ntsL l ++ LgM.nts x := by
  unfold ntsL; rw [List.flatMap_append]; simp
/-- Whether a region was watched at a time. -/
def onF (o : OfM) (r : RcM) (t : Int) : Bool := !decide (atLv o.ts r.lv t = 0)
/-- All notes are in order. -/
def NtOk (o : OfM) : Prop := ∀ n, n ∈ ntsL o.lg → (0 ≤ n.t ∧ n.t ≤ 4294967296) ∧ ∀ r, r ∈ o.rc → ∀ p, p ∈ r.x.r.pix → 0 ≤ p ∧ p < (n.vs.length : Int)
def talsL (o : OfM) : List Tal := o.rc.map fun r => talF r.i r.x.r.pix (onF o r) (o.cs.map CsM.p) ((ntsL o.lg).map NtM.n)

set_option maxRecDepth 20000 in
set_option maxHeartbeats 4000000 in
theorem Score_c (o : OfM) (w : World) (hn : 0 < o.rc.length ∧ o.rc.length < 1000000) (hts : o.ts.length < 1000000) (hs : o.ts.Pairwise (· ≤ ·)) (hlv : ∀ r, r ∈ o.rc → r.lv.length = o.ts.length) (hcl : o.cs.length < 1000000000) (hcn : ∀ (j : Nat) (c : CsM), o.cs[j]? = some c → c.nm = (j : Int) + 1 ∧ 0 ≤ c.bg) (hlg : o.lg.length < 1000000000) (hrg : ∀ r, r ∈ o.rc → r.x ∈ o.rg ∧ r.x.r.pix.length < 1000000000000) (hnt : NtOk o) (hh : Has w (offR o)) :
  Calls Try.prog 41 #[ptrN o.b] w fun e w' => ∃ x : Option Addr × Nat, True ∧ e = .returned (.slice x.1 (talsL o).length x.2) ∧ St (bs w) [own 112 7 x.1 x.2 ((talsL o).map Tal.cells)] w' := by
  have hrr : RO 1 rcP w o.pc o.rc := RO.of_own hh 3 rfl
  have hlr : RO 1 LgM.val w o.pl o.lg := RO.of_own hh 8 rfl
  have hnlen := ntsL_len (l := o.lg)
  refine enter (vs := [_]) (env := [(0, _)]) Try.func41 rfl rfl rfl rfl ?_
  refine VC.seq ?_
  refine VC.reg (VO.l (LO.as (.r rfl)) rfl <| VO.nil ?_)
  refine VE.seqN ?_
  refine VC.seq ?_
  refine VC.seq ?_
  refine VC.reg (VO.l (LO.mv (.r rfl)) rfl <| VO.l (LO.call (xs := [_]) (vs := [_]) C53 ⟨(.r rfl), trivial⟩ (fun w hw => nothing_c o w (by omega) (off_cells (hh.keep hw)))) rfl <| VO.nil ?_)
  refine VE.seqN ?_
  refine VC.cond rfl (fun h12 => ?_) (fun h12 => ?_)
  ·
    (exfalso; omega)
  ·
    refine VC.skip (VE.seqN ?_)
    refine VC.seq ?_
    refine VC.reg (VO.l (LO.as (.r rfl)) rfl <| VO.nil ?_)
    refine VE.seqN ?_
    refine VC.seq ?_
    refine VC.seq ?_
    refine VC.reg (VO.l (LO.mv (.r rfl)) rfl <| VO.l (LO.nc (.r rfl)) rfl <| VO.l (LO.fa (r := 12) F117_4 (.r rfl) rfl) rfl <| VO.l (LO.ld O115 (.r rfl) (cells_keep (sub_cells (off := 12) (off_cells hh) ⟨_, rfl⟩))) rfl <| VO.l (LO.len S115 (.r rfl) rfl) rfl <| VO.l (LO.mv (.r rfl)) rfl <| VO.nil ?_)
    refine VE.seqN ?_
    refine VC.block ?_
    refine VC.loopK (α := Nat × (List NtM) × (Option Addr) × Nat) 0 (fun gx => [(3, .slice gx.2.2.1 gx.2.1.length gx.2.2.2), (18, .int .i64 (gx.1 : Nat))]) [(0, _), (16, _), (17, _)] (fun gx => [own 165 8 gx.2.2.1 gx.2.2.2 (gx.2.1.map NtM.cells)]) (fun gx => gx.1 ≤ o.lg.length ∧ gx.2.1 = ntsL (o.lg.take gx.1)) (fun gx => o.lg.length - gx.1) (0, [], none, 0) (by exact ⟨Nat.zero_le _, rfl⟩) (.cons rfl (.cons rfl (.cons rfl (.cons rfl (.cons rfl .nil))))) (fun _ h => (h.ownNil 165 8)) ?_
    rintro ⟨j, xs, pn_, cn_⟩ ⟨hj, hX⟩
    show VC _ _ _ _ _ ([(3, .slice pn_ xs.length cn_), (18, .int .i64 (j : Nat))] ++ _) ([own 165 8 pn_ cn_ (xs.map NtM.cells)] ++ _) _ _
    dsimp only at hj hX
    have hxl : xs.length ≤ j := by rw [hX]; have := ntsL_len (l := o.lg.take j); rw [List.length_take] at this; omega
    refine VC.seq ?_
    refine VC.reg (VO.l (LO.lt (.r rfl) (.r rfl)) rfl <| VO.nil ?_)
    refine VE.seqN ?_
    refine VC.seq ?_
    refine VC.cond rfl (fun h19 => ?_) (fun h19 => ?_)
    ·
      obtain ⟨x, hr⟩ : ∃ x, o.lg[j]? = some x := ⟨_, List.getElem?_eq_getElem (by omega)⟩
      have htk : o.lg.take (j + 1) = o.lg.take j ++ [x] := by rw [List.take_add_one, hr]; rfl
      refine VC.skip (VE.seqN ?_)
      refine VC.seq ?_
      refine VC.block ?_
      refine VC.seq ?_
      rcases x with ⟨t, pc, cc, l⟩ | ⟨t, gg, pv, cv, vs, lv⟩
      ·
        refine VC.reg (VO.l (LO.ixs S115 N167 hlr.sm (.r rfl) (.r rfl) rfl (by omega)) rfl <| VO.l (LO.ld (v := .iface 158 (.agg #[.int .i64 t, .slice pc l.length cc])) O167 (.r rfl) (fun w hw => cells_part (off := 0) ((fun w2 hw2 => (hlr.keep w2 hw2).cells _ _ (by rw [List.getElem?_map, hr]; rfl)) w hw) ⟨_, rfl⟩)) rfl <| VO.l (LO.as (.r rfl)) rfl <| VO.nil ?_)
        refine VE.seqN ?_
        refine VC.seq ?_
        refine VC.reg (VO.l (LO.mv (.r rfl)) rfl <| VO.l (LO.taF ⟨_, Try.underlying165⟩ Z165 (.r rfl) (by decide)) rfl <| VO.l (LO.mv (.r rfl)) rfl <| VO.l (LO.ex (.r rfl) rfl) rfl <| VO.l (LO.ex (.r rfl) rfl) rfl <| VO.h rfl <| HO.alloc (C := #[_, _, _, _, _, _, _, _]) Z165 rfl fun b2 => VO.h0 <| HO.st 0 (vs := [_, _, _, _, _, _, _, _]) (C' := [_, _, _, _, _, _, _, _]) (L' := [_, _]) N165 rfl rfl rfl rfl rfl rfl rfl rfl <| VO.l (LO.as (.r rfl)) rfl <| VO.nil ?_)
        refine VE.seqN ?_
        refine VC.seq ?_
        refine VC.reg (VO.l (LO.mv (.r rfl)) rfl <| VO.nil ?_)
        refine VE.seqN ?_
        refine VC.cond rfl (fun h27 => ?_) (fun h27 => ?_)
        ·
          (exfalso; cases h27)
        ·
          refine VC.skip (VE.inN (VE.seqN ?_))
          refine VC.reg (VO.l (LO.add (.r rfl) (.r rfl) (wi (by omega) (by omega))) rfl <| VO.l (LO.mv (.r rfl)) rfl <| VO.nil ?_)
          refine VE.thenN fun a w ha hw => ⟨(j + 1, xs, pn_, cn_), ⟨by dsimp only; omega, by dsimp only; rw [htk, ntsL_snoc, hX]; first | rfl | exact (List.append_nil _).symm⟩, (by dsimp only; omega), ha.sub (.cons rfl (.cons rfl (.cons rfl (.cons rfl (.cons rfl .nil))))), (by exact selK (L1 := [_]) [1] rfl rfl _ hw)⟩
      ·
        refine VC.reg (VO.l (LO.ixs S115 N167 hlr.sm (.r rfl) (.r rfl) rfl (by omega)) rfl <| VO.l (LO.ld (v := .iface 165 (.agg #[.int .i64 t, .int .i64 gg.x, .int .i64 gg.y, .int .i64 gg.size, .int .i64 gg.wide, .int .i64 gg.high, .slice pv vs.length cv, .int .i64 lv])) O167 (.r rfl) (fun w hw => cells_part (off := 0) ((fun w2 hw2 => (hlr.keep w2 hw2).cells _ _ (by rw [List.getElem?_map, hr]; rfl)) w hw) ⟨_, rfl⟩)) rfl <| VO.l (LO.as (.r rfl)) rfl <| VO.nil ?_)
        refine VE.seqN ?_
        refine VC.seq ?_
        refine VC.reg (VO.l (LO.mv (.r rfl)) rfl <| VO.l (LO.taT ⟨_, Try.underlying165⟩ (.r rfl)) rfl <| VO.l (LO.mv (.r rfl)) rfl <| VO.l (LO.ex (.r rfl) rfl) rfl <| VO.l (LO.ex (.r rfl) rfl) rfl <| VO.h rfl <| HO.alloc (C := #[_, _, _, _, _, _, _, _]) Z165 rfl fun b4 => VO.h0 <| HO.st 0 (vs := [_, _, _, _, _, _, _, _]) (C' := [_, _, _, _, _, _, _, _]) (L' := [_, _]) N165 rfl rfl rfl rfl rfl rfl rfl rfl <| VO.l (LO.as (.r rfl)) rfl <| VO.nil ?_)
        refine VE.seqN ?_
        refine VC.seq ?_
        refine VC.reg (VO.l (LO.mv (.r rfl)) rfl <| VO.nil ?_)
        refine VE.seqN ?_
        refine VC.cond rfl (fun h27 => ?_) (fun h27 => ?_)
        ·
          refine VC.reg (VO.l (LO.mv (.r rfl)) rfl <| VO.l (LO.lda (vs := [_, _, _, _, _, _, _, _]) A165 (.r rfl) (fun _ hw => cells_at hw 0 rfl ⟨_, rfl⟩) rfl) rfl <| VO.h rfl <| HO.bs (ps := [(_, _)]) (vs := [(_, _)]) (Z := [_, _, _, _, _, _, _, _]) (C := [_, _, _, _, _, _, _, _]) S185 Z165 N165 ⟨(.r rfl), trivial⟩ rfl rfl rfl rfl ⟨_, [_, _, _, _, _, _, _, _], [_, _, _, _, _, _, _, _], rfl, rfl, rfl, rfl, rfl⟩ fun b6 => VO.h rfl <| HO.appT ((⟨t, gg, pv, cv, vs, lv⟩ : NtM)) 2 0 (fun R => [_, _, R]) S185 S185 I165 (.r rfl) (.r rfl) rfl rfl rfl rfl rfl rfl rfl (fun _ => rfl) rfl (by omega) fun p3 c3 => VO.h rfl <| HO.lo (LO.as (.r rfl)) <| VO.nil ?_)
          refine VE.inN (VE.seqN ?_)
          refine VC.reg (VO.l (LO.add (.r rfl) (.r rfl) (wi (by omega) (by omega))) rfl <| VO.l (LO.mv (.r rfl)) rfl <| VO.nil ?_)
          refine VE.thenN fun a w ha hw => ⟨(j + 1, xs ++ [(⟨t, gg, pv, cv, vs, lv⟩ : NtM)], p3, c3), ⟨by dsimp only; omega, by dsimp only; rw [htk, ntsL_snoc, hX]; first | rfl | exact (List.append_nil _).symm⟩, (by dsimp only; omega), ha.sub (.cons rfl (.cons rfl (.cons rfl (.cons rfl (.cons rfl .nil))))), (by exact selK (L1 := [_]) [2] rfl rfl _ hw)⟩
        ·
          (exfalso; exact h27 rfl)
    ·
      have hxe : xs = ntsL o.lg := by rw [hX, List.take_of_length_le (by omega)]
      subst hxe
      refine VC.exit (VE.thenX (VE.thenX (VE.inX (VE.seqN ?_))))
      refine VC.seq ?_
      refine VC.reg (VO.l (LO.as (.r rfl)) rfl <| VO.nil ?_)
      refine VE.seqN ?_
      refine VC.seq ?_
      refine VC.seq ?_
      refine VC.reg (VO.l (LO.mv (.r rfl)) rfl <| VO.l (LO.nc (.r rfl)) rfl <| VO.l (LO.fa (r := 9) F117_1 (.r rfl) rfl) rfl <| VO.l (LO.ld O113 (.r rfl) (cells_keep (sub_cells (off := 9) (off_cells hh) ⟨_, rfl⟩))) rfl <| VO.l (LO.len S113 (.r rfl) rfl) rfl <| VO.l (LO.mv (.r rfl)) rfl <| VO.nil ?_)
      refine VE.seqN ?_
      refine VC.block ?_
      refine VC.loopK (α := Nat × (List Tal) × (Option Addr) × Nat) 0 (fun gx => [(8, .slice gx.2.2.1 gx.2.1.length gx.2.2.2), (38, .int .i64 (gx.1 : Nat))]) [(0, _), (3, _), (36, _), (37, _)] (fun gx => [own 112 7 gx.2.2.1 gx.2.2.2 (gx.2.1.map Tal.cells)]) (fun gx => gx.1 ≤ o.rc.length ∧ gx.2.1 = (talsL o).take gx.1) (fun gx => o.rc.length - gx.1) (0, [], none, 0) (by exact ⟨Nat.zero_le _, rfl⟩) (.cons rfl (.cons rfl (.cons rfl (.cons rfl (.cons rfl (.cons rfl .nil)))))) (fun _ h => (h.ownNil 112 7)) ?_
      rintro ⟨j, xs, px_, cx_⟩ ⟨hj, hX⟩
      show VC _ _ _ _ _ ([(8, .slice px_ xs.length cx_), (38, .int .i64 (j : Nat))] ++ _) ([own 112 7 px_ cx_ (xs.map Tal.cells)] ++ _) _ _
      dsimp only at hj hX
      have hxl : xs.length ≤ j := by rw [hX, List.length_take]; omega
      refine VC.seq ?_
      refine VC.reg (VO.l (LO.lt (.r rfl) (.r rfl)) rfl <| VO.nil ?_)
      refine VE.seqN ?_
      refine VC.seq ?_
      refine VC.cond rfl (fun h39 => ?_) (fun h39 => ?_)
      ·
        obtain ⟨r, hr⟩ : ∃ r, o.rc[j]? = some r := ⟨_, List.getElem?_eq_getElem (by omega)⟩
        have hrm : r ∈ o.rc := List.mem_of_getElem? hr
        refine VC.skip (VE.seqN ?_)
        refine VC.seq ?_
        refine VC.block ?_
        refine VC.seq ?_
        refine VC.reg (VO.l (LO.ixs S113 N151 hrr.sm (.r rfl) (.r rfl) rfl (by omega)) rfl <| VO.l (LO.ld O151 (.r rfl) (fun w hw => cells_part (off := 0) ((fun w2 hw2 => (hrr.keep w2 hw2).cells _ _ (by rw [List.getElem?_map, hr]; rfl)) w hw) ⟨_, rfl⟩)) rfl <| VO.l (LO.as (.r rfl)) rfl <| VO.nil ?_)
        refine VE.seqN ?_
        refine VC.reg (VO.l (LO.mv (.r rfl)) rfl <| VO.l (LO.mv (.r rfl)) rfl <| VO.l (LO.mv (.r rfl)) rfl <| VO.l (LO.mv (.r rfl)) rfl <| VO.l (LO.call (xs := [_, _, _]) (vs := [_, _, _]) C71 ⟨(.r rfl), (.r rfl), (.r rfl), trivial⟩ (fun w2 hw2 => score_c o r (ntsL o.lg) pn_ cn_ (onF o r) w2 hrm (hlv r hrm) hts hs hcl hcn (by omega) (hrg r hrm).2 (fun t => rfl) (fun n hn2 => ⟨(hnt n hn2).1, own_inv_rows ((St.inv (hh.keep hw2) 9 _ rfl).1 _ (List.mem_flatMap.2 ⟨_, ntsL_mem.1 hn2, .head _⟩)), (hnt n hn2).2 r hrm⟩) (pix_read (St.inv (hh.keep hw2) 2 _ rfl) (hrg r hrm).1) (hh.keep hw2) (own_rows hw2 1 rfl))) rfl <| VO.h rfl <| HO.bs (ps := [(_, _)]) (vs := [(_, _)]) (Z := [_, _, _, _, _, _, _]) (C := [_, _, _, _, _, _, _]) S109 Z112 N112 ⟨(.r rfl), trivial⟩ rfl rfl rfl rfl ⟨_, [_, _, _, _, _, _, _], [_, _, _, _, _, _, _], rfl, rfl, rfl, rfl, rfl⟩ fun b8 => VO.h rfl <| HO.appT ((talF r.i r.x.r.pix (onF o r) (o.cs.map CsM.p) ((ntsL o.lg).map NtM.n))) 1 0 (fun R => [_, R, _]) S109 S109 I112 (.r rfl) (.r rfl) rfl rfl rfl rfl rfl rfl rfl (fun _ => rfl) rfl (by omega) fun p6 c6 => VO.h rfl <| HO.lo (LO.as (.r rfl)) <| VO.nil ?_)
        refine VE.inN (VE.seqN ?_)
        refine VC.reg (VO.l (LO.add (.r rfl) (.r rfl) (wi (by omega) (by omega))) rfl <| VO.l (LO.mv (.r rfl)) rfl <| VO.nil ?_)
        refine VE.thenN fun a w ha hw => ⟨(j + 1, xs ++ [talF r.i r.x.r.pix (onF o r) (o.cs.map CsM.p) ((ntsL o.lg).map NtM.n)], p6, c6), ⟨by dsimp only; omega, by dsimp only; rw [List.take_add_one, hX]; unfold talsL; rw [List.getElem?_map, hr]; rfl⟩, (by dsimp only; omega), ha.sub (.cons rfl (.cons rfl (.cons rfl (.cons rfl (.cons rfl (.cons rfl .nil)))))), (by exact selK (L1 := [_, _]) [1, 2] rfl rfl _ hw)⟩
      ·
        refine VC.exit (VE.thenX (VE.thenX (VE.inX (VE.seqN ?_))))
        refine VC.seq ?_
        refine VC.reg (VO.l (LO.mv (.r rfl)) rfl <| VO.l (LO.as (.r rfl)) rfl <| VO.nil ?_)
        refine VE.seqN ?_
        refine VC.ret (VE.res (vs := [_]) rfl ⟨rfl, trivial⟩ (fun w hw => ?_))
        have hx2 : xs = talsL o := by rw [hX, List.take_of_length_le (by simp [talsL]; omega)]
        rw [← hx2]
        exact ⟨(px_, cx_), trivial, rfl, hw.sel [0] rfl⟩

end Go.Proofs.Ytdjflomhaljljaa

namespace Go.Proofs.Ytdjflomhaljljaa
open Go.SL Go.Proofs Go.Cast
set_option linter.unusedVariables false

def ntE (x : EnP) : List Nt := if x.lv = 0 then [] else [⟨x.t, x.vs, x.lv⟩]
/-- The notes among entries. -/
def ntP (l : List EnP) : List Nt := l.flatMap ntE
theorem ntP_snoc {l : List EnP} {x : EnP} : ntP (l ++ [x]) = ntP l ++ ntE x := by unfold ntP; rw [List.flatMap_append]; simp
/-- What holds of an office in which entries were played, its notes besides. -/
structure PlB (s : Sp) (l : List EnP) (o : OfM) (n : Nat) : Prop where
  a : PlA s l o n
  nt : (ntsL o.lg).map NtM.n = ntP (l.take n)
  ok : NtOk o
theorem ntsL_st {t : Int} {p : Option Addr} {c : Nat} {l : List CP} {ls : List LgM} : ntsL (ls ++ [.st t p c l]) = ntsL ls := by rw [ntsL_snoc]; exact List.append_nil _
theorem PlB.step {s : Sp} {l : List EnP} {o : OfM} {n : Nat} {x : EnP} {y : StepY} (h : PlB s l o n) (hx : l[n]? = some x) (hlv : x.lv = 0) (hb : x.l.length < 1000000000 ∧ ∀ c, c ∈ x.l → c.sure.length < 1000000000000 ∧ c.may.length < 1000000000000) (hp : StepP o x.t x.l y) (hs : SimO (y.o o x.t) (stP s (l.take n) ++ [⟨x.t, thsP o.sp x.l⟩])) : PlB s l (y.o o x.t) (n + 1) := by
  have ha := h.a.step hx hlv hb hp hs
  have hl : ntsL (y.o o x.t).lg = ntsL o.lg := by
    obtain ⟨_, p, c, m, e1, e2⟩ := hp
    show ntsL (o.lg ++ [y.lg]) = _
    rw [e1, ntsL_st]
  refine ⟨ha, by rw [hl, h.nt, take_en hx, ntP_snoc]; unfold ntE; rw [if_pos hlv, List.append_nil], fun q hq => ?_⟩
  rw [hl] at hq
  obtain ⟨h1, h2⟩ := h.ok q hq
  refine ⟨h1, fun r hr p hp' => ?_⟩
  -- the records' regions are those that were there
  have w1 := h.a.sim.wf
  have w2 := ha.sim.wf
  obtain ⟨k, hk⟩ := List.mem_iff_getElem?.1 hr
  have i2 := (w2.idx k r hk).1
  have hk1 : k < o.rc.length := by
    have := (List.getElem?_eq_some_iff.1 hk).1
    rw [w2.len] at this; rw [w1.len]; exact this
  have i1 := (w1.idx k _ (List.getElem?_eq_getElem hk1)).1
  have e : (y.o o x.t).rg = o.rg := rfl
  rw [e] at i2
  rw [i2] at i1
  have := Option.some.inj i1
  exact h2 _ (List.getElem_mem hk1) p (by rw [← this]; exact hp')
theorem PlB.note {s : Sp} {l : List EnP} {o : OfM} {n : Nat} {x : EnP} {p q : Option Addr} {c d : Nat} (h : PlB s l o n) (hx : l[n]? = some x) (hlv : ¬ x.lv = 0) (he : enE s (l.take n) x = 0) : PlB s l { o with lg := o.lg ++ [LgM.nt x.t x.g p c x.vs x.lv], pl := q, cl := d } (n + 1) := by
  have hne := h.a.nt hlv
  rw [he] at hne
  obtain ⟨k1, k2, k3, k4, k5⟩ := noteOk hne
  have hlen : (x.vs.length : Int) = x.g.wide * x.g.high := by
    unfold fieldE at k3
    split at k3
    · omega
    · split at k3
      · omega
      · rename_i z; exact Classical.not_not.1 z
  refine ⟨h.a.note hx hlv (by exact field_len k3), ?_, fun m hm => ?_⟩
  · show (ntsL (o.lg ++ [_])).map NtM.n = _
    rw [ntsL_snoc, List.map_append, h.nt, take_en hx, ntP_snoc]
    unfold ntE
    rw [if_neg hlv]; rfl
  · change m ∈ ntsL (o.lg ++ [_]) at hm
    rw [ntsL_snoc] at hm
    rcases List.mem_append.1 hm with z | z
    · exact h.ok m z
    · have := List.mem_singleton.1 z; subst this
      refine ⟨k1, fun r hr p hp => ?_⟩
      have w1 := h.a.sim.wf
      obtain ⟨k, hk⟩ := List.mem_iff_getElem?.1 hr
      have hkl : k < o.rg.length := by rw [← w1.len]; exact (List.getElem?_eq_some_iff.1 hk).1
      have hs := (specOk w1.spec).2.2.2.1 k (by show k < (o.rg.map RG.r).length; rw [List.length_map]; exact hkl)
      have e : o.sp.regs.getD k default = r.x.r := by
        show (o.rg.map RG.r).getD k default = _
        rw [List.getD_eq_getElem?_getD, List.getElem?_map, (w1.idx k r hk).1]; rfl
      rw [e] at hs
      simp only [List.cons.injEq, and_true] at k4
      show 0 ≤ p ∧ p < (x.vs.length : Int)
      rw [hlen, k4.2.2.2.1, k4.2.2.2.2]
      obtain ⟨i, hi, rfl⟩ := List.getElem_of_mem hp
      have z := pix_in hs hi
      rw [List.getD_eq_getElem?_getD, List.getElem?_eq_getElem hi] at z
      change 0 ≤ r.x.r.pix[i] ∧ r.x.r.pix[i] ≤ o.g.wide * o.g.high - 1 at z
      omega
theorem bg_step {k : Nat} {b m T : Int} {cs : List Cs} (h : ∀ c, c ∈ cs → 0 ≤ c.bg) (hT : 0 ≤ T) : ∀ c, c ∈ stepC k b m T cs → 0 ≤ c.bg := by
  unfold stepC
  split
  · exact h
  · split
    · intro c hc
      rcases List.mem_append.1 hc with q | q
      · exact h c q
      · rw [List.mem_singleton.1 q]; exact hT
    · intro c hc
      obtain ⟨d, hd, rfl⟩ := List.mem_map.1 hc
      have := h d hd
      split
      · exact this
      · exact this
theorem bg_run {H : Int} {st : List Stp} {s : Stp} {cs : List Cs} (h : ∀ c, c ∈ cs → 0 ≤ c.bg) (hT : 0 ≤ s.t) : ∀ j, ∀ c, c ∈ runC H st s cs j → 0 ≤ c.bg
  | 0 => h
  | j + 1 => bg_step (bg_run h hT j) hT
theorem bg_all {H : Int} {n : Nat} {st : List Stp} (h : ∀ x, x ∈ st → 0 ≤ x.t) : ∀ m, m ≤ st.length → ∀ c, c ∈ csA H n st m → 0 ≤ c.bg
  | 0, _ => fun c hc => by cases hc
  | m + 1, hm => bg_run (bg_all h m (by omega)) (h _ (getD_mem (by omega))) n
/-- The tallies, by the entries. -/
def onP (s : Sp) (l : List EnP) (k : Nat) (t : Int) : Bool := !decide (atLv (tsP l) (lvL s.hold k (stP s l)) t = 0)
def talP (s : Sp) (l : List EnP) (k : Nat) : Tal := talF k (s.regs.getD k default).pix (onP s l k) (csF s.hold s.regs.length (stP s l)) (ntP l)
def talsP (s : Sp) (l : List EnP) : List Tal := (List.range s.regs.length).map (talP s l)
theorem PlA.hold {s : Sp} {l : List EnP} {o : OfM} {n : Nat} (h : PlA s l o n) : o.hold = s.hold := congrArg Sp.hold h.sp
theorem PlA.n {s : Sp} {l : List EnP} {o : OfM} {n : Nat} (h : PlA s l o n) : o.rc.length = s.regs.length := by rw [n_eq h.sim.wf, h.sp]
theorem PlA.cs {s : Sp} {l : List EnP} {o : OfM} {n : Nat} (h : PlA s l o n) : o.cs.map CsM.p = csF s.hold s.regs.length (stP s (l.take n)) := by rw [h.sim.cs, h.hold, h.n]
theorem PlB.tals {s : Sp} {l : List EnP} {o : OfM} {n : Nat} (h : PlB s l o n) : talsL o = talsP s (l.take n) := by
  unfold talsL talsP
  refine List.ext_getElem? fun k => ?_
  rw [List.getElem?_map, List.getElem?_map]
  rcases Nat.lt_or_ge k o.rc.length with q | q
  · rw [List.getElem?_eq_getElem q, List.getElem?_range (by rw [← h.a.n]; exact q)]
    simp only [Option.map_some]
    have hi := h.a.sim.wf.idx k _ (List.getElem?_eq_getElem q)
    have hr := h.a.sim.rcs k _ (List.getElem?_eq_getElem q)
    have hp : (s.regs.getD k default).pix = (o.rc[k]).x.r.pix := by
      rw [← h.a.sp]
      show ((o.rg.map RG.r).getD k default).pix = _
      rw [List.getD_eq_getElem?_getD, List.getElem?_map, hi.1]; rfl
    have ho : onF o o.rc[k] = onP s (l.take n) k := by
      funext t
      unfold onF onP
      rw [hr.2.1, h.a.hold, h.a.ts]
    unfold talP
    rw [hi.2, hp, ho, h.nt, h.a.cs]
  · rw [List.getElem?_eq_none q, List.getElem?_eq_none (by rw [List.length_range, ← h.a.n]; exact q)]; rfl
theorem PlA.cnum {s : Sp} {l : List EnP} {o : OfM} {n : Nat} (h : PlA s l o n) : ∀ (j : Nat) (c : CsM), o.cs[j]? = some c → c.nm = (j : Int) + 1 ∧ 0 ≤ c.bg := fun j c hc => by
  have ht : ∀ x, x ∈ stP s (l.take n) → x.t ≠ never := fun x hx => by
    have := h.sim.tb x.t (by rw [h.sim.ts]; exact List.mem_map_of_mem hx)
    unfold never; omega
  have hok := csOk_all (H := o.hold) (n := o.rc.length) _ ht
  rw [← h.sim.cs] at hok
  refine ⟨hok.nm j c.p (by rw [List.getElem?_map, hc]; rfl), ?_⟩
  have hb := bg_all (H := o.hold) (n := o.rc.length) (st := stP s (l.take n)) (fun x hx => (h.sim.tb x.t (by rw [h.sim.ts]; exact List.mem_map_of_mem hx)).1) _ (Nat.le_refl _)
  have : c.p ∈ csF o.hold o.rc.length (stP s (l.take n)) := by rw [← h.sim.cs]; exact List.mem_map_of_mem (List.mem_of_getElem? hc)
  exact hb _ this
end Go.Proofs.Ytdjflomhaljljaa

namespace Go.Proofs.Ytdjflomhaljljaa
open Go.SL Go.Proofs Go.Cast
set_option linter.unusedVariables false

def spS : Sp := ⟨gG, rgS, 1000, 500, 600⟩
def zX18 : List Span := zS18.set 10 ⟨9, 9⟩
def exL6 : List EnP := [⟨0, [cC], gZ, [], 0⟩, ⟨300, [cD], gZ, [], 0⟩, ⟨600, [], gZ, [], 0⟩, ⟨901, [], gZ, [], 0⟩, ⟨400, [], gG, zX18, 5⟩, ⟨950, [], gG, zS18, 5⟩]
theorem thrN (pix : List Int) (h : pix = [4, 5, 10, 11] ∨ pix = [0, 6, 12]) : thr (lookL gG [] 1000 500) pix 500 = ⟨0, -1, -1⟩ := by
  rcases h with rfl | rfl
  · exact thr_of (by decide +kernel)
  · exact thr_of (by decide +kernel)
def tN : Thr := ⟨0, -1, -1⟩
def tW : Thr := ⟨1, 0, 6⟩
def tE : Thr := ⟨2, 1000, 10⟩
theorem thsC : thsP spS [cC] = [tN, tW] := by
  show [thr (lookL gG [cC] 1000 500) [4, 5, 10, 11] 500, thr (lookL gG [cC] 1000 500) [0, 6, 12] 500] = _
  rw [thrCE, thrCW]; rfl
theorem thsD : thsP spS [cD] = [tE, tW] := by
  show [thr (lookL gG [cD] 1000 500) [4, 5, 10, 11] 500, thr (lookL gG [cD] 1000 500) [0, 6, 12] 500] = _
  rw [thrDE, thrDW]; rfl
theorem thsN : thsP spS [] = [tN, tN] := by
  show [thr (lookL gG [] 1000 500) [4, 5, 10, 11] 500, thr (lookL gG [] 1000 500) [0, 6, 12] 500] = _
  rw [thrN _ (.inl rfl), thrN _ (.inr rfl)]; rfl
def st6 : List Stp := [⟨0, [tN, tW]⟩, ⟨300, [tE, tW]⟩, ⟨600, [tN, tN]⟩, ⟨901, [tN, tN]⟩]
theorem stP6 (k : Nat) (h : k = 1 ∨ k = 2 ∨ k = 3 ∨ k = 4 ∨ k = 6) : stP spS (exL6.take k) = st6.take k := by
  rcases h with rfl | rfl | rfl | rfl | rfl
  · show [Stp.mk 0 (thsP spS [cC])] = _
    rw [thsC]; rfl
  · show [Stp.mk 0 (thsP spS [cC]), Stp.mk 300 (thsP spS [cD])] = _
    rw [thsC, thsD]; rfl
  · show [Stp.mk 0 (thsP spS [cC]), Stp.mk 300 (thsP spS [cD]), Stp.mk 600 (thsP spS [])] = _
    rw [thsC, thsD, thsN]; rfl
  · show [Stp.mk 0 (thsP spS [cC]), Stp.mk 300 (thsP spS [cD]), Stp.mk 600 (thsP spS []), Stp.mk 901 (thsP spS [])] = _
    rw [thsC, thsD, thsN]; rfl
  · show [Stp.mk 0 (thsP spS [cC]), Stp.mk 300 (thsP spS [cD]), Stp.mk 600 (thsP spS []), Stp.mk 901 (thsP spS [])] = _
    rw [thsC, thsD, thsN]; rfl
/-- The events of the third and fourth steps. -/
theorem ev6_3 : evF 600 2 (st6.take 2) ⟨600, [tN, tN]⟩ = [] := by decide +kernel
theorem ev6_4 : evF 600 2 (st6.take 3) ⟨901, [tN, tN]⟩ = [⟨901, 0, 2, 0, 2, -1, -1⟩, ⟨901, 1, 2, 0, 1, -1, -1⟩] := by kernel_rfl
theorem lv6 : [lvS 600 0 st6, lvS 600 1 st6] = [0, 0] := by decide +kernel
theorem at6 : [atLv [0, 300, 600, 901] (lvL 600 0 st6) 899, atLv [0, 300, 600, 901] (lvL 600 1 st6) 899] = [2, 1] := by decide +kernel
theorem cs6 : csF 600 2 st6 = [⟨1, 1, 0, 901, 1⟩, ⟨2, 0, 300, 901, 2⟩] := by kernel_rfl
def talsQ (st : List Stp) : List Tal := (List.range 2).map fun (k : Nat) => talF (k : Int) (spS.regs.getD k default).pix (fun t => !decide (atLv (tsP exL6) (lvL 600 k st) t = 0)) (csF 600 2 st) (ntP exL6)
theorem tal6q : talsQ st6 = [⟨1, 0, 0, 1, 0, 100, 100⟩, ⟨0, 0, 1, 1, 0, 0, 0⟩] := by kernel_rfl
theorem tal6 : talsP spS exL6 = [⟨1, 0, 0, 1, 0, 100, 100⟩, ⟨0, 0, 1, 1, 0, 0, 0⟩] := by
  have e : stP spS exL6 = st6 := stP6 6 (by decide)
  have z : talsP spS exL6 = talsQ (stP spS exL6) := rfl
  rw [z, e]
  exact tal6q
theorem tV0 : threatV spS 0 [cC] = .tuple #[.int .i64 0, .int .i64 (-1), .int .i64 (-1), .int .i64 0] := by
  have h : threatE spS 0 [cC] = 0 := by decide +kernel
  have h2 : threatT spS 0 [cC] = ⟨0, -1, -1⟩ := by unfold threatT; rw [if_neg (fun q => q h)]; exact thrCE
  unfold threatV; rw [h, h2]
theorem tV1 : threatV spS 0 [cD] = .tuple #[.int .i64 2, .int .i64 1000, .int .i64 10, .int .i64 0] := by
  have h : threatE spS 0 [cD] = 0 := by decide +kernel
  have h2 : threatT spS 0 [cD] = ⟨2, 1000, 10⟩ := by unfold threatT; rw [if_neg (fun q => q h)]; exact thrDE
  unfold threatV; rw [h, h2]
theorem tV2 : threatV spS 1 [cC] = .tuple #[.int .i64 1, .int .i64 0, .int .i64 6, .int .i64 0] := by
  have h : threatE spS 1 [cC] = 0 := by decide +kernel
  have h2 : threatT spS 1 [cC] = ⟨1, 0, 6⟩ := by unfold threatT; rw [if_neg (fun q => q h)]; exact thrCW
  unfold threatV; rw [h, h2]
theorem tV3 : threatV spS 0 [] = .tuple #[.int .i64 0, .int .i64 (-1), .int .i64 (-1), .int .i64 0] := by
  have h : threatE spS 0 [] = 0 := by decide +kernel
  have h2 : threatT spS 0 [] = ⟨0, -1, -1⟩ := by unfold threatT; rw [if_neg (fun q => q h)]; exact thrN _ (.inl rfl)
  unfold threatV; rw [h, h2]
theorem exOk (k : Nat) (x : EnP) (h : exL6[k]? = some x) : enE spS (exL6.take k) x = 0 := by
  have hk : k < 6 := (List.getElem?_eq_some_iff.1 h).1
  match k, hk with
  | 0, _ => cases h; decide +kernel
  | 1, _ => cases h; decide +kernel
  | 2, _ => cases h; decide +kernel
  | 3, _ => cases h; decide +kernel
  | 4, _ => cases h; decide +kernel
  | 5, _ => cases h; decide +kernel
theorem exBd (k : Nat) (x : EnP) (h : exL6[k]? = some x) : x.l.length < 1000000000 ∧ ∀ c, c ∈ x.l → c.sure.length < 1000000000000 ∧ c.may.length < 1000000000000 := by
  have hk : k < 6 := (List.getElem?_eq_some_iff.1 h).1
  have e1 : ∀ c, c ∈ [cC] → c.sure.length < 1000000000000 ∧ c.may.length < 1000000000000 := fun c hc => by rw [List.mem_singleton.1 hc]; exact ⟨show (2 : Nat) < _ by decide, show (3 : Nat) < _ by decide⟩
  have e2 : ∀ c, c ∈ [cD] → c.sure.length < 1000000000000 ∧ c.may.length < 1000000000000 := fun c hc => by rw [List.mem_singleton.1 hc]; exact ⟨show (2 : Nat) < _ by decide, show (3 : Nat) < _ by decide⟩
  match k, hk with
  | 0, _ => cases h; exact ⟨show (1 : Nat) < _ by decide, e1⟩
  | 1, _ => cases h; exact ⟨show (1 : Nat) < _ by decide, e2⟩
  | 2, _ => cases h; exact ⟨show (0 : Nat) < _ by decide, fun c hc => (by cases hc)⟩
  | 3, _ => cases h; exact ⟨show (0 : Nat) < _ by decide, fun c hc => (by cases hc)⟩
  | 4, _ => cases h; exact ⟨show (0 : Nat) < _ by decide, fun c hc => (by cases hc)⟩
  | 5, _ => cases h; exact ⟨show (0 : Nat) < _ by decide, fun c hc => (by cases hc)⟩
section
variable {s : Sp} {l : List EnP} {o : OfM} {n : Nat}
theorem PlA.ats (h : PlA s l o n) (T : Int) : atsL o T = (List.range s.regs.length).map fun k => atLv (tsP (l.take n)) (lvL s.hold k (stP s (l.take n))) T := by
  unfold atsL
  refine List.ext_getElem? fun k => ?_
  rw [List.getElem?_map, List.getElem?_map]
  rcases Nat.lt_or_ge k o.rc.length with q | q
  · rw [List.getElem?_eq_getElem q, List.getElem?_range (by rw [← h.n]; exact q)]
    simp only [Option.map_some]
    rw [(h.sim.rcs k _ (List.getElem?_eq_getElem q)).2.1, h.hold, h.ts]
  · rw [List.getElem?_eq_none q, List.getElem?_eq_none (by rw [List.length_range, ← h.n]; exact q)]; rfl
theorem PlA.levels (h : PlA s l o n) : levelsL o = (List.range s.regs.length).map fun k => lvS s.hold k (stP s (l.take n)) := by
  rw [levels_sim h.sim, h.n, h.hold]
theorem PlA.lvl (h : PlA s l o n) : ∀ r, r ∈ o.rc → r.lv.length = o.ts.length := fun r hr => by
  obtain ⟨q, hq⟩ := List.mem_iff_getElem?.1 hr
  rw [(h.sim.rcs q r hq).2.1, lvL_len, h.sim.ts, List.length_map]
theorem PlA.reg (h : PlA s l o n) : ∀ r, r ∈ o.rc → r.x ∈ o.rg ∧ r.x.r.pix.length < 1000000000000 := fun r hr => ⟨h.sim.wf.reg r hr, h.sim.wf.pix _ (h.sim.wf.reg r hr)⟩
theorem PlA.tsl (h : PlA s l o n) : o.ts.length ≤ n := by
  have h1 := h.sim.wf.ts
  have h2 := h.len
  rw [List.length_take] at h2; omega
theorem PlA.lgl (h : PlA s l o n) : o.lg.length ≤ n := by have h2 := h.len; rw [List.length_take] at h2; omega
theorem PlA.csl (h : PlA s l o n) : o.cs.length ≤ 32 * n := by have h1 := h.sim.wf.cs; have := h.tsl; omega
end
def csC (c : Cs) : List Value := [.int .i64 c.nm, .int .i64 c.rg, .int .i64 c.bg, .int .i64 c.en, .int .i64 c.pk]
theorem cs_C {l : List CsM} : l.map CsM.C = (l.map CsM.p).map csC := by rw [List.map_map]; rfl
theorem pl6_new {l : List RG} {o : OfM} (hl : l.map RG.r = rgS) (hn : NewP gG l 1000 500 600 o) (hp : ∀ x, x ∈ l → x.r.pix.length < 1000000000000) : PlB spS exL6 o 0 := by
  have ha : PlA spS exL6 o 0 := spec_new hn (by rw [hl]; rfl) (by unfold spS; exact specS) hp
  have h7 : o.lg = [] := hn.2.2.2.2.2.2.1
  exact ⟨ha, by rw [h7]; rfl, fun m hm => by rw [h7] at hm; cases hm⟩
end Go.Proofs.Ytdjflomhaljljaa
