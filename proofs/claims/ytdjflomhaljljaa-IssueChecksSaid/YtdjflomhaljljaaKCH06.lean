/-
  What a reading says of the arguments of the laws about offices.
  The levels, events and warnings of offices, in plain words.
  An office answers as the plain words say.
  What is no office is nothing.
  IssueNil is walked.
  Warnings, and levels at a time.
  Drafts are made.
  Clouds by numbers, and beats.
  Drafts make valid services, and clouds by numbers are valid.
  Offices that have made their steps.
  What IssueNumbered rests on, in plain words.
  The steps of a draft, event by event.
  IssueThreats is walked.
  Frames of the laws about drafts.
  Notes, and what is refused.
  Logs.
  Entries are played.
  Logs are played.
  IssueFull is walked.
  Tallies of nothing.
  A new office of the document.
  What an office of the document answers before any step.
  Offices without a step answer alike.
  IssueChecks is walked.
-/
import Derived.Test.YtdjflomhaljljaaKCH05

namespace Go.Proofs.Ytdjflomhaljljaa
open Go.SL Go.Proofs Go.Cast
set_option linter.unusedVariables false


theorem K3 : Try.prog.cellsOf 3 = 1 := by kernel_rfl
theorem K74 : Try.prog.cellsOf 74 = 2 := by kernel_rfl
section
variable {H : Type} {enc : TypeId × Value → H} {W : World}
theorem rd3 : RD enc Try.prog W 3 fun cs => ∃ n, cs = [.int .i64 n] ∧ kb .i64 n := RD.int Try.underlying3
theorem rd9 : RD enc Try.prog W 9 fun cs => ∃ s : ByteArray, cs = [.string s] ∧ s.size ≤ maxLen := RD.string Try.underlying9
theorem rd55 : RD enc Try.prog W 55 fun cs => ∃ (p : Option Addr) (cap : Nat) (l : List Int), cs = [.slice p l.length cap] ∧ l.length ≤ 9223372036854775807 ∧ Ints W p l ∧ ∀ n, n ∈ l → kb .i64 n := RD.ints Try.underlying55 Try.underlying3 K3
theorem rd23 : RD enc Try.prog W 23 fun cs => ∃ g : Grid, cs = [.int .i64 g.x, .int .i64 g.y, .int .i64 g.size, .int .i64 g.wide, .int .i64 g.high] ∧ kb .i64 g.x ∧ kb .i64 g.y ∧ kb .i64 g.size ∧ kb .i64 g.wide ∧ kb .i64 g.high := fun n cs x hx => by
  obtain ⟨css, rfl, hlen, _, hp⟩ := trod_parts Try.underlying23 (zs := [1, 1, 1, 1, 1]) (by kernel_rfl) rfl (by kernel_rfl) hx
  match css, hlen with
  | [c0, c1, c2, c3, c4], _ =>
    obtain ⟨_, _, h0⟩ := hp 0 _ c0 rfl rfl
    obtain ⟨_, _, h1⟩ := hp 1 _ c1 rfl rfl
    obtain ⟨_, _, h2⟩ := hp 2 _ c2 rfl rfl
    obtain ⟨_, _, h3⟩ := hp 3 _ c3 rfl rfl
    obtain ⟨_, _, h4⟩ := hp 4 _ c4 rfl rfl
    obtain ⟨a, rfl, ha⟩ := rd3 _ _ _ h0
    obtain ⟨b, rfl, hb⟩ := rd3 _ _ _ h1
    obtain ⟨c, rfl, hc⟩ := rd3 _ _ _ h2
    obtain ⟨d, rfl, hd⟩ := rd3 _ _ _ h3
    obtain ⟨e, rfl, he⟩ := rd3 _ _ _ h4
    exact ⟨⟨a, b, c, d, e⟩, rfl, ha, hb, hc, hd, he⟩
theorem rd26 : RD enc Try.prog W 26 fun cs => ∃ a b d, cs = [.int .i64 a, .int .i64 b, .int .i64 d] := fun n cs x hx => by
  obtain ⟨css, rfl, hlen, _, hp⟩ := trod_parts Try.underlying26 (zs := [1, 1, 1]) (by kernel_rfl) rfl (by kernel_rfl) hx
  match css, hlen with
  | [c0, c1, c2], _ =>
    obtain ⟨_, _, h0⟩ := hp 0 _ c0 rfl rfl
    obtain ⟨_, _, h1⟩ := hp 1 _ c1 rfl rfl
    obtain ⟨_, _, h2⟩ := hp 2 _ c2 rfl rfl
    obtain ⟨a, rfl, ha⟩ := rd3 _ _ _ h0
    obtain ⟨b, rfl, hb⟩ := rd3 _ _ _ h1
    obtain ⟨c, rfl, hc⟩ := rd3 _ _ _ h2
    exact ⟨a, b, c, rfl⟩
theorem rd74 : RD enc Try.prog W 74 fun cs => ∃ x : RG, cs = x.cells ∧ Ints W x.px x.r.pix := fun n cs x hx => by
  obtain ⟨css, rfl, hlen, _, hp⟩ := trod_parts Try.underlying74 (zs := [1, 1]) (by kernel_rfl) rfl (by kernel_rfl) hx
  match css, hlen with
  | [c0, c1], _ =>
    obtain ⟨_, _, h0⟩ := hp 0 _ c0 rfl rfl
    obtain ⟨_, _, h1⟩ := hp 1 _ c1 rfl rfl
    obtain ⟨s, rfl, _⟩ := rd9 _ _ _ h0
    obtain ⟨p, cp, l, rfl, _, hl, _⟩ := rd55 _ _ _ h1
    exact ⟨⟨⟨s, l⟩, p, cp⟩, rfl, hl⟩
theorem rd24 : RD enc Try.prog W 24 fun cs => ∃ (p : Option Addr) (cap : Nat) (l : List RG), cs = [.slice p l.length cap] ∧ RegsU W p l := fun n cs x hx => by
  obtain ⟨p, cap, rows, rfl, h1, h2, h3⟩ := RD.slice Try.underlying24 K74 (by decide) rd74 _ _ _ hx
  obtain ⟨l, rfl, h5⟩ := rows_map (f := RG.cells) (Q := fun x => Ints W x.px x.r.pix) (fun r hr => by obtain ⟨x, h6, h7⟩ := (h3 r hr).2; exact ⟨x, h6, h7⟩)
  exact ⟨p, cap, l, by simp, h2, h5⟩
theorem rd28 : RD enc Try.prog W 28 fun cs => ∃ (g : Grid) (p : Option Addr) (cap : Nat) (l : List RG) (a b d : Int), cs = [.int .i64 g.x, .int .i64 g.y, .int .i64 g.size, .int .i64 g.wide, .int .i64 g.high, .slice p l.length cap, .int .i64 a, .int .i64 b, .int .i64 d] ∧ RegsU W p l := fun n cs x hx => by
  obtain ⟨css, rfl, hlen, _, hp⟩ := trod_parts Try.underlying28 (zs := [5, 1, 3]) (by kernel_rfl) rfl (by kernel_rfl) hx
  match css, hlen with
  | [c0, c1, c2], _ =>
    obtain ⟨_, _, h0⟩ := hp 0 _ c0 rfl rfl
    obtain ⟨_, _, h1⟩ := hp 1 _ c1 rfl rfl
    obtain ⟨_, _, h2⟩ := hp 2 _ c2 rfl rfl
    obtain ⟨g, rfl, _⟩ := rd23 _ _ _ h0
    obtain ⟨p, cp, l, rfl, hl⟩ := rd24 _ _ _ h1
    obtain ⟨a, b, d, rfl⟩ := rd26 _ _ _ h2
    exact ⟨g, p, cp, l, a, b, d, rfl, hl⟩
end

end Go.Proofs.Ytdjflomhaljljaa

namespace Go.Proofs.Ytdjflomhaljljaa
open Go.SL Go.Proofs Go.Cast
set_option linter.unusedVariables false

/-- A step: its time, and the threats of all regions. -/
structure Stp where
  t : Int
  th : List Thr
def zS : Stp := ⟨0, []⟩
def lastT (st : List Stp) : Int := (st.getD (st.length - 1) zS).t
def histR (k : Nat) (st : List Stp) : List Rch := st.map fun s => ⟨s.t, (s.th.getD k zT).lv⟩
/-- The level of a region behind some steps. -/
def lvS (H : Int) (k : Nat) (st : List Stp) : Int := maxLv (keepR (lastT st) H (histR k st))
def lvL (H : Int) (k : Nat) (st : List Stp) : List Int := (List.range st.length).map fun i => lvS H k (st.take (i + 1))
/-- A warning. -/
structure Cs where
  nm : Int
  rg : Int
  bg : Int
  en : Int
  pk : Int
def never : Int := 1099511627776
def opn (k : Nat) (c : Cs) : Bool := decide (c.rg = (k : Int)) && decide (c.en = never)
def stepC (k : Nat) (b n T : Int) (cs : List Cs) : List Cs :=
  if b = n then cs else if b = 0 then cs ++ [⟨cs.length + 1, k, T, never, n⟩] else cs.map fun c => if opn k c = true then { c with en := if n = 0 then T else c.en, pk := max c.pk n } else c
/-- What a step does to the warnings of the first regions. -/
def runC (H : Int) (st : List Stp) (s : Stp) (cs : List Cs) : Nat → List Cs
  | 0 => cs
  | k + 1 => stepC k (lvS H k st) (lvS H k (st ++ [s])) s.t (runC H st s cs k)
/-- The warnings behind some steps. -/
def csA (H : Int) (n : Nat) (st : List Stp) : Nat → List Cs
  | 0 => []
  | m + 1 => runC H (st.take m) (st.getD m zS) (csA H n st m) n
def csF (H : Int) (n : Nat) (st : List Stp) : List Cs := csA H n st st.length
/-- What holds of the warnings, by the levels of the regions. -/
structure CsOk (n : Nat) (lv : Nat → Int) (cs : List Cs) : Prop where
  nm : ∀ (j : Nat) (c : Cs), cs[j]? = some c → c.nm = j + 1
  rg : ∀ (j : Nat) (c : Cs), cs[j]? = some c → 0 ≤ c.rg ∧ c.rg < n
  op : ∀ (j : Nat) (c : Cs), cs[j]? = some c → c.en = never → lv c.rg.toNat ≠ 0
  one : ∀ (i j : Nat) (c d : Cs), cs[i]? = some c → cs[j]? = some d → c.rg = d.rg → c.en = never → d.en = never → i = j
  has : ∀ k, k < n → lv k ≠ 0 → ∃ (j : Nat) (c : Cs), cs[j]? = some c ∧ c.rg = (k : Int) ∧ c.en = never
  pk : ∀ (j : Nat) (c : Cs), cs[j]? = some c → c.en = never → lv c.rg.toNat ≤ c.pk
end Go.Proofs.Ytdjflomhaljljaa

namespace Go.Proofs.Ytdjflomhaljljaa
open Go.SL Go.Proofs Go.Cast
set_option linter.unusedVariables false

def CsM.p (c : CsM) : Cs := ⟨c.nm, c.rg, c.bg, c.en, c.pk⟩
/-- The open warning of a region. -/
def OpnAt (cs : List CsM) (op : Option Nat) (k : Nat) : Prop := ∃ (j : Nat) (c : CsM), cs[j]? = some c ∧ op = some c.b ∧ c.rg = (k : Int) ∧ c.en = never
/-- An office and the steps that were made in it. -/
structure SimO (o : OfM) (st : List Stp) : Prop where
  wf : WfO o
  ts : o.ts = st.map Stp.t
  inc : o.ts.Pairwise (· < ·)
  tb : ∀ t, t ∈ o.ts → 0 ≤ t ∧ t ≤ 4294967296
  rcs : ∀ (k : Nat) (r : RcM), o.rc[k]? = some r → r.rc = keepR (lastT st) o.hold (histR k st) ∧ r.lv = lvL o.hold k st ∧ (lvS o.hold k st ≠ 0 → OpnAt o.cs r.op k)
  cs : o.cs.map CsM.p = csF o.hold o.rc.length st
theorem SimO.hold {o : OfM} {st : List Stp} (h : SimO o st) : 0 ≤ o.hold ∧ o.hold ≤ 86400 := by
  have := specOk h.wf.spec
  exact this.2.2.2.2.2.2
end Go.Proofs.Ytdjflomhaljljaa

namespace Go.Proofs.Ytdjflomhaljljaa
open Go.SL Go.Proofs Go.Cast
set_option linter.unusedVariables false



/-- No office: a nil pointer, or one to an office that no function made. -/
def NoOff (w : World) (p : Option Addr) : Prop := p = none ∨ ∃ b, p = some ⟨b, 0, none⟩ ∧ Cells w ⟨b, 0, none⟩ [.int .i64 0, .int .i64 0, .int .i64 0, .int .i64 0, .int .i64 0, .slice none 0 0, .int .i64 0, .int .i64 0, .int .i64 0, .slice none 0 0, .slice none 0 0, .slice none 0 0, .slice none 0 0]
theorem NoOff.keep {w0 w : World} {L : List Res} {p : Option Addr} (h : NoOff w0 p) (hw : St (bs w0) L w) : NoOff w p := by
  rcases h with h | ⟨b, h1, h2⟩
  · exact .inl h
  · exact .inr ⟨b, h1, cells_keep h2 w hw⟩

end Go.Proofs.Ytdjflomhaljljaa

namespace Go.Proofs.Ytdjflomhaljljaa
open Go.SL Go.Proofs Go.Cast
set_option linter.unusedVariables false

theorem C28 : IsFn Try.prog 28 := ⟨_, Try.func28, by decide, rfl⟩
theorem C22 : IsFn Try.prog 22 := ⟨_, Try.func22, by decide, rfl⟩
theorem S58 : IsSlice Try.prog 58 64 := Try.underlying58
theorem C41 : IsFn Try.prog 41 := ⟨_, Try.func41, by decide, rfl⟩
theorem S109 : IsSlice Try.prog 109 112 := Try.underlying109
end Go.Proofs.Ytdjflomhaljljaa

namespace Go.Proofs.Ytdjflomhaljljaa
open Go.SL Go.Proofs Go.Cast
set_option linter.unusedVariables false

theorem A64 : IsAgg Try.prog 64 5 := ⟨⟨_, Try.underlying64, rfl⟩, by kernel_rfl⟩
theorem Z64 : ZeroOf Try.prog 64 (.agg #[.int .i64 0, .int .i64 0, .int .i64 0, .int .i64 0, .int .i64 0]) := by unfold ZeroOf; kernel_rfl
theorem N64 : (Try.prog.info? 64).map (·.size) = some 5 := by kernel_rfl
theorem I64 : EInfo Try.prog 64 5 40 (.agg #[.int .i64 0, .int .i64 0, .int .i64 0, .int .i64 0, .int .i64 0]) := ⟨by kernel_rfl, by kernel_rfl, by unfold ZeroOf; kernel_rfl, rfl, by decide⟩
theorem C79 : IsFn Try.prog 79 := ⟨_, Try.func79, by decide, rfl⟩
theorem C59 : IsFn Try.prog 59 := ⟨_, Try.func59, by decide, rfl⟩


theorem case_read {w : World} {o : OfM} (hh : Has w (offR o)) {c : CsM} (hc : c ∈ o.cs) : Cells w ⟨c.b, 0, none⟩ c.C := cells_inv ((St.inv hh 7 _ rfl).1 c.blk (List.mem_map_of_mem hc))
/-- How many of the times are up to a time. -/
def kAt (ts : List Int) (T : Int) : Nat := ts.countP (fun t => decide (t < T)) + (if ts.contains T then 1 else 0)
def atLv (ts lv : List Int) (T : Int) : Int := if kAt ts T = 0 then 0 else lv.getD (kAt ts T - 1) 0
def atsL (o : OfM) (T : Int) : List Int := o.rc.map fun r => atLv o.ts r.lv T
theorem kAt_le {ts : List Int} {T : Int} : kAt ts T ≤ ts.length := by
  unfold kAt
  have h := List.countP_le_length (p := fun t => decide (t < T)) (l := ts)
  split
  · rename_i q
    have : ts.countP (fun t => decide (t < T)) < ts.length := by
      rcases Nat.lt_or_ge (ts.countP (fun t => decide (t < T))) ts.length with q2 | q2
      · exact q2
      · have := List.countP_eq_length.1 (Nat.le_antisymm h q2) T (by simpa using q)
        simp at this
    omega
  · omega
theorem BinarySearch_c (l : List Int) (p : Option Addr) (c : Nat) (T : Int) (w : World) (hn : l.length < 1000000000000) (hl : Ints w p l) (hs : l.Pairwise (· ≤ ·)) :
    Calls Try.prog 79 #[.slice p l.length c, .int .i64 T] w fun e w' => e = .returned (.tuple #[.int .i64 (l.countP (fun t => decide (t < T)) : Nat), .bool (l.contains T)]) ∧ St (bs w) [] w' := by
  cases hq : l with
  | nil => exact (Try.slices_BinarySearch_int_empty p c T w).mono fun e w' h => ⟨h.1, St.of_eq h.2⟩
  | cons a l' =>
    rw [← hq]
    have h0 := Go.SL.Rows.some (n := l.length) hl (by simp)
    have hp := h0 (by rw [hq]; simp)
    rw [hp]
    refine (Try.slices_BinarySearch_int (pb p) (po p) l.length c l T w (Nat.le_refl _) (by omega) (fun j hj => ?_) (by rw [List.take_length]; exact hs)).mono fun e w' h => ?_
    · have h1 := hl.cells j [.int .i64 (l.getD j 0)] (by rw [List.getElem?_map, getD_some (d := (0 : Int)) hj]; rfl) 0 _ rfl
      have e : (⟨pb p, po p + j * 1, none⟩ : Addr).add 0 = ⟨pb p, po p + j, none⟩ := by simp [Addr.add]
      rw [e] at h1
      exact h1
    · rw [List.take_length] at h
      obtain ⟨h1, q, h2⟩ := h
      exact ⟨h1, (St.refl w).same (by rw [h2]; rfl) (by rw [h2]; rfl) (by rw [h2]; rfl) (by rw [h2]; rfl)⟩

set_option maxRecDepth 20000 in
theorem Cases_c (o : OfM) (w : World) (hn : o.rc.length < 1000000) (hp : 0 < o.rc.length) (hcs : o.cs.length < 1000000000) (hh : Has w (offR o)) :
  Calls Try.prog 22 #[ptrN o.b] w fun e w' => ∃ x : Option Addr × Nat, True ∧ e = .returned (.slice x.1 o.cs.length x.2) ∧ St (bs w) [own 64 5 x.1 x.2 (o.cs.map CsM.C)] w' := by
  have hrr : RO 1 csP w o.pk o.cs := RO.of_own hh 6 rfl
  refine enter (vs := [_]) (env := [(0, _)]) Try.func22 rfl rfl rfl rfl ?_
  refine VC.seq ?_
  refine VC.reg (VO.l (LO.as (.r rfl)) rfl <| VO.nil ?_)
  refine VE.seqN ?_
  refine VC.seq ?_
  refine VC.seq ?_
  refine VC.reg (VO.l (LO.mv (.r rfl)) rfl <| VO.l (LO.call (xs := [_]) (vs := [_]) C53 ⟨(.r rfl), trivial⟩ (fun w hw => nothing_c o w (by omega) (off_cells (hh.keep hw)))) rfl <| VO.nil ?_)
  refine VE.seqN ?_
  refine VC.cond rfl (fun h7 => ?_) (fun h7 => ?_)
  ·
    (exfalso; omega)
  ·
    refine VC.skip (VE.seqN ?_)
    refine VC.seq ?_
    refine VC.reg (VO.l (LO.as (.r rfl)) rfl <| VO.nil ?_)
    refine VE.seqN ?_
    refine VC.seq ?_
    refine VC.seq ?_
    refine VC.reg (VO.l (LO.mv (.r rfl)) rfl <| VO.l (LO.nc (.r rfl)) rfl <| VO.l (LO.fa (r := 11) F117_3 (.r rfl) rfl) rfl <| VO.l (LO.ld O114 (.r rfl) (cells_keep (sub_cells (off := 11) (off_cells hh) ⟨_, rfl⟩))) rfl <| VO.l (LO.len S114 (.r rfl) rfl) rfl <| VO.l (LO.mv (.r rfl)) rfl <| VO.nil ?_)
    refine VE.seqN ?_
    refine VC.block ?_
    refine VC.loopK (α := Nat × (List CsM) × (Option Addr) × Nat) 0 (fun gx => [(3, .slice gx.2.2.1 gx.2.1.length gx.2.2.2), (13, .int .i64 (gx.1 : Nat))]) [(11, _), (12, _)] (fun gx => [own 64 5 gx.2.2.1 gx.2.2.2 (gx.2.1.map CsM.C)]) (fun gx => gx.1 ≤ o.cs.length ∧ gx.2.1 = o.cs.take gx.1) (fun gx => o.cs.length - gx.1) (0, [], none, 0) (by exact ⟨Nat.zero_le _, rfl⟩) (.cons rfl (.cons rfl (.cons rfl (.cons rfl .nil)))) (fun _ h => (h.ownNil 64 5)) ?_
    rintro ⟨j, xs, px_, cx_⟩ ⟨hj, hX⟩
    show VC _ _ _ _ _ ([(3, .slice px_ xs.length cx_), (13, .int .i64 (j : Nat))] ++ _) ([own 64 5 px_ cx_ (xs.map CsM.C)] ++ _) _ _
    dsimp only at hj hX
    have hxl : xs.length = j := by rw [hX]; simp; omega
    refine VC.seq ?_
    refine VC.reg (VO.l (LO.lt (.r rfl) (.r rfl)) rfl <| VO.nil ?_)
    refine VE.seqN ?_
    refine VC.seq ?_
    refine VC.cond rfl (fun h14 => ?_) (fun h14 => ?_)
    ·
      obtain ⟨c, hr⟩ : ∃ c, o.cs[j]? = some c := ⟨_, List.getElem?_eq_getElem (by omega)⟩
      have hrm : c ∈ o.cs := List.mem_of_getElem? hr
      refine VC.skip (VE.seqN ?_)
      refine VC.seq ?_
      refine VC.block ?_
      refine VC.seq ?_
      refine VC.reg (VO.l (LO.ixs S114 N150 hrr.sm (.r rfl) (.r rfl) rfl (by omega)) rfl <| VO.l (LO.ld O150 (.r rfl) (fun w hw => cells_part (off := 0) ((fun w2 hw2 => (hrr.keep w2 hw2).cells _ _ (by rw [List.getElem?_map, hr]; rfl)) w hw) ⟨_, rfl⟩)) rfl <| VO.l (LO.as (.r rfl)) rfl <| VO.nil ?_)
      refine VE.seqN ?_
      refine VC.reg (VO.l (LO.mv (.r rfl)) rfl <| VO.l (LO.mv (.r rfl)) rfl <| VO.l (LO.nc (.r rfl)) rfl <| VO.l (LO.lda (vs := [_, _, _, _, _]) A64 (.r rfl) (fun w2 hw2 => case_read (hh.keep hw2) hrm) rfl) rfl <| VO.h rfl <| HO.bs (ps := [(_, _)]) (vs := [(_, _)]) (Z := [_, _, _, _, _]) (C := [_, _, _, _, _]) S58 Z64 N64 ⟨(.r rfl), trivial⟩ rfl rfl rfl rfl ⟨_, [_, _, _, _, _], [_, _, _, _, _], rfl, rfl, rfl, rfl, rfl⟩ fun b2 => VO.h rfl <| HO.appT (c) 1 0 (fun R => [_, R]) S58 S58 I64 (.r rfl) (.r rfl) rfl rfl rfl rfl rfl rfl rfl (fun _ => rfl) rfl (by omega) fun p5 c5 => VO.h rfl <| HO.lo (LO.as (.r rfl)) <| VO.nil ?_)
      refine VE.inN (VE.seqN ?_)
      refine VC.reg (VO.l (LO.add (.r rfl) (.r rfl) (wi (by omega) (by omega))) rfl <| VO.l (LO.mv (.r rfl)) rfl <| VO.nil ?_)
      refine VE.thenN fun a w ha hw => ⟨(j + 1, xs ++ [c], p5, c5), ⟨by dsimp only; omega, by dsimp only; rw [List.take_add_one, hr, hX]; rfl⟩, (by dsimp only; omega), ha.sub (.cons rfl (.cons rfl (.cons rfl (.cons rfl .nil)))), hw.sel [1] rfl⟩
    ·
      refine VC.exit (VE.thenX (VE.thenX (VE.inX (VE.seqN ?_))))
      refine VC.seq ?_
      refine VC.reg (VO.l (LO.mv (.r rfl)) rfl <| VO.l (LO.as (.r rfl)) rfl <| VO.nil ?_)
      refine VE.seqN ?_
      refine VC.ret (VE.res (vs := [_]) rfl ⟨rfl, trivial⟩ (fun w hw => ?_))
      have hx2 : xs = o.cs := by rw [hX, List.take_of_length_le (by omega)]
      rw [← hx2]
      exact ⟨(px_, cx_), trivial, rfl, hw.sel [0] rfl⟩

set_option maxRecDepth 20000 in
theorem at_o (o : OfM) (r : RcM) (T : Int) (w : World) (hr : r ∈ o.rc) (hlv : r.lv.length = o.ts.length) (hn : o.ts.length < 1000000) (hs : o.ts.Pairwise (· ≤ ·)) (hh : Has w (offR o)) :
  Calls Try.prog 59 #[ptrN o.b, ptrN r.b, .int .i64 T] w fun e w' => e = .returned (.int .i64 (atLv o.ts r.lv T)) ∧ St (bs w) [] w' := by
  have hrv := (rec_read hh hr).2.2
  have hk := kAt_le (ts := o.ts) (T := T)
  unfold kAt at hk
  refine enter (vs := [_, _, _]) (env := [(0, _), (1, _), (2, _)]) Try.func59 rfl rfl rfl rfl ?_
  refine VC.seq ?_
  refine VC.reg (VO.l (LO.as (.r rfl)) rfl <| VO.nil ?_)
  refine VE.seqN ?_
  refine VC.seq ?_
  refine VC.reg (VO.l (LO.mv (.r rfl)) rfl <| VO.l (LO.nc (.r rfl)) rfl <| VO.l (LO.fa (r := 10) F117_2 (.r rfl) rfl) rfl <| VO.l (LO.ld O55 (.r rfl) (cells_keep (sub_cells (off := 10) (off_cells hh) ⟨_, rfl⟩))) rfl <| VO.l (LO.mv (.r rfl)) rfl <| VO.l (LO.call (xs := [_, _]) (vs := [_, _]) C79 ⟨(.r rfl), (.r rfl), trivial⟩ (fun w hw => BinarySearch_c o.ts o.pt o.ct T w (by omega) (RO.of_own (hh.keep hw) 5 rfl) hs)) rfl <| VO.l (LO.mv (.r rfl)) rfl <| VO.l (LO.ex (.r rfl) rfl) rfl <| VO.l (LO.ex (.r rfl) rfl) rfl <| VO.l (LO.as (.r rfl)) rfl <| VO.l (LO.as (.r rfl)) rfl <| VO.nil ?_)
  refine VE.seqN ?_
  refine VC.seq ?_
  refine VC.seq ?_
  refine VC.reg (VO.l (LO.mv (.r rfl)) rfl <| VO.nil ?_)
  refine VE.seqN ?_
  refine VC.cond rfl (fun h18 => ?_) (fun h18 => ?_)
  ·
    have hkA : (kAt o.ts T : Int) = (o.ts.countP (fun t => decide (t < T)) : Nat) + 1 := by unfold kAt; rw [if_pos h18]; rfl
    refine VC.reg (VO.l (LO.mv (.r rfl)) rfl <| VO.l (LO.add (.r rfl) (.r rfl) (wi (by omega) (by omega))) rfl <| VO.l (LO.as (.r rfl)) rfl <| VO.nil ?_)
    refine VE.seqN ?_
    refine VC.seq ?_
    refine VC.seq ?_
    refine VC.reg (VO.l (LO.mv (.r rfl)) rfl <| VO.l (LO.eq (.r rfl) (.r rfl)) rfl <| VO.nil ?_)
    refine VE.seqN ?_
    refine VC.cond rfl (fun h22 => ?_) (fun h22 => ?_)
    ·
      refine VC.seq ?_
      refine VC.reg (VO.l (LO.as (.r rfl)) rfl <| VO.nil ?_)
      refine VE.seqN ?_
      refine VC.ret (VE.thenR (VE.res (vs := [_]) rfl ⟨rfl, trivial⟩ (fun w hw => ?_)))
      refine ⟨?_, hw.nil⟩
      simp only [resV]
      congr 2
      unfold atLv
      first | rw [if_pos (by omega)] | rw [if_neg (by omega)]
    ·
      have hk2 := kAt_le (ts := o.ts) (T := T)
      refine VC.skip (VE.seqN ?_)
      refine VC.seq ?_
      refine VC.reg (VO.l (LO.mv (.r rfl)) rfl <| VO.l (LO.nc (.r rfl)) rfl <| VO.l (LO.fa (r := 4) F156_3 (.r rfl) rfl) rfl <| VO.l (LO.ld O55 (.r rfl) (cells_keep (sub_cells (off := 4) (rec_read hh hr).1 ⟨_, rfl⟩))) rfl <| VO.l (LO.mv (.r rfl)) rfl <| VO.l (LO.sub (.r rfl) (.r rfl) (wi (by omega) (by omega))) rfl <| VO.l (LO.ixs S55 N3 hrv.sm (.r rfl) (.r rfl) (by omega) (by omega)) rfl <| VO.l (LO.ld O3 (.r rfl) (fun w hw => cells_part (off := 0) ((hrv.at 0 (j := (kAt o.ts T - 1)) (by omega)) w hw) ⟨_, rfl⟩)) rfl <| VO.l (LO.as (.r rfl)) rfl <| VO.nil ?_)
      refine VE.seqN ?_
      refine VC.ret (VE.res (vs := [_]) rfl ⟨rfl, trivial⟩ (fun w hw => ?_))
      refine ⟨?_, hw.nil⟩
      simp only [resV]
      congr 2
      unfold atLv
      first | rw [if_pos (by omega)] | rw [if_neg (by omega)]
  ·
    have hkA : (kAt o.ts T : Int) = (o.ts.countP (fun t => decide (t < T)) : Nat) := by unfold kAt; rw [if_neg h18]; rfl
    refine VC.skip (VE.seqN ?_)
    refine VC.seq ?_
    refine VC.seq ?_
    refine VC.reg (VO.l (LO.mv (.r rfl)) rfl <| VO.l (LO.eq (.r rfl) (.r rfl)) rfl <| VO.nil ?_)
    refine VE.seqN ?_
    refine VC.cond rfl (fun h22 => ?_) (fun h22 => ?_)
    ·
      refine VC.seq ?_
      refine VC.reg (VO.l (LO.as (.r rfl)) rfl <| VO.nil ?_)
      refine VE.seqN ?_
      refine VC.ret (VE.thenR (VE.res (vs := [_]) rfl ⟨rfl, trivial⟩ (fun w hw => ?_)))
      refine ⟨?_, hw.nil⟩
      simp only [resV]
      congr 2
      unfold atLv
      first | rw [if_pos (by omega)] | rw [if_neg (by omega)]
    ·
      have hk2 := kAt_le (ts := o.ts) (T := T)
      refine VC.skip (VE.seqN ?_)
      refine VC.seq ?_
      refine VC.reg (VO.l (LO.mv (.r rfl)) rfl <| VO.l (LO.nc (.r rfl)) rfl <| VO.l (LO.fa (r := 4) F156_3 (.r rfl) rfl) rfl <| VO.l (LO.ld O55 (.r rfl) (cells_keep (sub_cells (off := 4) (rec_read hh hr).1 ⟨_, rfl⟩))) rfl <| VO.l (LO.mv (.r rfl)) rfl <| VO.l (LO.sub (.r rfl) (.r rfl) (wi (by omega) (by omega))) rfl <| VO.l (LO.ixs S55 N3 hrv.sm (.r rfl) (.r rfl) (by omega) (by omega)) rfl <| VO.l (LO.ld O3 (.r rfl) (fun w hw => cells_part (off := 0) ((hrv.at 0 (j := (kAt o.ts T - 1)) (by omega)) w hw) ⟨_, rfl⟩)) rfl <| VO.l (LO.as (.r rfl)) rfl <| VO.nil ?_)
      refine VE.seqN ?_
      refine VC.ret (VE.res (vs := [_]) rfl ⟨rfl, trivial⟩ (fun w hw => ?_))
      refine ⟨?_, hw.nil⟩
      simp only [resV]
      congr 2
      unfold atLv
      first | rw [if_pos (by omega)] | rw [if_neg (by omega)]

set_option maxRecDepth 20000 in
theorem At_o (o : OfM) (T : Int) (w : World) (hn : o.rc.length < 1000000) (hp : 0 < o.rc.length) (hlv : ∀ r, r ∈ o.rc → r.lv.length = o.ts.length) (ht : o.ts.length < 1000000) (hs : o.ts.Pairwise (· ≤ ·)) (hT1 : 0 ≤ T) (hT2 : T ≤ 4294967296) (hh : Has w (offR o)) :
  Calls Try.prog 28 #[ptrN o.b, .int .i64 T] w fun e w' => ∃ x : Option Addr × Nat, True ∧ e = .returned (.tuple #[.slice x.1 (atsL o T).length x.2, .int .i64 0]) ∧ St (bs w) [own 3 1 x.1 x.2 ((atsL o T).map iC)] w' := by
  have hrr : RO 1 rcP w o.pc o.rc := RO.of_own hh 3 rfl
  refine enter (vs := [_, _]) (env := [(0, _), (1, _)]) Try.func28 rfl rfl rfl rfl ?_
  refine VC.seq ?_
  refine VC.reg (VO.l (LO.as (.r rfl)) rfl <| VO.l (LO.as (.r rfl)) rfl <| VO.nil ?_)
  refine VE.seqN ?_
  refine VC.seq ?_
  refine VC.block ?_
  refine VC.seq ?_
  refine VC.reg (VO.l (LO.mv (.r rfl)) rfl <| VO.l (LO.call (xs := [_]) (vs := [_]) C53 ⟨(.r rfl), trivial⟩ (fun w hw => nothing_c o w (by omega) (off_cells (hh.keep hw)))) rfl <| VO.l (LO.as (.r rfl)) rfl <| VO.nil ?_)
  refine VE.seqN ?_
  refine VC.cond rfl (fun h9 => ?_) (fun h9 => ?_)
  ·
    (exfalso; omega)
  ·
    refine VC.seq ?_
    refine VC.reg (VO.l (LO.mv (.r rfl)) rfl <| VO.l (LO.call (xs := [_, _, _]) (vs := [_, _, _]) C45 ⟨(.r rfl), (.r rfl), (.r rfl), trivial⟩ (fun w _ => iwithin_c _ _ _ w)) rfl <| VO.l (LO.not (.r rfl)) rfl <| VO.l (LO.as (.r rfl)) rfl <| VO.nil ?_)
    refine VE.seqN ?_
    refine VC.cond rfl (fun h12 => ?_) (fun h12 => ?_)
    ·
      (exfalso; omega)
    ·
      refine VC.skip (VE.inN (VE.seqN ?_))
      refine VC.seq ?_
      refine VC.reg (VO.l (LO.as (.r rfl)) rfl <| VO.nil ?_)
      refine VE.seqN ?_
      refine VC.seq ?_
      refine VC.seq ?_
      refine VC.reg (VO.l (LO.mv (.r rfl)) rfl <| VO.l (LO.nc (.r rfl)) rfl <| VO.l (LO.fa (r := 9) F117_1 (.r rfl) rfl) rfl <| VO.l (LO.ld O113 (.r rfl) (cells_keep (sub_cells (off := 9) (off_cells hh) ⟨_, rfl⟩))) rfl <| VO.l (LO.len S113 (.r rfl) rfl) rfl <| VO.l (LO.mv (.r rfl)) rfl <| VO.nil ?_)
      refine VE.seqN ?_
      refine VC.block ?_
      refine VC.loopK (α := Nat × (List Int) × (Option Addr) × Nat) 0 (fun gx => [(6, .slice gx.2.2.1 gx.2.1.length gx.2.2.2), (21, .int .i64 (gx.1 : Nat))]) [(0, _), (1, _), (19, _), (20, _)] (fun gx => [own 3 1 gx.2.2.1 gx.2.2.2 (gx.2.1.map iC)]) (fun gx => gx.1 ≤ o.rc.length ∧ gx.2.1 = (atsL o T).take gx.1) (fun gx => o.rc.length - gx.1) (0, [], none, 0) (by exact ⟨Nat.zero_le _, rfl⟩) (.cons rfl (.cons rfl (.cons rfl (.cons rfl (.cons rfl (.cons rfl .nil)))))) (fun _ h => (h.ownNil 3 1)) ?_
      rintro ⟨j, xs, px_, cx_⟩ ⟨hj, hX⟩
      show VC _ _ _ _ _ ([(6, .slice px_ xs.length cx_), (21, .int .i64 (j : Nat))] ++ _) ([own 3 1 px_ cx_ (xs.map iC)] ++ _) _ _
      dsimp only at hj hX
      have hxl : xs.length = j := by rw [hX]; simp [atsL]; omega
      refine VC.seq ?_
      refine VC.reg (VO.l (LO.lt (.r rfl) (.r rfl)) rfl <| VO.nil ?_)
      refine VE.seqN ?_
      refine VC.seq ?_
      refine VC.cond rfl (fun h22 => ?_) (fun h22 => ?_)
      ·
        obtain ⟨r, hr⟩ : ∃ r, o.rc[j]? = some r := ⟨_, List.getElem?_eq_getElem (by omega)⟩
        have hrm : r ∈ o.rc := List.mem_of_getElem? hr
        refine VC.skip (VE.seqN ?_)
        refine VC.seq ?_
        refine VC.block ?_
        refine VC.seq ?_
        refine VC.reg (VO.l (LO.ixs S113 N151 hrr.sm (.r rfl) (.r rfl) rfl (by omega)) rfl <| VO.l (LO.ld O151 (.r rfl) (fun w hw => cells_part (off := 0) ((fun w2 hw2 => (hrr.keep w2 hw2).cells _ _ (by rw [List.getElem?_map, hr]; rfl)) w hw) ⟨_, rfl⟩)) rfl <| VO.l (LO.as (.r rfl)) rfl <| VO.nil ?_)
        refine VE.seqN ?_
        refine VC.reg (VO.l (LO.mv (.r rfl)) rfl <| VO.l (LO.mv (.r rfl)) rfl <| VO.l (LO.mv (.r rfl)) rfl <| VO.l (LO.mv (.r rfl)) rfl <| VO.l (LO.call (xs := [_, _, _]) (vs := [_, _, _]) C59 ⟨(.r rfl), (.r rfl), (.r rfl), trivial⟩ (fun w hw => at_o o r T w hrm (hlv r hrm) ht hs (hh.keep hw))) rfl <| VO.h rfl <| HO.bs (ps := [(_, _)]) (vs := [(_, _)]) (Z := [_]) (C := [_]) S55 Z3 N3 ⟨(.r rfl), trivial⟩ rfl rfl rfl rfl ⟨_, [_], [_], rfl, rfl, rfl, rfl, rfl⟩ fun b2 => VO.h rfl <| HO.appT ((atLv o.ts r.lv T)) 1 0 (fun R => [_, R]) S55 S55 I3 (.r rfl) (.r rfl) rfl rfl rfl rfl rfl rfl rfl (fun _ => rfl) rfl (by omega) fun p6 c6 => VO.h rfl <| HO.lo (LO.as (.r rfl)) <| VO.nil ?_)
        refine VE.inN (VE.seqN ?_)
        refine VC.reg (VO.l (LO.add (.r rfl) (.r rfl) (wi (by omega) (by omega))) rfl <| VO.l (LO.mv (.r rfl)) rfl <| VO.nil ?_)
        refine VE.thenN fun a w ha hw => ⟨(j + 1, xs ++ [atLv o.ts r.lv T], p6, c6), ⟨by dsimp only; omega, by dsimp only; unfold atsL; rw [List.take_add_one, List.getElem?_map, hr, hX]; rfl⟩, (by dsimp only; omega), ha.sub (.cons rfl (.cons rfl (.cons rfl (.cons rfl (.cons rfl (.cons rfl .nil)))))), hw.sel [1] rfl⟩
      ·
        refine VC.exit (VE.thenX (VE.thenX (VE.inX (VE.seqN ?_))))
        refine VC.seq ?_
        refine VC.reg (VO.l (LO.mv (.r rfl)) rfl <| VO.l (LO.as (.r rfl)) rfl <| VO.l (LO.as (.r rfl)) rfl <| VO.nil ?_)
        refine VE.seqN ?_
        refine VC.ret (VE.res (vs := [_, _]) rfl ⟨rfl, rfl, trivial⟩ (fun w hw => ?_))
        have hx2 : xs = atsL o T := by rw [hX, List.take_of_length_le (by simp [atsL]; omega)]
        rw [← hx2]
        exact ⟨(px_, cx_), trivial, rfl, hw.sel [0] rfl⟩

end Go.Proofs.Ytdjflomhaljljaa

namespace Go.Proofs.Ytdjflomhaljljaa
open Go.SL Go.Proofs Go.Cast
set_option linter.unusedVariables false

abbrev u8V (n : Int) : Value := .int .u8 n
def U8 (n : Int) : Prop := 0 ≤ n ∧ n ≤ 255
def U16 (n : Int) : Prop := 0 ≤ n ∧ n ≤ 65535
def I16 (n : Int) : Prop := -32768 ≤ n ∧ n ≤ 32767
/-- A draft. -/
structure DrM where
  px : List Int
  a : Int
  b : Int
  c : Int
abbrev DrM.cells (d : DrM) : List Value := d.px.map u8V ++ [.int .u16 d.a, .int .u16 d.b, .int .u16 d.c]
def DrM.ok (d : DrM) : Prop := d.px.length = 20 ∧ (∀ n, n ∈ d.px → U8 n) ∧ U16 d.a ∧ U16 d.b ∧ U16 d.c
theorem DrM.at (d : DrM) (h : d.px.length = 20) (k : Nat) (v : Value) (hk : [.int .u16 d.a, .int .u16 d.b, .int .u16 d.c][k]? = some v) : ∃ r, d.cells.toArray.toList.drop (20 + k) = [v] ++ r := by
  show ∃ r, (d.px.map u8V ++ _).drop (20 + k) = _
  have h2 : (d.px.map u8V).length = 20 := by simpa using h
  rw [← h2, List.drop_length_add_append]
  match k with
  | 0 => cases hk; exact ⟨_, rfl⟩
  | 1 => cases hk; exact ⟨_, rfl⟩
  | 2 => cases hk; exact ⟨_, rfl⟩
  | k + 3 => simp at hk
/-- A pixel is in a region. -/
def drIn (d : DrM) (i p : Nat) : Prop := (d.px.getD p 0).fdiv (2 ^ (Min.min (i : Int).toNat 64)) % 2 = 1 ∨ (i : Int) = 0 ∧ (d.px.getD p 0).tmod 8 = 0
instance (d : DrM) (i p : Nat) : Decidable (drIn d i p) := by unfold drIn; infer_instance
end Go.Proofs.Ytdjflomhaljljaa

namespace Go.Proofs.Ytdjflomhaljljaa
open Go.SL Go.Proofs Go.Cast
set_option linter.unusedVariables false

/-- A cloud by numbers. -/
structure ClM where
  px : List Int
  xa : Int
  xb : Int
  ya : Int
  yb : Int
  gr : Int
abbrev ClM.cells (c : ClM) : List Value := c.px.map u8V ++ [.int .i16 c.xa, .int .i16 c.xb, .int .i16 c.ya, .int .i16 c.yb, .int .u8 c.gr]
def ClM.ok (c : ClM) : Prop := c.px.length = 20 ∧ (∀ n, n ∈ c.px → U8 n) ∧ I16 c.xa ∧ I16 c.xb ∧ I16 c.ya ∧ I16 c.yb ∧ U8 c.gr
theorem ClM.len {c : ClM} (h : c.ok) : c.cells.length = 25 := by
  show (c.px.map u8V ++ _).length = 25
  rw [List.length_append, List.length_map, h.1]; rfl
theorem ClM.at (c : ClM) (h : c.px.length = 20) (k : Nat) (vs : List Value) (hk : ∃ r, [.int .i16 c.xa, .int .i16 c.xb, .int .i16 c.ya, .int .i16 c.yb, .int .u8 c.gr].drop k = vs ++ r) : ∃ r, c.cells.toArray.toList.drop (20 + k) = vs ++ r := by
  show ∃ r, (c.px.map u8V ++ _).drop (20 + k) = _
  have h2 : (c.px.map u8V).length = 20 := by simpa using h
  rw [← h2, List.drop_length_add_append]
  exact hk
structure ClsM (w : World) (p : Option Addr) (l : List ClM) : Prop where
  rows : RO 25 ClM.cells w p l
  ok : ∀ c, c ∈ l → c.ok
/-- A beat. -/
structure BtM where
  la : Int
  a : Int
  b : Int
  no : Bool
abbrev BtM.cells (b : BtM) : List Value := [.int .u16 b.la, .int .u8 b.a, .int .u8 b.b, .bool b.no]
def BtM.ok (b : BtM) : Prop := U16 b.la ∧ U8 b.a ∧ U8 b.b
structure BtsM (w : World) (p : Option Addr) (l : List BtM) : Prop where
  rows : RO 4 BtM.cells w p l
  ok : ∀ c, c ∈ l → c.ok
def btIx (n : Nat) (a : Int) : Nat := (a.tmod (n : Int)).toNat
/-- The clouds of a beat. -/
def beatL (b : BtM) (l : List Cloud) : List Cloud := if (l.length : Int) = 0 ∨ b.no = true then [] else [l.getD (btIx l.length b.a) default, l.getD (btIx l.length b.b) default]
end Go.Proofs.Ytdjflomhaljljaa

namespace Go.Proofs.Ytdjflomhaljljaa
open Go.SL Go.Proofs Go.Cast
set_option linter.unusedVariables false

/-- The time of a beat. -/
def tAt (bs : List BtM) : Nat → Int
  | 0 => 0
  | i + 1 => tAt bs i + (1 + (bs.getD i ⟨0, 0, 0, true⟩).la.tmod 500)
/-- The threats of all regions. -/
def thsP (s : Sp) (l : List Cloud) : List Thr := s.regs.map fun r => thr (lookL s.g l s.lead s.step) r.pix s.step
end Go.Proofs.Ytdjflomhaljljaa

namespace Go.Proofs.Ytdjflomhaljljaa
open Go.SL Go.Proofs Go.Cast
set_option linter.unusedVariables false

/-- What stands in a log. -/
inductive Ent where
  | st (t : Int) (l : List Cloud)
  | nt (t : Int) (g : Grid) (vs : List Span) (lv : Int)
def LgM.ent : LgM → Ent
  | .st t _ _ l => .st t (l.map CP.c)
  | .nt t g _ _ vs lv => .nt t g vs lv
def lgB (l : List Cloud) (bs : List BtM) (n : Nat) : List Ent := (List.range n).map fun i => .st (tAt bs (i + 1)) (beatL (bs.getD i ⟨0, 0, 0, true⟩) l)
structure RnY where
  o : OfM
  evs : List (RowA Ev)
  pe : Option Addr
  ce : Nat
  ts : List Int
  pt : Option Addr
  ct : Nat
end Go.Proofs.Ytdjflomhaljljaa

namespace Go.Proofs.Ytdjflomhaljljaa
open Go.SL Go.Proofs Go.Cast
set_option linter.unusedVariables false

/-- What arrays of a law say of levels and open warnings. -/
structure NumI (n : Nat) (lv : Nat → Int) (cs : List Cs) (le nu pe be : List Int) : Prop where
  l1 : le.length = n
  l2 : nu.length = n
  l3 : pe.length = n
  l4 : be.length = n
  le : ∀ j, j < n → le.getD j 0 = lv j
  op : ∀ j, j < n → lv j ≠ 0 → ∃ (i : Nat) (c : Cs), cs[i]? = some c ∧ opn j c = true ∧ nu.getD j 0 = c.nm ∧ pe.getD j 0 = c.pk ∧ be.getD j 0 = c.bg
end Go.Proofs.Ytdjflomhaljljaa

namespace Go.Proofs.Ytdjflomhaljljaa
open Go.SL Go.Proofs Go.Cast
set_option linter.unusedVariables false

/-! ### The steps of a draft -/
section
variable (d : DrM) (lc : List Cloud) (bs : List BtM) (i : Nat)
end
section
variable {d : DrM} {lc : List Cloud} {bs : List BtM} {i : Nat}
end

end Go.Proofs.Ytdjflomhaljljaa

namespace Go.Proofs.Ytdjflomhaljljaa
open Go.SL Go.Proofs Go.Cast
set_option linter.unusedVariables false

theorem C12 : IsFn Try.prog 12 := ⟨_, Try.func12, by decide, rfl⟩
theorem C17 : IsFn Try.prog 17 := ⟨_, Try.func17, by decide, rfl⟩
end Go.Proofs.Ytdjflomhaljljaa

namespace Go.Proofs.Ytdjflomhaljljaa
open Go.SL Go.Proofs Go.Cast
set_option linter.unusedVariables false



theorem BtsM.keep {w0 w : World} {L : List Res} {p : Option Addr} {l : List BtM} (h : BtsM w0 p l) (hw : St (bs w0) L w) : BtsM w p l := ⟨h.rows.keep w hw, h.ok⟩
theorem DrM.len {d : DrM} (h : d.ok) : d.cells.length = 23 := by
  show (d.px.map u8V ++ _).length = 23
  rw [List.length_append, List.length_map, h.1]; rfl

end Go.Proofs.Ytdjflomhaljljaa

namespace Go.Proofs.Ytdjflomhaljljaa
open Go.SL Go.Proofs Go.Cast
set_option linter.unusedVariables false

/-- What a note comes to. -/
def noteE (o : OfM) (T : Int) (f : Field) (lv : Int) : Int := if ¬ (0 ≤ T ∧ T ≤ 4294967296) then 3 else if 256 ≤ o.lg.length then 13 else if fieldE 1073741824 f ≠ 0 then fieldE 1073741824 f else if ¬ ([f.g.x, f.g.y, f.g.size, f.g.wide, f.g.high] = [o.g.x, o.g.y, o.g.size, o.g.wide, o.g.high]) then 11 else if ¬ (1 ≤ lv ∧ lv ≤ 1073741824) then 3 else 0
/-- What a step comes to. -/
def stpE (o : OfM) (T : Int) (l : List Cloud) : Int := if ¬ (0 ≤ T ∧ T ≤ 4294967296) then 3 else if 0 < o.ts.length ∧ T ≤ lastI o.ts then 17 else if 256 ≤ o.lg.length then 13 else lookE o.g l
end Go.Proofs.Ytdjflomhaljljaa

namespace Go.Proofs.Ytdjflomhaljljaa
open Go.SL Go.Proofs Go.Cast
set_option linter.unusedVariables false

/-- An entry. -/
structure EnP where
  t : Int
  l : List Cloud
  g : Grid
  vs : List Span
  lv : Int
/-- An entry in memory. -/
structure EnM where
  t : Int
  l : List CP
  pc : Option Addr
  cc : Nat
  g : Grid
  vs : List Span
  pv : Option Addr
  cv : Nat
  lv : Int
def EnM.p (x : EnM) : EnP := ⟨x.t, x.l.map CP.c, x.g, x.vs, x.lv⟩
def EnM.cells (x : EnM) : List Value := [.int .i64 x.t, .slice x.pc x.l.length x.cc, .int .i64 x.g.x, .int .i64 x.g.y, .int .i64 x.g.size, .int .i64 x.g.wide, .int .i64 x.g.high, .slice x.pv x.vs.length x.cv, .int .i64 x.lv]
def EnM.res (x : EnM) : List Res := [own 80 7 x.pc x.cc (x.l.map CP.cells), bagD (x.l.flatMap cpR), own 76 2 x.pv x.cv (x.vs.map Span.cells)]
def gZ : Grid := ⟨0, 0, 0, 0, 0⟩
def LgM.enp : LgM → EnP
  | .st t _ _ l => ⟨t, l.map CP.c, gZ, [], 0⟩
  | .nt t g _ _ vs lv => ⟨t, [], g, vs, lv⟩
/-- An entry of a log is not too long. -/
def EnP.bd (x : EnP) : Prop := x.l.length < 1000000000 ∧ (∀ c, c ∈ x.l → c.sure.length < 1000000000000 ∧ c.may.length < 1000000000000) ∧ x.vs.length ≤ 4096
def LgOk (o : OfM) : Prop := ∀ x, x ∈ o.lg → (LgM.enp x).bd
end Go.Proofs.Ytdjflomhaljljaa

namespace Go.Proofs.Ytdjflomhaljljaa
open Go.SL Go.Proofs Go.Cast
set_option linter.unusedVariables false



def isSt (x : EnP) : Bool := decide (x.lv = 0)
def stP (s : Sp) (l : List EnP) : List Stp := (l.filter isSt).map fun x => ⟨x.t, thsP s x.l⟩
def tsP (l : List EnP) : List Int := (l.filter isSt).map EnP.t
/-- What an entry comes to behind others. -/
def enE (s : Sp) (pre : List EnP) (x : EnP) : Int :=
  if x.lv = 0 then (if ¬ (0 ≤ x.t ∧ x.t ≤ 4294967296) then 3 else if 0 < (tsP pre).length ∧ x.t ≤ lastI (tsP pre) then 17 else if 256 ≤ pre.length then 13 else lookE s.g x.l)
  else (if ¬ (0 ≤ x.t ∧ x.t ≤ 4294967296) then 3 else if 256 ≤ pre.length then 13 else if fieldE 1073741824 ⟨x.g, x.vs⟩ ≠ 0 then fieldE 1073741824 ⟨x.g, x.vs⟩ else if ¬ ([x.g.x, x.g.y, x.g.size, x.g.wide, x.g.high] = [s.g.x, s.g.y, s.g.size, s.g.wide, s.g.high]) then 11 else if ¬ (1 ≤ x.lv ∧ x.lv ≤ 1073741824) then 3 else 0)
def EnP.canon (x : EnP) : EnP := if x.lv = 0 then ⟨x.t, x.l, gZ, [], 0⟩ else ⟨x.t, [], x.g, x.vs, x.lv⟩
/-- What holds of an office in which entries were played. -/
structure PlA (s : Sp) (l : List EnP) (o : OfM) (n : Nat) : Prop where
  sim : SimO o (stP s (l.take n))
  sp : o.sp = s
  lg : o.lg.map LgM.enp = (l.take n).map EnP.canon
  ok : LgOk o
theorem stP_y {s : Sp} {l : List EnP} {x : EnP} (h : x.lv = 0) : stP s (l ++ [x]) = stP s l ++ [⟨x.t, thsP s x.l⟩] := by
  unfold stP; rw [List.filter_append, List.map_append]; simp [isSt, h]
theorem stP_n {s : Sp} {l : List EnP} {x : EnP} (h : ¬ x.lv = 0) : stP s (l ++ [x]) = stP s l := by
  unfold stP; rw [List.filter_append]; simp [isSt, h]
theorem PlA.ts {s : Sp} {l : List EnP} {o : OfM} {n : Nat} (h : PlA s l o n) : o.ts = tsP (l.take n) := by
  rw [h.sim.ts]; unfold stP tsP; rw [List.map_map]; rfl
theorem PlA.len {s : Sp} {l : List EnP} {o : OfM} {n : Nat} (h : PlA s l o n) : o.lg.length = (l.take n).length := by
  have := congrArg List.length h.lg
  simpa using this
theorem PlA.g {s : Sp} {l : List EnP} {o : OfM} {n : Nat} (h : PlA s l o n) : o.g = s.g := congrArg Sp.g h.sp
theorem PlA.st {s : Sp} {l : List EnP} {o : OfM} {n : Nat} {x : EnP} (h : PlA s l o n) (hx : x.lv = 0) : stpE o x.t x.l = enE s (l.take n) x := by
  unfold stpE enE
  rw [if_pos hx, h.ts, h.len, h.g]
theorem PlA.nt {s : Sp} {l : List EnP} {o : OfM} {n : Nat} {x : EnP} (h : PlA s l o n) (hx : ¬ x.lv = 0) : noteE o x.t ⟨x.g, x.vs⟩ x.lv = enE s (l.take n) x := by
  unfold noteE enE
  rw [if_neg hx, h.len, h.g]
theorem take_en {l : List EnP} {n : Nat} {x : EnP} (hx : l[n]? = some x) : l.take (n + 1) = l.take n ++ [x] := by rw [List.take_add_one, hx]; rfl
theorem note_sim {o : OfM} {st : List Stp} {x : LgM} {p : Option Addr} {c : Nat} (h : SimO o st) : SimO { o with lg := o.lg ++ [x], pl := p, cl := c } st := by
  refine ⟨⟨h.wf.spec, h.wf.len, h.wf.idx, h.wf.pix, h.wf.rcb, h.wf.lvb, h.wf.op, h.wf.cs, ?_⟩, h.ts, h.inc, h.tb, h.rcs, h.cs⟩
  have := h.wf.ts
  show o.ts.length ≤ (o.lg ++ [x]).length
  rw [List.length_append]; simp; omega
theorem PlA.note {s : Sp} {l : List EnP} {o : OfM} {n : Nat} {x : EnP} {p q : Option Addr} {c d : Nat} (h : PlA s l o n) (hx : l[n]? = some x) (hlv : ¬ x.lv = 0) (hb : x.vs.length ≤ 4096) : PlA s l { o with lg := o.lg ++ [LgM.nt x.t x.g p c x.vs x.lv], pl := q, cl := d } (n + 1) := by
  refine ⟨by rw [take_en hx, stP_n hlv]; exact note_sim h.sim, h.sp, ?_, ?_⟩
  · show (o.lg ++ [_]).map LgM.enp = _
    rw [List.map_append, h.lg, take_en hx, List.map_append]
    congr 1
    show [_] = [x.canon]
    unfold EnP.canon
    rw [if_neg hlv]; rfl
  · intro y hy
    rcases List.mem_append.1 hy with z | z
    · exact h.ok y z
    · simp at z; subst z
      exact ⟨by simp [LgM.enp], fun c hc => by simp [LgM.enp] at hc, hb⟩
theorem PlA.step {s : Sp} {l : List EnP} {o : OfM} {n : Nat} {x : EnP} {y : StepY} (h : PlA s l o n) (hx : l[n]? = some x) (hlv : x.lv = 0) (hb : x.l.length < 1000000000 ∧ ∀ c, c ∈ x.l → c.sure.length < 1000000000000 ∧ c.may.length < 1000000000000) (hp : StepP o x.t x.l y) (hs : SimO (y.o o x.t) (stP s (l.take n) ++ [⟨x.t, thsP o.sp x.l⟩])) : PlA s l (y.o o x.t) (n + 1) := by
  obtain ⟨_, p, c, m, e1, e2⟩ := hp
  refine ⟨by rw [take_en hx, stP_y hlv, ← h.sp]; have := hs; rw [h.sp] at this ⊢; exact this, h.sp, ?_, ?_⟩
  · show (o.lg ++ [y.lg]).map LgM.enp = _
    rw [List.map_append, h.lg, take_en hx, List.map_append, e1]
    congr 1
    show [EnP.mk x.t (m.map CP.c) gZ [] 0] = [x.canon]
    unfold EnP.canon
    rw [if_pos hlv, e2]
  · intro z hz
    rcases List.mem_append.1 hz with q | q
    · exact h.ok z q
    · simp at q; subst q
      rw [e1]
      refine ⟨?_, ?_, Nat.zero_le _⟩
      · show (m.map CP.c).length < _; rw [e2]; exact hb.1
      · intro c hc
        exact hb.2 c (by rw [← e2]; exact hc)
/-- A log that is read. -/
structure LogM (w : World) (p : Option Addr) (l : List EnM) : Prop where
  rows : RO 9 EnM.cells w p l
  ok : ∀ x, x ∈ l → Clouds w x.pc x.l ∧ Spans w x.pv x.vs ∧ x.l.length < 1000000000
theorem LogM.keep {w0 w : World} {L : List Res} {p : Option Addr} {l : List EnM} (h : LogM w0 p l) (hw : St (bs w0) L w) : LogM w p l := ⟨h.rows.keep w hw, fun x hx => ⟨(h.ok x hx).1.keep w hw, (h.ok x hx).2.1.keep w hw, (h.ok x hx).2.2⟩⟩
structure PlY where
  o : OfM
  es : List Ev
  pe : Option Addr
  ce : Nat
end Go.Proofs.Ytdjflomhaljljaa

namespace Go.Proofs.Ytdjflomhaljljaa
open Go.SL Go.Proofs Go.Cast
set_option linter.unusedVariables false

end Go.Proofs.Ytdjflomhaljljaa

namespace Go.Proofs.Ytdjflomhaljljaa
open Go.SL Go.Proofs Go.Cast
set_option linter.unusedVariables false

end Go.Proofs.Ytdjflomhaljljaa

namespace Go.Proofs.Ytdjflomhaljljaa
open Go.SL Go.Proofs Go.Cast
set_option linter.unusedVariables false

theorem Z112 : ZeroOf Try.prog 112 (.agg #[.int .i64 0, .int .i64 0, .int .i64 0, .int .i64 0, .int .i64 0, .int .i64 0, .int .i64 0]) := by unfold ZeroOf; kernel_rfl
theorem S185 : IsSlice Try.prog 185 165 := Try.underlying185
theorem A112 : IsAgg Try.prog 112 7 := ⟨⟨_, Try.underlying112, rfl⟩, by kernel_rfl⟩
theorem N112 : (Try.prog.info? 112).map (·.size) = some 7 := by kernel_rfl
theorem C71 : IsFn Try.prog 71 := ⟨_, Try.func71, by decide, rfl⟩
theorem I112 : EInfo Try.prog 112 7 56 (.agg #[.int .i64 0, .int .i64 0, .int .i64 0, .int .i64 0, .int .i64 0, .int .i64 0, .int .i64 0]) := ⟨by kernel_rfl, by kernel_rfl, by unfold ZeroOf; kernel_rfl, rfl, by decide⟩


theorem HO.mkmap {P : Program} {β : Bs} {env : Env} {L : List Res} {K : Value → List Res → Prop} {dd : Option Nat} {ty : TypeId} {pos : String} {aft : Array Edge} {T : Nat} (k : ∀ b, K (.map (some b)) (blk b (.map #[] 0) :: L)) : HO P β env L ⟨dd, .makeMap T none, ty, pos, aft, none⟩ K := by
  intro a w h hw
  refine .inl ⟨_, w.alloc (.map #[] 0), _, _, ?_, .inl rfl, k w.heap.size, hw.alloc _⟩
  simp only [execOp]
  rfl
def tyC (_ : Unit) : List Value := [.int .i64 0, .int .i64 0, .int .i64 0, .int .i64 0, .int .i64 0, .int .i64 0, .int .i64 0]

set_option maxRecDepth 20000 in
theorem score_0 (a b : Value) (w : World) :
  Calls Try.prog 71 #[a, b, .slice none 0 0] w fun e w' => e = .returned (.agg (tyC ()).toArray) ∧ St (bs w) [] w' := by
  refine enter (vs := [_, _, _]) (env := [(0, _), (1, _), (2, _)]) Try.func71 rfl rfl rfl rfl ?_
  refine VC.seq ?_
  refine VC.reg (VO.h rfl <| HO.alloc (C := #[_, _, _, _, _, _, _]) Z112 rfl fun b1 => VO.nil ?_)
  refine VE.seqN ?_
  refine VC.seq ?_
  refine VC.reg (VO.h rfl <| HO.alloc (C := #[_, _, _, _, _, _, _]) Z112 rfl fun b2 => VO.nil ?_)
  refine VE.seqN ?_
  refine VC.seq ?_
  refine VC.reg (VO.h rfl <| HO.mkmap fun b3 => VO.h rfl <| HO.lo (LO.as (.r rfl)) <| VO.nil ?_)
  refine VE.seqN ?_
  refine VC.seq ?_
  refine VC.seq ?_
  refine VC.reg (VO.l (LO.mv (.r rfl)) rfl <| VO.l (LO.len S185 (.r rfl) rfl) rfl <| VO.l (LO.mv (.r rfl)) rfl <| VO.nil ?_)
  refine VE.seqN ?_
  refine VC.block ?_
  refine VC.loopK (α := Nat) 0 (fun gx => [(24, .int .i64 0)]) [(0, _), (1, _), (6, _), (7, _), (8, _), (22, _), (23, _)] (fun gx => []) (fun gx => True) (fun gx => gx) 0 (by exact trivial) (.cons rfl (.cons rfl (.cons rfl (.cons rfl (.cons rfl (.cons rfl (.cons rfl (.cons rfl .nil)))))))) (fun _ h => h) ?_
  rintro u _
  refine VC.seq ?_
  refine VC.reg (VO.l (LO.lt (.r rfl) (.r rfl)) rfl <| VO.nil ?_)
  refine VE.seqN ?_
  refine VC.seq ?_
  refine VC.cond rfl (fun h25 => ?_) (fun h25 => ?_)
  ·
    (exfalso; omega)
  ·
    refine VC.exit (VE.thenX (VE.thenX (VE.inX (VE.seqN ?_))))
    refine VC.seq ?_
    refine VC.reg (VO.l (LO.as (.r rfl)) rfl <| VO.nil ?_)
    refine VE.seqN ?_
    refine VC.seq ?_
    refine VC.seq ?_
    refine VC.reg (VO.l (LO.mv (.r rfl)) rfl <| VO.h rfl <| HO.rangeM Try.underlying208 rfl (fun _ hw => St.inv hw 0 _ rfl) fun b4 => VO.nil ?_)
    refine VE.seqN ?_
    refine VC.block ?_
    refine VC.loopK (α := Nat) 0 (fun gx => [(18, .bool false)]) [(6, _), (7, _), (150, _)] (fun gx => []) (fun gx => True) (fun gx => gx) 0 (by exact trivial) (.cons rfl (.cons rfl (.cons rfl (.cons rfl .nil)))) (fun _ h => h) ?_
    rintro u _
    refine VC.seq ?_
    refine VC.reg (VO.h rfl <| HO.nextM0 0 rfl rfl (fun _ hw => St.inv hw 1 _ rfl) (fun x hx => by simp at hx) (Nat.le_refl _) rfl <| VO.h rfl <| HO.lo (LO.ex (.r rfl) rfl) <| VO.nil ?_)
    refine VE.seqN ?_
    refine VC.seq ?_
    refine VC.cond rfl (fun h152 => ?_) (fun h152 => ?_)
    ·
      (exfalso; cases h152)
    ·
      refine VC.exit (VE.thenX (VE.thenX (VE.inX (VE.seqN ?_))))
      refine VC.seq ?_
      refine VC.reg (VO.l (LO.lda (vs := [_, _, _, _, _, _, _]) A112 (.r rfl) (fun _ hw => cells_at hw 2 rfl ⟨_, rfl⟩) rfl) rfl <| VO.h0 <| HO.st 3 (vs := [_, _, _, _, _, _, _]) (C' := [_, _, _, _, _, _, _]) (L' := [_, _, _, _]) N112 rfl rfl rfl rfl rfl rfl rfl rfl <| VO.nil ?_)
      refine VE.seqN ?_
      refine VC.ret (VE.res (vs := [_]) rfl ⟨RV.agg (vs := [_, _, _, _, _, _, _]) A112 rfl (cells_blk 3 rfl ⟨_, rfl⟩) rfl, trivial⟩ (fun w hw => ?_))
      exact ⟨rfl, hw.nil⟩

set_option maxRecDepth 20000 in
theorem Score_0 (o : OfM) (w : World) (hn : o.rc.length < 1000000) (hp : 0 < o.rc.length) (hlg : o.lg = []) (hh : Has w (offR o)) :
  Calls Try.prog 41 #[ptrN o.b] w fun e w' => ∃ x : Option Addr × Nat, True ∧ e = .returned (.slice x.1 (List.replicate o.rc.length ()).length x.2) ∧ St (bs w) [own 112 7 x.1 x.2 ((List.replicate o.rc.length ()).map tyC)] w' := by
  have hrr : RO 1 rcP w o.pc o.rc := RO.of_own hh 3 rfl
  have hl0 : o.lg.length = 0 := by rw [hlg]; rfl
  refine enter (vs := [_]) (env := [(0, _)]) Try.func41 rfl rfl rfl rfl ?_
  refine VC.seq ?_
  refine VC.reg (VO.l (LO.as (.r rfl)) rfl <| VO.nil ?_)
  refine VE.seqN ?_
  refine VC.seq ?_
  refine VC.seq ?_
  refine VC.reg (VO.l (LO.mv (.r rfl)) rfl <| VO.l (LO.call (xs := [_]) (vs := [_]) C53 ⟨(.r rfl), trivial⟩ (fun w hw => nothing_c o w (by omega) (off_cells (hh.keep hw)))) rfl <| VO.nil ?_)
  refine VE.seqN ?_
  refine VC.cond rfl (fun h12 => ?_) (fun h12 => ?_)
  ·
    (exfalso; omega)
  ·
    refine VC.skip (VE.seqN ?_)
    refine VC.seq ?_
    refine VC.reg (VO.l (LO.as (.r rfl)) rfl <| VO.nil ?_)
    refine VE.seqN ?_
    refine VC.seq ?_
    refine VC.seq ?_
    refine VC.reg (VO.l (LO.mv (.r rfl)) rfl <| VO.l (LO.nc (.r rfl)) rfl <| VO.l (LO.fa (r := 12) F117_4 (.r rfl) rfl) rfl <| VO.l (LO.ld O115 (.r rfl) (cells_keep (sub_cells (off := 12) (off_cells hh) ⟨_, rfl⟩))) rfl <| VO.l (LO.len S115 (.r rfl) rfl) rfl <| VO.l (LO.mv (.r rfl)) rfl <| VO.nil ?_)
    refine VE.seqN ?_
    refine VC.block ?_
    refine VC.loopK (α := Nat) 0 (fun gx => [(3, .slice none 0 0), (18, .int .i64 0)]) [(0, _), (16, _), (17, _)] (fun gx => []) (fun gx => True) (fun gx => gx) 0 (by exact trivial) (.cons rfl (.cons rfl (.cons rfl (.cons rfl (.cons rfl .nil))))) (fun _ h => h) ?_
    rintro u _
    refine VC.seq ?_
    refine VC.reg (VO.l (LO.lt (.r rfl) (.r rfl)) rfl <| VO.nil ?_)
    refine VE.seqN ?_
    refine VC.seq ?_
    refine VC.cond rfl (fun h19 => ?_) (fun h19 => ?_)
    ·
      (exfalso; omega)
    ·
      refine VC.exit (VE.thenX (VE.thenX (VE.inX (VE.seqN ?_))))
      refine VC.seq ?_
      refine VC.reg (VO.l (LO.as (.r rfl)) rfl <| VO.nil ?_)
      refine VE.seqN ?_
      refine VC.seq ?_
      refine VC.seq ?_
      refine VC.reg (VO.l (LO.mv (.r rfl)) rfl <| VO.l (LO.nc (.r rfl)) rfl <| VO.l (LO.fa (r := 9) F117_1 (.r rfl) rfl) rfl <| VO.l (LO.ld O113 (.r rfl) (cells_keep (sub_cells (off := 9) (off_cells hh) ⟨_, rfl⟩))) rfl <| VO.l (LO.len S113 (.r rfl) rfl) rfl <| VO.l (LO.mv (.r rfl)) rfl <| VO.nil ?_)
      refine VE.seqN ?_
      refine VC.block ?_
      refine VC.loopK (α := Nat × (List Unit) × (Option Addr) × Nat) 0 (fun gx => [(8, .slice gx.2.2.1 gx.2.1.length gx.2.2.2), (38, .int .i64 (gx.1 : Nat))]) [(0, _), (3, _), (36, _), (37, _)] (fun gx => [own 112 7 gx.2.2.1 gx.2.2.2 (gx.2.1.map tyC)]) (fun gx => gx.1 ≤ o.rc.length ∧ gx.2.1 = List.replicate gx.1 ()) (fun gx => o.rc.length - gx.1) (0, [], none, 0) (by exact ⟨Nat.zero_le _, rfl⟩) (.cons rfl (.cons rfl (.cons rfl (.cons rfl (.cons rfl (.cons rfl .nil)))))) (fun _ h => (h.ownNil 112 7)) ?_
      rintro ⟨j, xs, px_, cx_⟩ ⟨hj, hX⟩
      show VC _ _ _ _ _ ([(8, .slice px_ xs.length cx_), (38, .int .i64 (j : Nat))] ++ _) ([own 112 7 px_ cx_ (xs.map tyC)] ++ _) _ _
      dsimp only at hj hX
      have hxl : xs.length = j := by rw [hX]; simp
      refine VC.seq ?_
      refine VC.reg (VO.l (LO.lt (.r rfl) (.r rfl)) rfl <| VO.nil ?_)
      refine VE.seqN ?_
      refine VC.seq ?_
      refine VC.cond rfl (fun h39 => ?_) (fun h39 => ?_)
      ·
        obtain ⟨r, hr⟩ : ∃ r, o.rc[j]? = some r := ⟨_, List.getElem?_eq_getElem (by omega)⟩
        have hrm : r ∈ o.rc := List.mem_of_getElem? hr
        refine VC.skip (VE.seqN ?_)
        refine VC.seq ?_
        refine VC.block ?_
        refine VC.seq ?_
        refine VC.reg (VO.l (LO.ixs S113 N151 hrr.sm (.r rfl) (.r rfl) rfl (by omega)) rfl <| VO.l (LO.ld O151 (.r rfl) (fun w hw => cells_part (off := 0) ((fun w2 hw2 => (hrr.keep w2 hw2).cells _ _ (by rw [List.getElem?_map, hr]; rfl)) w hw) ⟨_, rfl⟩)) rfl <| VO.l (LO.as (.r rfl)) rfl <| VO.nil ?_)
        refine VE.seqN ?_
        refine VC.reg (VO.l (LO.mv (.r rfl)) rfl <| VO.l (LO.mv (.r rfl)) rfl <| VO.l (LO.mv (.r rfl)) rfl <| VO.l (LO.mv (.r rfl)) rfl <| VO.l (LO.call (xs := [_, _, _]) (vs := [_, _, _]) C71 ⟨(.r rfl), (.r rfl), (.r rfl), trivial⟩ (fun w hw => score_0 _ _ w)) rfl <| VO.h rfl <| HO.bs (ps := [(_, _)]) (vs := [(_, _)]) (Z := [_, _, _, _, _, _, _]) (C := [_, _, _, _, _, _, _]) S109 Z112 N112 ⟨(.r rfl), trivial⟩ rfl rfl rfl rfl ⟨_, [_, _, _, _, _, _, _], [_, _, _, _, _, _, _], rfl, rfl, rfl, rfl, rfl⟩ fun b2 => VO.h rfl <| HO.appT (()) 1 0 (fun R => [_, R]) S109 S109 I112 (.r rfl) (.r rfl) rfl rfl rfl rfl rfl rfl rfl (fun _ => rfl) rfl (by omega) fun p6 c6 => VO.h rfl <| HO.lo (LO.as (.r rfl)) <| VO.nil ?_)
        refine VE.inN (VE.seqN ?_)
        refine VC.reg (VO.l (LO.add (.r rfl) (.r rfl) (wi (by omega) (by omega))) rfl <| VO.l (LO.mv (.r rfl)) rfl <| VO.nil ?_)
        refine VE.thenN fun a w ha hw => ⟨(j + 1, xs ++ [()], p6, c6), ⟨by dsimp only; omega, by dsimp only; rw [List.replicate_succ', hX]⟩, (by dsimp only; omega), ha.sub (.cons rfl (.cons rfl (.cons rfl (.cons rfl (.cons rfl (.cons rfl .nil)))))), hw.sel [1] rfl⟩
      ·
        refine VC.exit (VE.thenX (VE.thenX (VE.inX (VE.seqN ?_))))
        refine VC.seq ?_
        refine VC.reg (VO.l (LO.mv (.r rfl)) rfl <| VO.l (LO.as (.r rfl)) rfl <| VO.nil ?_)
        refine VE.seqN ?_
        refine VC.ret (VE.res (vs := [_]) rfl ⟨rfl, trivial⟩ (fun w hw => ?_))
        have hx2 : xs = List.replicate o.rc.length () := by rw [hX]; congr 1; omega
        rw [← hx2]
        exact ⟨(px_, cx_), trivial, rfl, hw.sel [0] rfl⟩

end Go.Proofs.Ytdjflomhaljljaa

namespace Go.Proofs.Ytdjflomhaljljaa
open Go.SL Go.Proofs Go.Cast
set_option linter.unusedVariables false

theorem A38 : IsAgg Try.prog 38 3 := ⟨⟨_, Try.underlying38, rfl⟩, by kernel_rfl⟩
theorem B178 : Builds Try.prog 178 [(0, 9), (9, 1), (10, 1), (11, 1)] [.int .i64 0, .int .i64 0, .int .i64 0, .int .i64 0, .int .i64 0, .slice none 0 0, .int .i64 0, .int .i64 0, .int .i64 0, .slice none 0 0, .slice none 0 0, .slice none 0 0] := Builds.mk fun _ => by kernel_rfl


/-- What lies where an office of the document begins, before any step. -/
abbrev rfC (g : Grid) (p : Option Addr) (n c : Nat) (a b d : Int) : List Value := [.int .i64 g.x, .int .i64 g.y, .int .i64 g.size, .int .i64 g.wide, .int .i64 g.high, .slice p n c, .int .i64 a, .int .i64 b, .int .i64 d, .slice none 0 0, .slice none 0 0, .slice none 0 0]

set_option maxRecDepth 20000 in
theorem rNew_e (g : Grid) (l : List RG) (pl : Option Addr) (cl : Nat) (a b d : Int) (w : World) (hll : l.length < 1000000000000) (hl : Regs w pl l) (hs : ¬ specE ⟨g, l.map RG.r, a, b, d⟩ = 0) :
  Calls Try.prog 35 #[specV g pl l.length cl a b d] w fun e w' => e = .returned (.tuple #[.pointer none, .int .i64 (specE ⟨g, l.map RG.r, a, b, d⟩)]) ∧ St (bs w) [] w' := by
  refine enter (vs := [_]) (env := [(0, _)]) Try.func35 rfl rfl rfl rfl ?_
  refine VC.seq ?_
  refine VC.reg (VO.h rfl <| HO.box (C := #[_, _, _, _, _, _, _, _, _]) rfl rfl fun b1 => VO.l (LO.as (.r rfl)) rfl <| VO.l (LO.as (.r rfl)) rfl <| VO.nil ?_)
  refine VE.seqN ?_
  refine VC.seq ?_
  refine VC.reg (VO.l (LO.lda (vs := [_, _, _, _, _, _, _, _, _]) A40 (.r rfl) (fun _ hw => cells_at hw 0 rfl ⟨_, rfl⟩) rfl) rfl <| VO.l (LO.call (xs := [_]) (vs := [_]) C36 ⟨(.r rfl), trivial⟩ (fun w hw => rCheck_c g l pl cl a b d w hll (hl.keep hw))) rfl <| VO.l (LO.as (.r rfl)) rfl <| VO.nil ?_)
  refine VE.seqN ?_
  refine VC.seq ?_
  refine VC.seq ?_
  refine VC.reg (VO.l (LO.mv (.r rfl)) rfl <| VO.l (LO.ne (.r rfl) (.r rfl)) rfl <| VO.nil ?_)
  refine VE.seqN ?_
  refine VC.cond rfl (fun h10 => ?_) (fun h10 => ?_)
  ·
    refine VC.seq ?_
    refine VC.reg (VO.l (LO.mv (.r rfl)) rfl <| VO.l (LO.as (.r rfl)) rfl <| VO.l (LO.as (.r rfl)) rfl <| VO.nil ?_)
    refine VE.seqN ?_
    refine VC.ret (VE.thenR (VE.res (vs := [_, _]) rfl ⟨rfl, rfl, trivial⟩ (fun w hw => ?_)))
    exact ⟨rfl, hw.nil⟩
  ·
    (exfalso; exact h10 hs)

set_option maxRecDepth 20000 in
theorem rNew_c (g : Grid) (l : List RG) (pl : Option Addr) (cl : Nat) (a b d : Int) (w : World) (hll : l.length < 1000000000000) (hl : Regs w pl l) (hs : specE ⟨g, l.map RG.r, a, b, d⟩ = 0) :
  Calls Try.prog 35 #[specV g pl l.length cl a b d] w fun e w' => ∃ y : Nat × List RG × Option Addr × Nat, y.2.1.map RG.r = l.map RG.r ∧ e = .returned (.tuple #[ptrN y.1, .int .i64 0]) ∧ St (bs w) [blk y.1 (.cells (rfC g y.2.2.1 y.2.1.length y.2.2.2 a b d).toArray 178), own 138 2 y.2.2.1 y.2.2.2 (y.2.1.map RG.cells), bagD (y.2.1.map pixR)] w' := by
  have hok := specOk hs
  obtain ⟨hgo, hN1, hN2, hpx, hru⟩ := hok
  dsimp only at hN1
  rw [List.length_map] at hN1
  refine enter (vs := [_]) (env := [(0, _)]) Try.func35 rfl rfl rfl rfl ?_
  refine VC.seq ?_
  refine VC.reg (VO.h rfl <| HO.box (C := #[_, _, _, _, _, _, _, _, _]) rfl rfl fun b1 => VO.l (LO.as (.r rfl)) rfl <| VO.l (LO.as (.r rfl)) rfl <| VO.nil ?_)
  refine VE.seqN ?_
  refine VC.seq ?_
  refine VC.reg (VO.l (LO.lda (vs := [_, _, _, _, _, _, _, _, _]) A40 (.r rfl) (fun _ hw => cells_at hw 0 rfl ⟨_, rfl⟩) rfl) rfl <| VO.l (LO.call (xs := [_]) (vs := [_]) C36 ⟨(.r rfl), trivial⟩ (fun w hw => rCheck_c g l pl cl a b d w hll (hl.keep hw))) rfl <| VO.l (LO.as (.r rfl)) rfl <| VO.nil ?_)
  refine VE.seqN ?_
  refine VC.seq ?_
  refine VC.seq ?_
  refine VC.reg (VO.l (LO.mv (.r rfl)) rfl <| VO.l (LO.ne (.r rfl) (.r rfl)) rfl <| VO.nil ?_)
  refine VE.seqN ?_
  refine VC.cond rfl (fun h10 => ?_) (fun h10 => ?_)
  ·
    (exfalso; exact h10 hs)
  ·
    refine VC.skip (VE.seqN ?_)
    refine VC.seq ?_
    refine VC.reg (VO.l (LO.fa (r := 0) F40_0 (.r rfl) rfl) rfl <| VO.l (LO.lda (vs := [_, _, _, _, _]) A23 (.r rfl) (fun _ hw => cells_at hw 0 rfl ⟨_, rfl⟩) rfl) rfl <| VO.l (LO.fa (r := 6) F40_2 (.r rfl) rfl) rfl <| VO.l (LO.lda (vs := [_, _, _]) A38 (.r rfl) (fun _ hw => cells_at hw 0 rfl ⟨_, rfl⟩) rfl) rfl <| VO.l (LO.bd (ps := [(_, _), (_, _)]) (vs := [(_, _), (_, _)]) (C := [_, _, _, _, _, _, _, _, _]) B40  ⟨(.r rfl), (.r rfl), trivial⟩ rfl ⟨_, [_, _, _, _, _], [_, _, _, _, _, _, _, _, _], rfl, rfl, rfl, rfl, ⟨_, [_, _, _], [_, _, _, _, _, _, _, _, _], rfl, rfl, rfl, rfl, rfl⟩⟩) rfl <| VO.h rfl <| HO.alloc (C := #[_, _, _, _, _, _, _, _, _]) Z40 rfl fun b2 => VO.h0 <| HO.st 0 (vs := [_, _, _, _, _, _, _, _, _]) (C' := [_, _, _, _, _, _, _, _, _]) (L' := [_, _]) N40 rfl rfl rfl rfl rfl rfl rfl rfl <| VO.nil ?_)
    refine VE.seqN ?_
    refine VC.seq ?_
    refine VC.seq ?_
    refine VC.reg (VO.l (LO.as (.r rfl)) rfl <| VO.nil ?_)
    refine VE.seqN ?_
    refine VC.block ?_
    refine VC.loopK (α := Nat × (List RG) × (Option Addr) × Nat) 1 (fun gx => [(6, .int .i64 (gx.1 : Nat))]) [(1, _), (5, _)] (fun gx => [blk b2 (.cells #[.int .i64 g.x, .int .i64 g.y, .int .i64 g.size, .int .i64 g.wide, .int .i64 g.high, .slice gx.2.2.1 gx.2.1.length gx.2.2.2, .int .i64 a, .int .i64 b, .int .i64 d] 40), own 138 2 gx.2.2.1 gx.2.2.2 (gx.2.1.map RG.cells), bagD (gx.2.1.map pixR)]) (fun gx => gx.1 ≤ l.length ∧ gx.2.1.map RG.r = (l.map RG.r).take gx.1) (fun gx => l.length - gx.1) (0, [], none, 0) (by exact ⟨Nat.zero_le _, rfl⟩) (.cons rfl (.cons rfl (.cons rfl .nil))) (fun _ h => (((St.bagD (Rs := []) h).ownNil 138 2)).sel [2, 0, 1, 3] rfl) ?_
    rintro ⟨i, rgs, pg_, cg_⟩ ⟨hi, hX⟩
    show VC _ _ _ _ _ ([(6, .int .i64 (i : Nat))] ++ _) ([blk b2 (.cells #[.int .i64 g.x, .int .i64 g.y, .int .i64 g.size, .int .i64 g.wide, .int .i64 g.high, .slice pg_ rgs.length cg_, .int .i64 a, .int .i64 b, .int .i64 d] 40), own 138 2 pg_ cg_ (rgs.map RG.cells), bagD (rgs.map pixR)] ++ _) _ _
    dsimp only at hi hX
    have hgl : rgs.length = i := by rw [← List.length_map (f := RG.r), hX]; simp; omega
    refine VC.seq ?_
    refine VC.seq ?_
    refine VC.reg (VO.l (LO.mv (.r rfl)) rfl <| VO.l (LO.fa (r := 5) F40_1 (.r rfl) rfl) rfl <| VO.l (LO.ld O37 (.r rfl) (fun _ hw => cells_at hw 3 rfl ⟨_, rfl⟩)) rfl <| VO.l (LO.len S37 (.r rfl) rfl) rfl <| VO.l (LO.lt (.r rfl) (.r rfl)) rfl <| VO.nil ?_)
    refine VE.seqN ?_
    refine VC.cond rfl (fun h21 => ?_) (fun h21 => ?_)
    ·
      obtain ⟨x, hx⟩ : ∃ x, l[i]? = some x := ⟨_, List.getElem?_eq_getElem (by omega)⟩
      have hxo := hl.ok x (List.mem_of_getElem? hx)
      refine VC.skip (VE.seqN ?_)
      refine VC.seq ?_
      refine VC.block ?_
      refine VC.drawH [[0, 1, 2, 3], [0, 1, 2, 3], [0, 1, 2, 3], [0, 1, 2, 3], [0, 1, 2, 3], [0, 2, 3], [2, 3]] [some 4, some 4, some 2, some 2, some 2, some 2, some 2, some 2, none, some 1, some 1, some 1, some 1, some 1, some 1, none, none, none, none, some 5, none] mixed (by kernel_rfl) rfl (LX.l (fun _ hJ => LO.fa (r := 5) F40_1 (.r rfl) rfl) rfl <| LX.l (fun _ hJ => LO.ld O37 (.r rfl) (fun _ hw => cells_at (hJ _ hw) 0 rfl ⟨_, rfl⟩)) rfl <| LX.l (fun _ hJ => LO.fa (r := 5) F40_1 (.r rfl) rfl) rfl <| LX.l (fun _ hJ => LO.ld O37 (.r rfl) (fun _ hw => cells_at (hJ _ hw) 3 rfl ⟨_, rfl⟩)) rfl <| LX.l (fun _ hJ => LO.mv (.r rfl)) rfl <| LX.l (fun _ hJ => LO.ixs S37 N138 hl.sm (.r rfl) (.r rfl) rfl (by omega)) rfl <| LX.l (fun _ hJ => LO.fa F138_0 (.r rfl) rfl) rfl <| LX.l (fun _ hJ => LO.ld O9 (.r rfl) (fun w hw => cells_part (off := 0) ((hl.at hx) w (hJ _ hw)) ⟨_, rfl⟩)) rfl <| LX.s <| LX.l (fun _ hJ => LO.fa (r := 5) F40_1 (.r rfl) rfl) rfl <| LX.l (fun _ hJ => LO.ld O37 (.r rfl) (fun _ hw => cells_at (hJ _ hw) 3 rfl ⟨_, rfl⟩)) rfl <| LX.l (fun _ hJ => LO.mv (.r rfl)) rfl <| LX.l (fun _ hJ => LO.ixs S37 N138 hl.sm (.r rfl) (.r rfl) rfl (by omega)) rfl <| LX.l (fun _ hJ => LO.fa F138_1 (.r rfl) rfl) rfl <| LX.l (fun _ hJ => LO.ld O55 (.r rfl) (fun w hw => cells_part (off := 1) ((hl.at hx) w (hJ _ hw)) ⟨_, rfl⟩)) rfl <| LX.s <| LX.s <| LX.s <| LX.s <| LX.l (fun _ hJ => LO.fa (r := 5) F40_1 (.r rfl) rfl) rfl <| LX.s <| LX.nil) (HX.s <| HX.s <| HX.s <| HX.s <| HX.s <| HX.s <| HX.s <| HX.s <| HX.h rfl <| HO.bs0 S55 N3 fun b10 => ⟨fun _ hw => hw.sel [1, 2, 3, 4] rfl, HX.s <| HX.s <| HX.s <| HX.s <| HX.s <| HX.s <| HX.h rfl <| HO.appN0 (f := iC) (m := x.r.pix) 0 (fun R => [R, _, _, _, _]) S55 S55 I3 (.r rfl) (.r rfl) rfl (fun w hw => hxo.1.keep w hw) (fun _ => rfl) (fun _ => rfl) rfl rfl (fun _ => rfl) rfl (by omega) fun p15 c15 _ => ⟨fun _ hw => hw.sel [1, 2, 3, 4] rfl, HX.h rfl <| HO.lo (LO.bd (ps := [(_, _), (_, _)]) (vs := [(_, _), (_, _)]) (C := [_, _]) B138  ⟨(.r rfl), (.r rfl), trivial⟩ rfl ⟨_, [_], [_, _], rfl, rfl, rfl, rfl, ⟨_, [_], [_, _], rfl, rfl, rfl, rfl, rfl⟩⟩) <| ⟨fun _ hw => hw.sel [1, 2, 3, 4] rfl, HX.h rfl <| HO.bs (ps := [(_, _)]) (vs := [(_, _)]) (Z := [_, _]) (C := [_, _]) S37 Z138 N138 ⟨(.r rfl), trivial⟩ rfl rfl rfl rfl ⟨_, [_, _], [_, _], rfl, rfl, rfl, rfl, rfl⟩ fun b11 => ⟨fun _ hw => hw.sel [2, 3, 4, 5] rfl, HX.h rfl <| HO.appT ((RG.mk x.r p15 c15)) 3 0 (fun R => [_, _, _, R, _, _]) S37 S37 I138 (.r rfl) (.r rfl) rfl rfl rfl rfl rfl rfl rfl (fun _ => rfl) rfl (by omega) fun p18 c18 => ⟨fun _ hw => hw.sel [2, 4, 5] rfl, HX.s <| HX.h0 <| HO.st 2 (vs := [_]) (C' := [_, _, _, _, _, _, _, _, _]) (L' := [_, _, _, _, _, _]) N37 rfl rfl rfl rfl rfl rfl rfl rfl <| ⟨fun _ hw => hw.sel [4, 5] rfl, HX.nil ?_⟩⟩⟩⟩⟩⟩)
      refine VE.inN (VE.seqN ?_)
      refine VC.reg (VO.l (LO.mv (.r rfl)) rfl <| VO.l (LO.add (.r rfl) (.r rfl) (wi (by omega) (by omega))) rfl <| VO.l (LO.as (.r rfl)) rfl <| VO.nil ?_)
      refine VE.thenN fun a w ha hw => ⟨(i + 1, rgs ++ [RG.mk x.r p15 c15], p18, c18), ⟨by dsimp only; omega, by dsimp only; rw [List.map_append, hX, List.take_add_one, List.getElem?_map, hx]; rfl⟩, (by dsimp only; omega), ha.sub (.cons rfl (.cons rfl (.cons rfl .nil))), (by exact (St.bagPx (x := RG.mk x.r p15 c15) (selK (L1 := [_, _, _, _, _]) [1, 4, 2, 3, 5] rfl rfl _ hw)).sel [1, 2, 0, 3] rfl)⟩
    ·
      refine VC.exit (VE.thenX (VE.thenX (VE.inX (VE.seqN ?_))))
      refine VC.seq ?_
      refine VC.reg (VO.l (LO.lda (vs := [_, _, _, _, _, _, _, _, _]) A40 (.r rfl) (fun _ hw => cells_at hw 0 rfl ⟨_, rfl⟩) rfl) rfl <| VO.l (LO.bd (ps := [(_, _)]) (vs := [(_, _)]) (C := [_, _, _, _, _, _, _, _, _, _, _, _]) B178  ⟨(.r rfl), trivial⟩ rfl ⟨_, [_, _, _, _, _, _, _, _, _], [_, _, _, _, _, _, _, _, _, _, _, _], rfl, rfl, rfl, rfl, rfl⟩) rfl <| VO.h rfl <| HO.box (C := #[_, _, _, _, _, _, _, _, _, _, _, _]) rfl rfl fun b13 => VO.h rfl <| HO.lo (LO.as (.r rfl)) <| VO.l (LO.as (.r rfl)) rfl <| VO.nil ?_)
      refine VE.seqN ?_
      refine VC.ret (VE.res (vs := [_, _]) rfl ⟨rfl, rfl, trivial⟩ (fun w hw => ?_))
      have hg2 : rgs.length = l.length := by omega
      exact ⟨(b13, rgs, pg_, cg_), by rw [hX, show i = l.length by omega, List.take_of_length_le (by simp)], rfl, selK (L1 := [_, _, _]) [0, 2, 3] rfl rfl _ hw⟩

end Go.Proofs.Ytdjflomhaljljaa

namespace Go.Proofs.Ytdjflomhaljljaa
open Go.SL Go.Proofs Go.Cast
set_option linter.unusedVariables false

theorem F178_2 : FieldAt Try.prog 178 2 10 := ⟨_, _, Try.underlying178, rfl, rfl, 0, by kernel_rfl⟩
theorem C85 : IsFn Try.prog 85 := ⟨_, Try.func85, by decide, rfl⟩
theorem F178_0 : FieldAt Try.prog 178 0 0 := ⟨_, _, Try.underlying178, rfl, rfl, 8, by kernel_rfl⟩
theorem C86 : IsFn Try.prog 86 := ⟨_, Try.func86, by decide, rfl⟩
theorem C67 : IsFn Try.prog 67 := ⟨_, Try.func67, by decide, rfl⟩
theorem B184 : Builds Try.prog 184 [(0, 1), (1, 1), (2, 1), (3, 1), (4, 1), (5, 2)] [.int .i64 0, .int .i64 0, .int .i64 0, .int .i64 0, .int .i64 0, .int .i64 0, .int .i64 0] := Builds.mk fun _ => by kernel_rfl
theorem Z184 : ZeroOf Try.prog 184 (.agg #[.int .i64 0, .int .i64 0, .int .i64 0, .int .i64 0, .int .i64 0, .int .i64 0, .int .i64 0]) := by unfold ZeroOf; kernel_rfl
theorem N184 : (Try.prog.info? 184).map (·.size) = some 7 := by kernel_rfl
theorem F178_1 : FieldAt Try.prog 178 1 9 := ⟨_, _, Try.underlying178, rfl, rfl, 0, by kernel_rfl⟩
theorem O175 : IsOne Try.prog 175 := ⟨⟨_, Try.underlying175, rfl⟩, by kernel_rfl⟩
theorem S175 : IsSlice Try.prog 175 206 := Try.underlying175
theorem S179 : IsSlice Try.prog 179 181 := Try.underlying179
theorem A184 : IsAgg Try.prog 184 7 := ⟨⟨_, Try.underlying184, rfl⟩, by kernel_rfl⟩
theorem S182 : IsSlice Try.prog 182 184 := Try.underlying182
theorem I184 : EInfo Try.prog 184 7 56 (.agg #[.int .i64 0, .int .i64 0, .int .i64 0, .int .i64 0, .int .i64 0, .int .i64 0, .int .i64 0]) := ⟨by kernel_rfl, by kernel_rfl, by unfold ZeroOf; kernel_rfl, rfl, by decide⟩


set_option maxRecDepth 20000 in
theorem rlevel_0 (g : Grid) (pg : Option Addr) (n cg : Nat) (a b d : Int) (ob : Nat) (i s : Int) (hs : s < 0) (w : World) (hn : n ≤ 32) (hB : Cells w ⟨ob, 0, none⟩ (rfC g pg n cg a b d)) :
  Calls Try.prog 86 #[ptrN ob, .int .i64 i, .int .i64 s] w fun e w' => e = .returned (.int .i64 0) ∧ St (bs w) [] w' := by
  refine enter (vs := [_, _, _]) (env := [(0, _), (1, _), (2, _)]) Try.func86 rfl rfl rfl rfl ?_
  refine VC.seq ?_
  refine VC.reg (VO.l (LO.as (.r rfl)) rfl <| VO.nil ?_)
  refine VE.seqN ?_
  refine VC.seq ?_
  refine VC.reg (VO.l (LO.as (.r rfl)) rfl <| VO.nil ?_)
  refine VE.seqN ?_
  refine VC.seq ?_
  refine VC.seq ?_
  refine VC.reg (VO.l (LO.as (.r rfl)) rfl <| VO.nil ?_)
  refine VE.seqN ?_
  refine VC.block ?_
  refine VC.loopK (α := Nat) 0 (fun gx => [(7, .int .i64 0), (8, .int .i64 0)]) [(0, _), (1, _), (2, _)] (fun gx => []) (fun gx => True) (fun gx => gx) 0 (by exact trivial) (.cons rfl (.cons rfl (.cons rfl (.cons rfl (.cons rfl .nil))))) (fun _ h => h) ?_
  rintro u _
  refine VC.seq ?_
  refine VC.seq ?_
  refine VC.reg (VO.l (LO.mv (.r rfl)) rfl <| VO.l (LO.mv (.r rfl)) rfl <| VO.l (LO.le (.r rfl) (.r rfl)) rfl <| VO.nil ?_)
  refine VE.seqN ?_
  refine VC.cond rfl (fun h11 => ?_) (fun h11 => ?_)
  ·
    (exfalso; omega)
  ·
    refine VC.exit (VE.thenX (VE.thenX (VE.inX (VE.seqN ?_))))
    refine VC.seq ?_
    refine VC.reg (VO.l (LO.mv (.r rfl)) rfl <| VO.l (LO.as (.r rfl)) rfl <| VO.nil ?_)
    refine VE.seqN ?_
    refine VC.ret (VE.res (vs := [_]) rfl ⟨rfl, trivial⟩ (fun w hw => ?_))
    exact ⟨rfl, hw.nil⟩

set_option maxRecDepth 20000 in
theorem rcases_0 (g : Grid) (pg : Option Addr) (n cg : Nat) (a b d : Int) (ob : Nat) (s : Int) (hs : s < 0) (w : World) (hn : n ≤ 32) (hB : Cells w ⟨ob, 0, none⟩ (rfC g pg n cg a b d)) :
  Calls Try.prog 85 #[ptrN ob, .int .i64 s] w fun e w' => e = .returned (.slice none 0 0) ∧ St (bs w) [] w' := by
  refine enter (vs := [_, _]) (env := [(0, _), (1, _)]) Try.func85 rfl rfl rfl rfl ?_
  refine VC.seq ?_
  refine VC.reg (VO.l (LO.as (.r rfl)) rfl <| VO.nil ?_)
  refine VE.seqN ?_
  refine VC.seq ?_
  refine VC.reg (VO.l (LO.as (.r rfl)) rfl <| VO.nil ?_)
  refine VE.seqN ?_
  refine VC.seq ?_
  refine VC.seq ?_
  refine VC.reg (VO.l (LO.as (.r rfl)) rfl <| VO.nil ?_)
  refine VE.seqN ?_
  refine VC.block ?_
  refine VC.loopK (α := Nat) 0 (fun gx => [(5, .slice none 0 0), (6, .int .i64 0)]) [(0, _), (1, _)] (fun gx => []) (fun gx => True) (fun gx => gx) 0 (by exact trivial) (.cons rfl (.cons rfl (.cons rfl (.cons rfl .nil)))) (fun _ h => h) ?_
  rintro u _
  refine VC.seq ?_
  refine VC.seq ?_
  refine VC.reg (VO.l (LO.mv (.r rfl)) rfl <| VO.l (LO.mv (.r rfl)) rfl <| VO.l (LO.le (.r rfl) (.r rfl)) rfl <| VO.nil ?_)
  refine VE.seqN ?_
  refine VC.cond rfl (fun h13 => ?_) (fun h13 => ?_)
  ·
    (exfalso; omega)
  ·
    refine VC.exit (VE.thenX (VE.thenX (VE.inX (VE.seqN ?_))))
    refine VC.seq ?_
    refine VC.reg (VO.l (LO.mv (.r rfl)) rfl <| VO.l (LO.as (.r rfl)) rfl <| VO.nil ?_)
    refine VE.seqN ?_
    refine VC.ret (VE.res (vs := [_]) rfl ⟨rfl, trivial⟩ (fun w hw => ?_))
    exact ⟨rfl, hw.nil⟩

set_option maxRecDepth 20000 in
theorem rCases_0 (g : Grid) (pg : Option Addr) (n cg : Nat) (a b d : Int) (ob : Nat) (w : World) (hn : n ≤ 32) (hB : Cells w ⟨ob, 0, none⟩ (rfC g pg n cg a b d)) :
  Calls Try.prog 67 #[ptrN ob] w fun e w' => e = .returned (.slice none 0 0) ∧ St (bs w) [] w' := by
  refine enter (vs := [_]) (env := [(0, _)]) Try.func67 rfl rfl rfl rfl ?_
  refine VC.seq ?_
  refine VC.reg (VO.l (LO.as (.r rfl)) rfl <| VO.nil ?_)
  refine VE.seqN ?_
  refine VC.seq ?_
  refine VC.reg (VO.l (LO.mv (.r rfl)) rfl <| VO.l (LO.mv (.r rfl)) rfl <| VO.l (LO.nc (.r rfl)) rfl <| VO.l (LO.fa (r := 10) F178_2 (.r rfl) rfl) rfl <| VO.l (LO.ld O55 (.r rfl) (cells_keep (sub_cells (off := 10) hB ⟨_, rfl⟩))) rfl <| VO.l (LO.len S55 (.r rfl) rfl) rfl <| VO.l (LO.sub (.r rfl) (.r rfl) (wi (by omega) (by omega))) rfl <| VO.l (LO.call (xs := [_, _]) (vs := [_, _]) C85 ⟨(.r rfl), (.r rfl), trivial⟩ (fun w hw => rcases_0 g pg n cg a b d ob _ (by omega) w hn (cells_keep hB w hw))) rfl <| VO.l (LO.as (.r rfl)) rfl <| VO.nil ?_)
  refine VE.seqN ?_
  refine VC.ret (VE.res (vs := [_]) rfl ⟨rfl, trivial⟩ (fun w hw => ?_))
  exact ⟨rfl, hw.nil⟩

set_option maxRecDepth 20000 in
theorem rLevels_0 (g : Grid) (pg : Option Addr) (n cg : Nat) (a b d : Int) (ob : Nat) (w : World) (hn : n ≤ 32) (hB : Cells w ⟨ob, 0, none⟩ (rfC g pg n cg a b d)) :
  Calls Try.prog 68 #[ptrN ob] w fun e w' => ∃ x : Option Addr × Nat, True ∧ e = .returned (.slice x.1 (List.replicate n (0 : Int)).length x.2) ∧ St (bs w) [own 3 1 x.1 x.2 ((List.replicate n (0 : Int)).map iC)] w' := by
  refine enter (vs := [_]) (env := [(0, _)]) Try.func68 rfl rfl rfl rfl ?_
  refine VC.seq ?_
  refine VC.reg (VO.l (LO.as (.r rfl)) rfl <| VO.nil ?_)
  refine VE.seqN ?_
  refine VC.seq ?_
  refine VC.reg (VO.l (LO.as (.r rfl)) rfl <| VO.nil ?_)
  refine VE.seqN ?_
  refine VC.seq ?_
  refine VC.seq ?_
  refine VC.reg (VO.l (LO.as (.r rfl)) rfl <| VO.nil ?_)
  refine VE.seqN ?_
  refine VC.block ?_
  refine VC.loopK (α := Nat × (List Int) × (Option Addr) × Nat) 0 (fun gx => [(3, .slice gx.2.2.1 gx.2.1.length gx.2.2.2), (4, .int .i64 (gx.1 : Nat))]) [(0, _)] (fun gx => [own 3 1 gx.2.2.1 gx.2.2.2 (gx.2.1.map iC)]) (fun gx => gx.1 ≤ n ∧ gx.2.1 = List.replicate gx.1 0) (fun gx => n - gx.1) (0, [], none, 0) (by exact ⟨Nat.zero_le _, rfl⟩) (.cons rfl (.cons rfl (.cons rfl .nil))) (fun _ h => (h.ownNil 3 1)) ?_
  rintro ⟨j, xs, px_, cx_⟩ ⟨hj, hX⟩
  show VC _ _ _ _ _ ([(3, .slice px_ xs.length cx_), (4, .int .i64 (j : Nat))] ++ _) ([own 3 1 px_ cx_ (xs.map iC)] ++ _) _ _
  dsimp only at hj hX
  have hxl : xs.length = j := by rw [hX]; simp
  refine VC.seq ?_
  refine VC.seq ?_
  refine VC.reg (VO.l (LO.mv (.r rfl)) rfl <| VO.l (LO.mv (.r rfl)) rfl <| VO.l (LO.nc (.r rfl)) rfl <| VO.l (LO.fa (r := 0) F178_0 (.r rfl) rfl) rfl <| VO.l (LO.fa (r := 5) F40_1 (.r rfl) rfl) rfl <| VO.l (LO.ld O37 (.r rfl) (cells_keep (sub_cells (off := 5) hB ⟨_, rfl⟩))) rfl <| VO.l (LO.len S37 (.r rfl) rfl) rfl <| VO.l (LO.lt (.r rfl) (.r rfl)) rfl <| VO.nil ?_)
  refine VE.seqN ?_
  refine VC.cond rfl (fun h12 => ?_) (fun h12 => ?_)
  ·
    refine VC.skip (VE.seqN ?_)
    refine VC.seq ?_
    refine VC.block ?_
    refine VC.reg (VO.l (LO.mv (.r rfl)) rfl <| VO.l (LO.mv (.r rfl)) rfl <| VO.l (LO.mv (.r rfl)) rfl <| VO.l (LO.mv (.r rfl)) rfl <| VO.l (LO.nc (.r rfl)) rfl <| VO.l (LO.fa (r := 10) F178_2 (.r rfl) rfl) rfl <| VO.l (LO.ld O55 (.r rfl) (cells_keep (sub_cells (off := 10) hB ⟨_, rfl⟩))) rfl <| VO.l (LO.len S55 (.r rfl) rfl) rfl <| VO.l (LO.sub (.r rfl) (.r rfl) (wi (by omega) (by omega))) rfl <| VO.l (LO.call (xs := [_, _, _]) (vs := [_, _, _]) C86 ⟨(.r rfl), (.r rfl), (.r rfl), trivial⟩ (fun w hw => rlevel_0 g pg n cg a b d ob _ _ (by omega) w hn (cells_keep hB w hw))) rfl <| VO.h rfl <| HO.bs (ps := [(_, _)]) (vs := [(_, _)]) (Z := [_]) (C := [_]) S55 Z3 N3 ⟨(.r rfl), trivial⟩ rfl rfl rfl rfl ⟨_, [_], [_], rfl, rfl, rfl, rfl, rfl⟩ fun b2 => VO.h rfl <| HO.appT ((0 : Int)) 1 0 (fun R => [_, R]) S55 S55 I3 (.r rfl) (.r rfl) rfl rfl rfl rfl rfl rfl rfl (fun _ => rfl) rfl (by omega) fun p11 c11 => VO.h rfl <| HO.lo (LO.as (.r rfl)) <| VO.nil ?_)
    refine VE.inN (VE.seqN ?_)
    refine VC.reg (VO.l (LO.mv (.r rfl)) rfl <| VO.l (LO.add (.r rfl) (.r rfl) (wi (by omega) (by omega))) rfl <| VO.l (LO.as (.r rfl)) rfl <| VO.nil ?_)
    refine VE.thenN fun a w ha hw => ⟨(j + 1, xs ++ [0], p11, c11), ⟨by dsimp only; omega, by dsimp only; rw [List.replicate_succ', hX]⟩, (by dsimp only; omega), ha.sub (.cons rfl (.cons rfl (.cons rfl .nil))), hw.sel [1] rfl⟩
  ·
    refine VC.exit (VE.thenX (VE.thenX (VE.inX (VE.seqN ?_))))
    refine VC.seq ?_
    refine VC.reg (VO.l (LO.mv (.r rfl)) rfl <| VO.l (LO.as (.r rfl)) rfl <| VO.nil ?_)
    refine VE.seqN ?_
    refine VC.ret (VE.res (vs := [_]) rfl ⟨rfl, trivial⟩ (fun w hw => ?_))
    have hx2 : xs = List.replicate n 0 := by rw [hX]; congr 1; omega
    rw [← hx2]
    exact ⟨(px_, cx_), trivial, rfl, hw.sel [0] rfl⟩

set_option maxRecDepth 20000 in
theorem rAt_0 (g : Grid) (pg : Option Addr) (n cg : Nat) (a b d : Int) (ob : Nat) (T : Int) (hT1 : 0 ≤ T) (hT2 : T ≤ 4294967296) (w : World) (hn : n ≤ 32) (hB : Cells w ⟨ob, 0, none⟩ (rfC g pg n cg a b d)) :
  Calls Try.prog 70 #[ptrN ob, .int .i64 T] w fun e w' => ∃ x : Option Addr × Nat, True ∧ e = .returned (.tuple #[.slice x.1 (List.replicate n (0 : Int)).length x.2, .int .i64 0]) ∧ St (bs w) [own 3 1 x.1 x.2 ((List.replicate n (0 : Int)).map iC)] w' := by
  refine enter (vs := [_, _]) (env := [(0, _), (1, _)]) Try.func70 rfl rfl rfl rfl ?_
  refine VC.seq ?_
  refine VC.reg (VO.l (LO.as (.r rfl)) rfl <| VO.l (LO.as (.r rfl)) rfl <| VO.nil ?_)
  refine VE.seqN ?_
  refine VC.seq ?_
  refine VC.seq ?_
  refine VC.reg (VO.l (LO.mv (.r rfl)) rfl <| VO.l (LO.call (xs := [_, _, _]) (vs := [_, _, _]) C48 ⟨(.r rfl), (.r rfl), (.r rfl), trivial⟩ (fun w _ => In_c _ _ _ w)) rfl <| VO.l (LO.not (.r rfl)) rfl <| VO.nil ?_)
  refine VE.seqN ?_
  refine VC.cond rfl (fun h12 => ?_) (fun h12 => ?_)
  ·
    (exfalso; omega)
  ·
    refine VC.skip (VE.seqN ?_)
    refine VC.seq ?_
    refine VC.reg (VO.l (LO.as (.r rfl)) rfl <| VO.nil ?_)
    refine VE.seqN ?_
    refine VC.seq ?_
    refine VC.seq ?_
    refine VC.reg (VO.l (LO.as (.r rfl)) rfl <| VO.nil ?_)
    refine VE.seqN ?_
    refine VC.block ?_
    refine VC.loopK (α := Nat) 0 (fun gx => [(6, .int .i64 (-1)), (7, .int .i64 0)]) [(0, _), (1, _)] (fun gx => []) (fun gx => True) (fun gx => gx) 0 (by exact trivial) (.cons rfl (.cons rfl (.cons rfl (.cons rfl .nil)))) (fun _ h => h) ?_
    rintro u _
    refine VC.seq ?_
    refine VC.seq ?_
    refine VC.reg (VO.l (LO.mv (.r rfl)) rfl <| VO.l (LO.mv (.r rfl)) rfl <| VO.l (LO.nc (.r rfl)) rfl <| VO.l (LO.fa (r := 10) F178_2 (.r rfl) rfl) rfl <| VO.l (LO.ld O55 (.r rfl) (cells_keep (sub_cells (off := 10) hB ⟨_, rfl⟩))) rfl <| VO.l (LO.len S55 (.r rfl) rfl) rfl <| VO.l (LO.lt (.r rfl) (.r rfl)) rfl <| VO.nil ?_)
    refine VE.seqN ?_
    refine VC.cond rfl (fun h19 => ?_) (fun h19 => ?_)
    ·
      (exfalso; omega)
    ·
      refine VC.exit (VE.thenX (VE.thenX (VE.inX (VE.seqN ?_))))
      refine VC.seq ?_
      refine VC.reg (VO.l (LO.as (.r rfl)) rfl <| VO.nil ?_)
      refine VE.seqN ?_
      refine VC.seq ?_
      refine VC.seq ?_
      refine VC.reg (VO.l (LO.as (.r rfl)) rfl <| VO.nil ?_)
      refine VE.seqN ?_
      refine VC.block ?_
      refine VC.loopK (α := Nat × (List Int) × (Option Addr) × Nat) 0 (fun gx => [(8, .slice gx.2.2.1 gx.2.1.length gx.2.2.2), (9, .int .i64 (gx.1 : Nat))]) [(0, _), (6, _)] (fun gx => [own 3 1 gx.2.2.1 gx.2.2.2 (gx.2.1.map iC)]) (fun gx => gx.1 ≤ n ∧ gx.2.1 = List.replicate gx.1 0) (fun gx => n - gx.1) (0, [], none, 0) (by exact ⟨Nat.zero_le _, rfl⟩) (.cons rfl (.cons rfl (.cons rfl (.cons rfl .nil)))) (fun _ h => (h.ownNil 3 1)) ?_
      rintro ⟨j, xs, px_, cx_⟩ ⟨hj, hX⟩
      show VC _ _ _ _ _ ([(8, .slice px_ xs.length cx_), (9, .int .i64 (j : Nat))] ++ _) ([own 3 1 px_ cx_ (xs.map iC)] ++ _) _ _
      dsimp only at hj hX
      have hxl : xs.length = j := by rw [hX]; simp
      refine VC.seq ?_
      refine VC.seq ?_
      refine VC.reg (VO.l (LO.mv (.r rfl)) rfl <| VO.l (LO.mv (.r rfl)) rfl <| VO.l (LO.nc (.r rfl)) rfl <| VO.l (LO.fa (r := 0) F178_0 (.r rfl) rfl) rfl <| VO.l (LO.fa (r := 5) F40_1 (.r rfl) rfl) rfl <| VO.l (LO.ld O37 (.r rfl) (cells_keep (sub_cells (off := 5) hB ⟨_, rfl⟩))) rfl <| VO.l (LO.len S37 (.r rfl) rfl) rfl <| VO.l (LO.lt (.r rfl) (.r rfl)) rfl <| VO.nil ?_)
      refine VE.seqN ?_
      refine VC.cond rfl (fun h39 => ?_) (fun h39 => ?_)
      ·
        refine VC.skip (VE.seqN ?_)
        refine VC.seq ?_
        refine VC.block ?_
        refine VC.reg (VO.l (LO.mv (.r rfl)) rfl <| VO.l (LO.mv (.r rfl)) rfl <| VO.l (LO.mv (.r rfl)) rfl <| VO.l (LO.mv (.r rfl)) rfl <| VO.l (LO.call (xs := [_, _, _]) (vs := [_, _, _]) C86 ⟨(.r rfl), (.r rfl), (.r rfl), trivial⟩ (fun w hw => rlevel_0 g pg n cg a b d ob _ _ (by omega) w hn (cells_keep hB w hw))) rfl <| VO.h rfl <| HO.bs (ps := [(_, _)]) (vs := [(_, _)]) (Z := [_]) (C := [_]) S55 Z3 N3 ⟨(.r rfl), trivial⟩ rfl rfl rfl rfl ⟨_, [_], [_], rfl, rfl, rfl, rfl, rfl⟩ fun b2 => VO.h rfl <| HO.appT ((0 : Int)) 1 0 (fun R => [_, R]) S55 S55 I3 (.r rfl) (.r rfl) rfl rfl rfl rfl rfl rfl rfl (fun _ => rfl) rfl (by omega) fun p6 c6 => VO.h rfl <| HO.lo (LO.as (.r rfl)) <| VO.nil ?_)
        refine VE.inN (VE.seqN ?_)
        refine VC.reg (VO.l (LO.mv (.r rfl)) rfl <| VO.l (LO.add (.r rfl) (.r rfl) (wi (by omega) (by omega))) rfl <| VO.l (LO.as (.r rfl)) rfl <| VO.nil ?_)
        refine VE.thenN fun a w ha hw => ⟨(j + 1, xs ++ [0], p6, c6), ⟨by dsimp only; omega, by dsimp only; rw [List.replicate_succ', hX]⟩, (by dsimp only; omega), ha.sub (.cons rfl (.cons rfl (.cons rfl (.cons rfl .nil)))), hw.sel [1] rfl⟩
      ·
        refine VC.exit (VE.thenX (VE.thenX (VE.inX (VE.seqN ?_))))
        refine VC.seq ?_
        refine VC.reg (VO.l (LO.mv (.r rfl)) rfl <| VO.l (LO.as (.r rfl)) rfl <| VO.l (LO.as (.r rfl)) rfl <| VO.nil ?_)
        refine VE.seqN ?_
        refine VC.ret (VE.res (vs := [_, _]) rfl ⟨rfl, rfl, trivial⟩ (fun w hw => ?_))
        have hx2 : xs = List.replicate n 0 := by rw [hX]; congr 1; omega
        rw [← hx2]
        exact ⟨(px_, cx_), trivial, rfl, hw.sel [0] rfl⟩

set_option maxRecDepth 20000 in
theorem rScore_0 (g : Grid) (pg : Option Addr) (n cg : Nat) (a b d : Int) (ob : Nat) (w : World) (hn : n ≤ 32) (hB : Cells w ⟨ob, 0, none⟩ (rfC g pg n cg a b d)) :
  Calls Try.prog 69 #[ptrN ob] w fun e w' => ∃ x : Option Addr × Nat, True ∧ e = .returned (.slice x.1 (List.replicate n ()).length x.2) ∧ St (bs w) [own 184 7 x.1 x.2 ((List.replicate n ()).map tyC)] w' := by
  refine enter (vs := [_]) (env := [(0, _)]) Try.func69 rfl rfl rfl rfl ?_
  refine VC.seq ?_
  refine VC.reg (VO.l (LO.as (.r rfl)) rfl <| VO.nil ?_)
  refine VE.seqN ?_
  refine VC.seq ?_
  refine VC.reg (VO.l (LO.as (.r rfl)) rfl <| VO.nil ?_)
  refine VE.seqN ?_
  refine VC.seq ?_
  refine VC.reg (VO.l (LO.mv (.r rfl)) rfl <| VO.l (LO.call (xs := [_]) (vs := [_]) C67 ⟨(.r rfl), trivial⟩ (fun w hw => rCases_0 g pg n cg a b d ob w hn (cells_keep hB w hw))) rfl <| VO.l (LO.as (.r rfl)) rfl <| VO.nil ?_)
  refine VE.seqN ?_
  refine VC.seq ?_
  refine VC.seq ?_
  refine VC.reg (VO.l (LO.as (.r rfl)) rfl <| VO.nil ?_)
  refine VE.seqN ?_
  refine VC.block ?_
  refine VC.loopK (α := Nat × (List Unit) × (Option Addr) × Nat) 0 (fun gx => [(3, .slice gx.2.2.1 gx.2.1.length gx.2.2.2), (5, .int .i64 (gx.1 : Nat))]) [(0, _), (4, _)] (fun gx => [own 184 7 gx.2.2.1 gx.2.2.2 (gx.2.1.map tyC)]) (fun gx => gx.1 ≤ n ∧ gx.2.1 = List.replicate gx.1 ()) (fun gx => n - gx.1) (0, [], none, 0) (by exact ⟨Nat.zero_le _, rfl⟩) (.cons rfl (.cons rfl (.cons rfl (.cons rfl .nil)))) (fun _ h => (h.ownNil 184 7)) ?_
  rintro ⟨j, xs, px_, cx_⟩ ⟨hj, hX⟩
  show VC _ _ _ _ _ ([(3, .slice px_ xs.length cx_), (5, .int .i64 (j : Nat))] ++ _) ([own 184 7 px_ cx_ (xs.map tyC)] ++ _) _ _
  dsimp only at hj hX
  have hxl : xs.length = j := by rw [hX]; simp
  refine VC.seq ?_
  refine VC.seq ?_
  refine VC.reg (VO.l (LO.mv (.r rfl)) rfl <| VO.l (LO.mv (.r rfl)) rfl <| VO.l (LO.nc (.r rfl)) rfl <| VO.l (LO.fa (r := 0) F178_0 (.r rfl) rfl) rfl <| VO.l (LO.fa (r := 5) F40_1 (.r rfl) rfl) rfl <| VO.l (LO.ld O37 (.r rfl) (cells_keep (sub_cells (off := 5) hB ⟨_, rfl⟩))) rfl <| VO.l (LO.len S37 (.r rfl) rfl) rfl <| VO.l (LO.lt (.r rfl) (.r rfl)) rfl <| VO.nil ?_)
  refine VE.seqN ?_
  refine VC.cond rfl (fun h28 => ?_) (fun h28 => ?_)
  ·
    refine VC.skip (VE.seqN ?_)
    refine VC.seq ?_
    refine VC.block ?_
    refine VC.seq ?_
    refine VC.reg (VO.l (LO.bd (ps := []) (vs := []) (C := [_, _, _, _, _, _, _]) B184  trivial rfl rfl) rfl <| VO.h rfl <| HO.alloc (C := #[_, _, _, _, _, _, _]) Z184 rfl fun b2 => VO.h0 <| HO.st 0 (vs := [_, _, _, _, _, _, _]) (C' := [_, _, _, _, _, _, _]) (L' := [_, _]) N184 rfl rfl rfl rfl rfl rfl rfl rfl <| VO.nil ?_)
    refine VE.seqN ?_
    refine VC.seq ?_
    refine VC.seq ?_
    refine VC.reg (VO.l (LO.as (.r rfl)) rfl <| VO.nil ?_)
    refine VE.seqN ?_
    refine VC.block ?_
    refine VC.loopK (α := Nat) 0 (fun gx => [(7, .int .i64 0)]) [(0, _), (3, _), (4, _), (5, _), (6, _)] (fun gx => []) (fun gx => True) (fun gx => gx) 0 (by exact trivial) (.cons rfl (.cons rfl (.cons rfl (.cons rfl (.cons rfl (.cons rfl .nil)))))) (fun _ h => h) ?_
    rintro u _
    refine VC.seq ?_
    refine VC.seq ?_
    refine VC.reg (VO.l (LO.mv (.r rfl)) rfl <| VO.l (LO.mv (.r rfl)) rfl <| VO.l (LO.nc (.r rfl)) rfl <| VO.l (LO.fa (r := 9) F178_1 (.r rfl) rfl) rfl <| VO.l (LO.ld O175 (.r rfl) (cells_keep (sub_cells (off := 9) hB ⟨_, rfl⟩))) rfl <| VO.l (LO.len S175 (.r rfl) rfl) rfl <| VO.l (LO.lt (.r rfl) (.r rfl)) rfl <| VO.nil ?_)
    refine VE.seqN ?_
    refine VC.cond rfl (fun h38 => ?_) (fun h38 => ?_)
    ·
      (exfalso; omega)
    ·
      refine VC.exit (VE.thenX (VE.thenX (VE.inX (VE.seqN ?_))))
      refine VC.seq ?_
      refine VC.reg (VO.l (LO.as (.r rfl)) rfl <| VO.nil ?_)
      refine VE.seqN ?_
      refine VC.seq ?_
      refine VC.seq ?_
      refine VC.reg (VO.l (LO.as (.r rfl)) rfl <| VO.nil ?_)
      refine VE.seqN ?_
      refine VC.block ?_
      refine VC.loopK (α := Nat) 0 (fun gx => [(12, .bool false), (13, .int .i64 0)]) [(0, _), (3, _), (4, _), (5, _), (6, _)] (fun gx => []) (fun gx => True) (fun gx => gx) 0 (by exact trivial) (.cons rfl (.cons rfl (.cons rfl (.cons rfl (.cons rfl (.cons rfl (.cons rfl .nil))))))) (fun _ h => h) ?_
      rintro u _
      refine VC.seq ?_
      refine VC.seq ?_
      refine VC.reg (VO.l (LO.mv (.r rfl)) rfl <| VO.l (LO.mv (.r rfl)) rfl <| VO.l (LO.len S179 (.r rfl) rfl) rfl <| VO.l (LO.lt (.r rfl) (.r rfl)) rfl <| VO.nil ?_)
      refine VE.seqN ?_
      refine VC.cond rfl (fun h124 => ?_) (fun h124 => ?_)
      ·
        (exfalso; omega)
      ·
        refine VC.exit (VE.thenX (VE.thenX (VE.inX (VE.seqN ?_))))
        refine VC.reg (VO.l (LO.mv (.r rfl)) rfl <| VO.l (LO.lda (vs := [_, _, _, _, _, _, _]) A184 (.r rfl) (fun _ hw => cells_at hw 0 rfl ⟨_, rfl⟩) rfl) rfl <| VO.h rfl <| HO.bs (ps := [(_, _)]) (vs := [(_, _)]) (Z := [_, _, _, _, _, _, _]) (C := [_, _, _, _, _, _, _]) S182 Z184 N184 ⟨(.r rfl), trivial⟩ rfl rfl rfl rfl ⟨_, [_, _, _, _, _, _, _], [_, _, _, _, _, _, _], rfl, rfl, rfl, rfl, rfl⟩ fun b4 => VO.h rfl <| HO.appT (()) 2 0 (fun R => [_, _, R]) S182 S182 I184 (.r rfl) (.r rfl) rfl rfl rfl rfl rfl rfl rfl (fun _ => rfl) rfl (by omega) fun p3 c3 => VO.h rfl <| HO.lo (LO.as (.r rfl)) <| VO.nil ?_)
        refine VE.inN (VE.seqN ?_)
        refine VC.reg (VO.l (LO.mv (.r rfl)) rfl <| VO.l (LO.add (.r rfl) (.r rfl) (wi (by omega) (by omega))) rfl <| VO.l (LO.as (.r rfl)) rfl <| VO.nil ?_)
        refine VE.thenN fun a w ha hw => ⟨(j + 1, xs ++ [()], p3, c3), ⟨by dsimp only; omega, by dsimp only; rw [List.replicate_succ', hX]⟩, (by dsimp only; omega), ha.sub (.cons rfl (.cons rfl (.cons rfl (.cons rfl .nil)))), hw.sel [2] rfl⟩
  ·
    refine VC.exit (VE.thenX (VE.thenX (VE.inX (VE.seqN ?_))))
    refine VC.seq ?_
    refine VC.reg (VO.l (LO.mv (.r rfl)) rfl <| VO.l (LO.as (.r rfl)) rfl <| VO.nil ?_)
    refine VE.seqN ?_
    refine VC.ret (VE.res (vs := [_]) rfl ⟨rfl, trivial⟩ (fun w hw => ?_))
    have hx2 : xs = List.replicate n () := by rw [hX]; congr 1; omega
    rw [← hx2]
    exact ⟨(px_, cx_), trivial, rfl, hw.sel [0] rfl⟩

end Go.Proofs.Ytdjflomhaljljaa

namespace Go.Proofs.Ytdjflomhaljljaa
open Go.SL Go.Proofs Go.Cast
set_option linter.unusedVariables false

theorem EA184 : FlatA Try.prog 184 7 := ⟨⟨_, Try.underlying184, rfl⟩, by kernel_rfl, by kernel_rfl⟩
theorem C68 : IsFn Try.prog 68 := ⟨_, Try.func68, by decide, rfl⟩
theorem C69 : IsFn Try.prog 69 := ⟨_, Try.func69, by decide, rfl⟩
theorem C70 : IsFn Try.prog 70 := ⟨_, Try.func70, by decide, rfl⟩


theorem atsL_0 {o : OfM} (hts : o.ts = []) (T : Int) : atsL o T = List.replicate o.rc.length 0 := by
  unfold atsL
  rw [hts]
  have e : ∀ r : RcM, atLv [] r.lv T = 0 := fun r => by unfold atLv kAt; simp
  simp only [e]
  exact List.map_const' ..
theorem levelsL_0 {o : OfM} (hlv : ∀ r, r ∈ o.rc → r.lv = []) : levelsL o = List.replicate o.rc.length 0 := by
  unfold levelsL
  rw [List.map_congr_left (g := fun _ => (0 : Int)) (fun r hr => by rw [hlv r hr]; rfl)]
  exact List.map_const' ..

set_option maxRecDepth 20000 in
theorem alike_0 (o : OfM) (g : Grid) (pg : Option Addr) (cg : Nat) (a b d : Int) (ob : Nat) (w : World) (hn : o.rc.length ≤ 32) (hp : 0 < o.rc.length) (hcs : o.cs = []) (hts : o.ts = []) (hlv : ∀ r, r ∈ o.rc → r.lv = []) (hlg : o.lg = []) (hh : Has w (offR o)) (hB : Cells w ⟨ob, 0, none⟩ (rfC g pg o.rc.length cg a b d)) :
  Calls Try.prog 37 #[ptrN o.b, ptrN ob, .int .i64 0] w fun e w' => e = .returned (.bool true) ∧ St (bs w) [] w' := by
  have hcs0 : o.cs.length = 0 := by rw [hcs]; rfl
  have hts0 : o.ts.length = 0 := by rw [hts]; rfl
  have hlv0 : ∀ r, r ∈ o.rc → r.lv.length = o.ts.length := fun r hr => by rw [hlv r hr, hts]
  have hlL : (levelsL o).length = o.rc.length := by unfold levelsL; simp
  have haL : (atsL o 0).length = o.rc.length := by unfold atsL; simp
  have hsrt : o.ts.Pairwise (· ≤ ·) := by rw [hts]; exact List.Pairwise.nil
  refine enter (vs := [_, _, _]) (env := [(0, _), (1, _), (2, _)]) Try.func37 rfl rfl rfl rfl ?_
  refine VC.seq ?_
  refine VC.reg (VO.l (LO.as (.r rfl)) rfl <| VO.nil ?_)
  refine VE.seqN ?_
  refine VC.seq ?_
  refine VC.reg (VO.l (LO.mv (.r rfl)) rfl <| VO.h rfl <| HO.callx (xs := [_]) (vs := [_]) C22 ⟨(.r rfl), trivial⟩ (fun w hw => Cases_c o w (by omega) hp (by omega) (hh.keep hw)) fun xc _ => VO.l (LO.mv (.r rfl)) rfl <| VO.l (LO.call (xs := [_]) (vs := [_]) C67 ⟨(.r rfl), trivial⟩ (fun w hw => rCases_0 g pg o.rc.length cg a b d ob w hn (cells_keep hB w hw))) rfl <| VO.h rfl <| HO.lo (LO.as (.r rfl)) <| VO.l (LO.as (.r rfl)) rfl <| VO.nil ?_)
  refine VE.seqN ?_
  refine VC.seq ?_
  refine VC.seq ?_
  refine VC.reg (VO.l (LO.mv (.r rfl)) rfl <| VO.l (LO.len S58 (.r rfl) rfl) rfl <| VO.l (LO.mv (.r rfl)) rfl <| VO.l (LO.len S179 (.r rfl) rfl) rfl <| VO.l (LO.ne (.r rfl) (.r rfl)) rfl <| VO.l (LO.mv (.r rfl)) rfl <| VO.lg rfl rfl (GD.f _) (fun hg => LO.mv (.r rfl)) rfl <| VO.bc (x := 26) rfl (fun hg2_5 => (by exfalso; simp [hcs0] at hg2_5)) (fun hg2_5 => VO.gT rfl rfl (congrArg Value.bool hg2_5) rfl <| HO.callx (xs := [_]) (vs := [_]) C24 ⟨(.g (by rw [hg2_5]; rfl) rfl), trivial⟩ (fun w hw => Levels_c o w (by omega) hp (fun r hr => by rw [hlv r hr]; decide) (hh.keep hw)) fun xl _ => VO.gT rfl rfl (congrArg Value.bool hg2_5) rfl <| HO.lo (LO.mv (.r rfl)) <| VO.gT rfl rfl (congrArg Value.bool hg2_5) rfl <| HO.callx (xs := [_]) (vs := [_]) C68 ⟨(.r rfl), trivial⟩ (fun w hw => rLevels_0 g pg o.rc.length cg a b d ob w hn (cells_keep hB w hw)) fun xm _ => VO.gT rfl rfl (congrArg Value.bool hg2_5) rfl <| HO.lo (LO.call (xs := [_, _]) (vs := [_, _]) C25 ⟨(.r rfl), (.r rfl), trivial⟩ (fun w hw => ints_c xl.1 xm.1 (levelsL o) (List.replicate o.rc.length (0 : Int)) xl.2 xm.2 w (by omega) (by simp; omega) (own_rows hw 1 rfl) (own_rows hw 0 rfl))) <| VO.gT rfl rfl (congrArg Value.bool hg2_5) rfl <| HO.lo (LO.not (.r rfl)) <| VO.h rfl <| HO.lo (LO.pkF (.r rfl) hg2_5 (.r rfl)) <| VO.nil ?_))
  refine VE.seqN ?_
  refine VC.cond rfl (fun h33 => ?_) (fun h33 => ?_)
  ·
    (exfalso; exact absurd h33 (by simp [levelsL_0 hlv]))
  ·
    refine VC.skip (VE.seqN ?_)
    refine VC.seq ?_
    refine VC.seq ?_
    refine VC.reg (VO.l (LO.as (.r rfl)) rfl <| VO.nil ?_)
    refine VE.seqN ?_
    refine VC.block ?_
    refine VC.loopK (α := Nat) 0 (fun gx => [(9, .int .i64 0)]) [(0, _), (1, _), (2, _), (7, _), (8, _)] (fun gx => []) (fun gx => True) (fun gx => gx) 0 (by exact trivial) (.cons rfl (.cons rfl (.cons rfl (.cons rfl (.cons rfl (.cons rfl .nil)))))) (fun _ h => h) ?_
    rintro u _
    refine VC.seq ?_
    refine VC.seq ?_
    refine VC.reg (VO.l (LO.mv (.r rfl)) rfl <| VO.l (LO.mv (.r rfl)) rfl <| VO.l (LO.len S58 (.r rfl) rfl) rfl <| VO.l (LO.lt (.r rfl) (.r rfl)) rfl <| VO.nil ?_)
    refine VE.seqN ?_
    refine VC.cond rfl (fun h37 => ?_) (fun h37 => ?_)
    ·
      (exfalso; omega)
    ·
      refine VC.exit (VE.thenX (VE.thenX (VE.inX (VE.seqN ?_))))
      refine VC.seq ?_
      refine VC.reg (VO.l (LO.mv (.r rfl)) rfl <| VO.h rfl <| HO.callx (xs := [_]) (vs := [_]) C41 ⟨(.r rfl), trivial⟩ (fun w hw => Score_0 o w (by omega) hp hlg (hh.keep hw)) fun xt _ => VO.l (LO.mv (.r rfl)) rfl <| VO.h rfl <| HO.callx (xs := [_]) (vs := [_]) C69 ⟨(.r rfl), trivial⟩ (fun w hw => rScore_0 g pg o.rc.length cg a b d ob w hn (cells_keep hB w hw)) fun xu _ => VO.h rfl <| HO.lo (LO.as (.r rfl)) <| VO.h rfl <| HO.lo (LO.as (.r rfl)) <| VO.nil ?_)
      refine VE.seqN ?_
      refine VC.seq ?_
      refine VC.seq ?_
      refine VC.reg (VO.l (LO.mv (.r rfl)) rfl <| VO.l (LO.len S109 (.r rfl) rfl) rfl <| VO.l (LO.mv (.r rfl)) rfl <| VO.l (LO.len S182 (.r rfl) rfl) rfl <| VO.l (LO.ne (.r rfl) (.r rfl)) rfl <| VO.nil ?_)
      refine VE.seqN ?_
      refine VC.cond rfl (fun h57 => ?_) (fun h57 => ?_)
      ·
        (exfalso; exact h57 rfl)
      ·
        refine VC.skip (VE.seqN ?_)
        refine VC.seq ?_
        refine VC.seq ?_
        refine VC.reg (VO.l (LO.as (.r rfl)) rfl <| VO.nil ?_)
        refine VE.seqN ?_
        refine VC.block ?_
        refine VC.loopK (α := Nat) 0 (fun gx => [(12, .int .i64 (gx : Nat))]) [(0, _), (1, _), (2, _), (10, _), (11, _)] (fun gx => []) (fun gx => gx ≤ o.rc.length) (fun gx => o.rc.length - gx) 0 (by exact Nat.zero_le _) (.cons rfl (.cons rfl (.cons rfl (.cons rfl (.cons rfl (.cons rfl .nil)))))) (fun _ h => h) ?_
        rintro j hj0
        refine VC.seq ?_
        refine VC.seq ?_
        refine VC.reg (VO.l (LO.mv (.r rfl)) rfl <| VO.l (LO.mv (.r rfl)) rfl <| VO.l (LO.len S109 (.r rfl) rfl) rfl <| VO.l (LO.lt (.r rfl) (.r rfl)) rfl <| VO.nil ?_)
        refine VE.seqN ?_
        refine VC.cond rfl (fun h61 => ?_) (fun h61 => ?_)
        ·
          have hj : j < o.rc.length := by simp at h61; omega
          refine VC.skip (VE.seqN ?_)
          refine VC.seq ?_
          refine VC.block ?_
          refine VC.seq ?_
          refine VC.draw mixed (LL.l (LO.mv (.r rfl)) rfl <| LL.l (LO.mv (.r rfl)) rfl <| LL.l (LO.ixo S109 N112 (fun _ hw => (own_rows hw 1 rfl).some (by simp)) (.r rfl) (.r rfl) rfl (by omega)) rfl <| LL.l (LO.lda (vs := [_, _, _, _, _, _, _]) A112 (.r rfl) (fun w hw => cells_part (off := 0) (own_cell hw 1 rfl (j := j) (x := ()) (by simp [hj])) ⟨_, rfl⟩) rfl) rfl <| LL.l (LO.mv (.r rfl)) rfl <| LL.l (LO.mv (.r rfl)) rfl <| LL.l (LO.ixo S182 N184 (fun _ hw => (own_rows hw 0 rfl).some (by simp)) (.r rfl) (.r rfl) rfl (by omega)) rfl <| LL.l (LO.lda (vs := [_, _, _, _, _, _, _]) A184 (.r rfl) (fun w hw => cells_part (off := 0) (own_cell hw 0 rfl (j := j) (x := ()) (by simp [hj])) ⟨_, rfl⟩) rfl) rfl <| LL.l (LO.neA («as» := [0, 0, 0, 0, 0, 0, 0]) (bs := [0, 0, 0, 0, 0, 0, 0]) EA184 (.r rfl) (.r rfl) rfl rfl) rfl <| LL.nil) (by kernel_rfl) ?_
          refine VE.seqN ?_
          refine VC.cond rfl (fun h72 => ?_) (fun h72 => ?_)
          ·
            (exfalso; exact h72 rfl)
          ·
            refine VC.skip (VE.inN (VE.seqN ?_))
            refine VC.reg (VO.l (LO.mv (.r rfl)) rfl <| VO.l (LO.add (.r rfl) (.r rfl) (wi (by omega) (by omega))) rfl <| VO.l (LO.as (.r rfl)) rfl <| VO.nil ?_)
            refine VE.thenN fun a w ha hw => ⟨j + 1, by omega, (by omega), ha.sub (.cons rfl (.cons rfl (.cons rfl (.cons rfl (.cons rfl (.cons rfl .nil)))))), hw⟩
        ·
          refine VC.exit (VE.thenX (VE.thenX (VE.inX (VE.seqN ?_))))
          refine VC.seq ?_
          refine VC.reg (VO.l (LO.mv (.r rfl)) rfl <| VO.l (LO.mv (.r rfl)) rfl <| VO.h rfl <| HO.callx (xs := [_, _]) (vs := [_, _]) C28 ⟨(.r rfl), (.r rfl), trivial⟩ (fun w hw => At_o o 0 w (by omega) hp hlv0 (by omega) hsrt (by decide) (by decide) (hh.keep hw)) fun xa _ => VO.h rfl <| HO.lo (LO.mv (.r rfl)) <| VO.h rfl <| HO.lo (LO.ex (.r rfl) rfl) <| VO.h rfl <| HO.lo (LO.ex (.r rfl) rfl) <| VO.h rfl <| HO.lo (LO.as (.r rfl)) <| VO.h rfl <| HO.lo (LO.as (.r rfl)) <| VO.nil ?_)
          refine VE.seqN ?_
          refine VC.seq ?_
          refine VC.reg (VO.l (LO.mv (.r rfl)) rfl <| VO.l (LO.mv (.r rfl)) rfl <| VO.h rfl <| HO.callx (xs := [_, _]) (vs := [_, _]) C70 ⟨(.r rfl), (.r rfl), trivial⟩ (fun w hw => rAt_0 g pg o.rc.length cg a b d ob 0 (by decide) (by decide) w hn (cells_keep hB w hw)) fun xb _ => VO.h rfl <| HO.lo (LO.mv (.r rfl)) <| VO.h rfl <| HO.lo (LO.ex (.r rfl) rfl) <| VO.h rfl <| HO.lo (LO.ex (.r rfl) rfl) <| VO.h rfl <| HO.lo (LO.as (.r rfl)) <| VO.h rfl <| HO.lo (LO.as (.r rfl)) <| VO.nil ?_)
          refine VE.seqN ?_
          refine VC.seq ?_
          refine VC.reg (VO.l (LO.mv (.r rfl)) rfl <| VO.l (LO.mv (.r rfl)) rfl <| VO.l (LO.call (xs := [_, _]) (vs := [_, _]) C25 ⟨(.r rfl), (.r rfl), trivial⟩ (fun w hw => ints_c xa.1 xb.1 (atsL o 0) (List.replicate o.rc.length (0 : Int)) xa.2 xb.2 w (by omega) (by simp; omega) (own_rows hw 1 rfl) (own_rows hw 0 rfl))) rfl <| VO.l (LO.mv (.r rfl)) rfl <| VO.lg rfl rfl (GD.t _) (fun hg => LO.mv (.r rfl)) rfl <| VO.lg rfl rfl (GD.t _) (fun hg => LO.mv (.r rfl)) rfl <| VO.lg rfl rfl (GD.t _) (fun hg => LO.eq (.g hg rfl) (.g hg rfl)) rfl <| VO.l (LO.pkA (.r rfl) rfl rfl (.r rfl)) rfl <| VO.l (LO.as (.r rfl)) rfl <| VO.nil ?_)
          refine VE.seqN ?_
          refine VC.ret (VE.res (vs := [_]) rfl ⟨rfl, trivial⟩ (fun w hw => ?_))
          refine ⟨?_, hw.nil⟩
          simp only [resV]
          first | rfl | (rw [atsL_0 hts]; simp)

end Go.Proofs.Ytdjflomhaljljaa

namespace Go.Proofs.Ytdjflomhaljljaa
open Go.SL Go.Proofs Go.Cast
set_option linter.unusedVariables false

theorem C35 : IsFn Try.prog 35 := ⟨_, Try.func35, by decide, rfl⟩
theorem C37 : IsFn Try.prog 37 := ⟨_, Try.func37, by decide, rfl⟩


theorem hn_lv {g : Grid} {l : List RG} {a b d : Int} {o : OfM} (h : NewP g l a b d o) : ∀ r, r ∈ o.rc → r.lv = [] := fun r hr => by
  obtain ⟨k, hk⟩ := List.mem_iff_getElem?.1 hr
  exact (h.2.2.2.2.2.2.2.2.2.2 k r hk).2.2.2.1
theorem hn_len {g : Grid} {l : List RG} {a b d : Int} {o : OfM} (h : NewP g l a b d o) : o.rc.length = l.length := by
  rw [h.2.2.2.2.2.2.2.2.2.1, ← List.length_map (f := RG.r), h.2.2.2.2.2.2.2.2.1, List.length_map]

set_option maxRecDepth 20000 in
theorem IssueChecks_c (g : Grid) (l : List RG) (pl : Option Addr) (cl : Nat) (a b d : Int) (w : World) (hl : RegsU w pl l) :
  Calls Try.prog 8 #[specV g pl l.length cl a b d] w fun e w' => e = .returned (.bool true) ∧ St (bs w) [] w' := by
  refine enter (vs := [_]) (env := [(0, _)]) Try.func8 rfl rfl rfl rfl ?_
  refine VC.seq ?_
  refine VC.reg (VO.h rfl <| HO.box (C := #[_, _, _, _, _, _, _, _, _]) rfl rfl fun b1 => VO.l (LO.as (.r rfl)) rfl <| VO.nil ?_)
  refine VE.seqN ?_
  refine VC.seq ?_
  refine VC.seq ?_
  refine VC.reg (VO.l (LO.lda (vs := [_, _, _, _, _, _, _, _, _]) A28 (.r rfl) (fun _ hw => cells_at hw 0 rfl ⟨_, rfl⟩) rfl) rfl <| VO.h rfl <| HO.callx (xs := [_]) (vs := [_]) C12 ⟨(.r rfl), trivial⟩ (fun w hw => few_c g l pl cl a b d w ⟨hl.rows.keep w hw, fun x hx => (hl.ok x hx).keep w hw⟩) fun z1 hz1 => VO.h rfl <| HO.lo (LO.not (.r rfl)) <| VO.nil ?_)
  refine VE.seqN ?_
  refine VC.cond rfl (fun h10 => ?_) (fun h10 => ?_)
  ·
    refine VC.seq ?_
    refine VC.reg (VO.l (LO.call (xs := []) (vs := []) C14 trivial (fun w hw => works_c w)) rfl <| VO.l (LO.as (.r rfl)) rfl <| VO.nil ?_)
    refine VE.seqN ?_
    refine VC.ret (VE.thenR (VE.res (vs := [_]) rfl ⟨rfl, trivial⟩ (fun w hw => ?_)))
    first | exact ⟨rfl, hw.nil⟩ | exact ⟨by simp [resV], hw.nil⟩
  ·
    have hf1 : FewR l := by first | exact hz1 (by simpa using h10) | (exfalso; simp_all)
    refine VC.skip (VE.seqN ?_)
    refine VC.seq ?_
    refine VC.reg (VO.l (LO.lda (vs := [_, _, _, _, _, _, _, _, _]) A28 (.r rfl) (fun _ hw => cells_at hw 0 rfl ⟨_, rfl⟩) rfl) rfl <| VO.l (LO.call (xs := [_]) (vs := [_]) C34 ⟨(.r rfl), trivial⟩ (fun w hw => Check_c g l pl cl a b d w (by have := hf1.1; omega) (RegsU.regs ⟨hl.rows.keep w hw, fun x hx => (hl.ok x hx).keep w hw⟩ hf1))) rfl <| VO.l (LO.as (.r rfl)) rfl <| VO.nil ?_)
    refine VE.seqN ?_
    refine VC.seq ?_
    by_cases hS : specE ⟨g, l.map RG.r, a, b, d⟩ = 0
    ·
      have hol := specOk hS
      obtain ⟨_, hol1, hol2, _, _⟩ := hol
      dsimp only at hol1 hol2
      rw [List.length_map] at hol1 hol2
      refine VC.reg (VO.l (LO.lda (vs := [_, _, _, _, _, _, _, _, _]) A28 (.r rfl) (fun _ hw => cells_at hw 0 rfl ⟨_, rfl⟩) rfl) rfl <| VO.h rfl <| HO.callx (xs := [_]) (vs := [_]) C26 ⟨(.r rfl), trivial⟩ (fun w hw => New_c g l pl cl a b d w (by have := hf1.1; omega) (RegsU.regs ⟨hl.rows.keep w hw, fun x hx => (hl.ok x hx).keep w hw⟩ hf1) hS) fun o hn => VO.l (LO.mv (.r rfl)) rfl <| VO.l (LO.ex (.r rfl) rfl) rfl <| VO.l (LO.ex (.r rfl) rfl) rfl <| VO.l (LO.as (.r rfl)) rfl <| VO.l (LO.as (.r rfl)) rfl <| VO.nil ?_)
      refine VE.seqN ?_
      refine VC.seq ?_
      refine VC.reg (VO.l (LO.lda (vs := [_, _, _, _, _, _, _, _, _]) A28 (.r rfl) (fun _ hw => cells_at hw 10 rfl ⟨_, rfl⟩) rfl) rfl <| VO.h rfl <| HO.callx (xs := [_]) (vs := [_]) C17 ⟨(.r rfl), trivial⟩ (fun w hw => spec_c g l pl cl a b d w hf1.1 ⟨hl.rows.keep w hw, fun x hx => (hl.ok x hx).keep w hw⟩) fun x1 _ => VO.h rfl <| HO.callx (xs := [_]) (vs := [_]) C35 ⟨(.r rfl), trivial⟩ (fun w hw => rNew_c g l x1.1 x1.2 a b d w (by have := hf1.1; omega) ⟨own_rows hw 0 rfl, fun x hx => ⟨(hl.ok x hx).keep w hw, by have := hf1.2 x hx; omega⟩⟩ hS) fun y hy => VO.h rfl <| HO.lo (LO.mv (.r rfl)) <| VO.h rfl <| HO.lo (LO.ex (.r rfl) rfl) <| VO.h rfl <| HO.lo (LO.ex (.r rfl) rfl) <| VO.h rfl <| HO.lo (LO.as (.r rfl)) <| VO.h rfl <| HO.lo (LO.as (.r rfl)) <| VO.nil ?_)
      refine VE.seqN ?_
      refine VC.seq ?_
      refine VC.seq ?_
      refine VC.reg (VO.l (LO.mv (.r rfl)) rfl <| VO.l (LO.lda (vs := [_, _, _, _, _, _, _, _, _]) A28 (.r rfl) (fun _ hw => cells_at hw 14 rfl ⟨_, rfl⟩) rfl) rfl <| VO.h rfl <| HO.callx (xs := [_]) (vs := [_]) C17 ⟨(.r rfl), trivial⟩ (fun w hw => spec_c g l pl cl a b d w hf1.1 ⟨hl.rows.keep w hw, fun x hx => (hl.ok x hx).keep w hw⟩) fun x2 _ => VO.h rfl <| HO.lo (LO.call (xs := [_]) (vs := [_]) C36 ⟨(.r rfl), trivial⟩ (fun w hw => rCheck_c g l x2.1 x2.2 a b d w (by have := hf1.1; omega) ⟨own_rows hw 0 rfl, fun x hx => ⟨(hl.ok x hx).keep w hw, by have := hf1.2 x hx; omega⟩⟩)) <| VO.h rfl <| HO.lo (LO.ne (.r rfl) (.r rfl)) <| VO.h rfl <| HO.lo (LO.mv (.r rfl)) <| VO.lg rfl rfl (GD.f _) (fun hg => LO.mv (.r rfl)) rfl <| VO.lg rfl rfl (GD.f _) (fun hg => LO.mv (.r rfl)) rfl <| VO.lg rfl rfl (GD.f _) (fun hg => LO.ne (.g hg rfl) (.g hg rfl)) rfl <| VO.h rfl <| HO.lo (LO.pkO (.r rfl) (.r rfl) rfl rfl) <| VO.h rfl <| HO.lo (LO.mv (.r rfl)) <| VO.lg rfl rfl (GD.f _) (fun hg => LO.mv (.r rfl)) rfl <| VO.lg rfl rfl (GD.f _) (fun hg => LO.mv (.r rfl)) rfl <| VO.lg rfl rfl (GD.f _) (fun hg => LO.ne (.g hg rfl) (.g hg rfl)) rfl <| VO.h rfl <| HO.lo (LO.pkO (.r rfl) (.r rfl) rfl rfl) <| VO.h rfl <| HO.lo (LO.mv (.r rfl)) <| VO.lg rfl rfl (GD.f _) (fun hg => LO.mv (.r rfl)) rfl <| VO.lg rfl rfl (GD.f _) (fun hg => LO.eqPn ⟨_, Try.underlying53⟩ (.g hg rfl) (.r rfl)) rfl <| VO.lg rfl rfl (GD.f _) (fun hg => LO.mv (.r rfl)) rfl <| VO.lg rfl rfl (GD.f _) (fun hg => LO.ne (.g hg rfl) (.r rfl)) rfl <| VO.lg rfl rfl (GD.f _) (fun hg => LO.neB Try.underlying4 (.g hg rfl) (.g hg rfl)) rfl <| VO.h rfl <| HO.lo (LO.pkO (.r rfl) (.r rfl) rfl rfl) <| VO.nil ?_)
      refine VE.seqN ?_
      refine VC.cond rfl (fun h46 => ?_) (fun h46 => ?_)
      ·
        (exfalso; simp_all)
      ·
        refine VC.skip (VE.seqN ?_)
        refine VC.seq ?_
        refine VC.reg (VO.l (LO.mv (.r rfl)) rfl <| VO.l (LO.ne (.r rfl) (.r rfl)) rfl <| VO.l (LO.mv (.r rfl)) rfl <| VO.lg rfl rfl (GD.f _) (fun hg => LO.mv (.r rfl)) rfl <| VO.lg rfl rfl (GD.f _) (fun hg => LO.mv (.r rfl)) rfl <| VO.lg rfl rfl (GD.f _) (fun hg => LO.call (xs := [_, _, _]) (vs := [_, _, _]) C37 ⟨(.g hg rfl), (.g hg rfl), (.r rfl), trivial⟩ (fun w hw => alike_0 o g y.2.2.1 y.2.2.2 a b d y.1 w (by have := hn_len hn; omega) (by have := hn_len hn; omega) hn.2.2.2.2.2.1 hn.2.2.2.2.1 (fun r hr => hn_lv hn r hr) hn.2.2.2.2.2.2.1 ((selK (L1 := offR o) [5, 6, 7, 8, 9, 10, 11, 12, 13, 14] rfl rfl w hw).has (List.Sublist.refl _)) (by rw [show o.rc.length = y.2.1.length by have := congrArg List.length hy; simp only [List.length_map] at this; have := hn_len hn; omega]; exact cells_inv (St.inv hw 1 _ rfl)))) rfl <| VO.l (LO.pkO (.r rfl) (.r rfl) rfl rfl) rfl <| VO.l (LO.mv (.r rfl)) rfl <| VO.lg rfl rfl (GD.t _) (fun hg => LO.call (xs := []) (vs := []) C14 trivial (fun w hw => works_c w)) rfl <| VO.l (LO.pkA (.r rfl) rfl rfl (.r rfl)) rfl <| VO.l (LO.as (.r rfl)) rfl <| VO.nil ?_)
        refine VE.seqN ?_
        refine VC.ret (VE.res (vs := [_]) rfl ⟨rfl, trivial⟩ (fun w hw => ?_))
        first | exact ⟨rfl, hw.nil⟩ | exact ⟨by simp [resV], hw.nil⟩
    ·
      refine VC.reg (VO.l (LO.lda (vs := [_, _, _, _, _, _, _, _, _]) A28 (.r rfl) (fun _ hw => cells_at hw 0 rfl ⟨_, rfl⟩) rfl) rfl <| VO.l (LO.call (xs := [_]) (vs := [_]) C26 ⟨(.r rfl), trivial⟩ (fun w hw => New_e g l pl cl a b d w (by have := hf1.1; omega) (RegsU.regs ⟨hl.rows.keep w hw, fun x hx => (hl.ok x hx).keep w hw⟩ hf1) hS)) rfl <| VO.l (LO.mv (.r rfl)) rfl <| VO.l (LO.ex (.r rfl) rfl) rfl <| VO.l (LO.ex (.r rfl) rfl) rfl <| VO.l (LO.as (.r rfl)) rfl <| VO.l (LO.as (.r rfl)) rfl <| VO.nil ?_)
      refine VE.seqN ?_
      refine VC.seq ?_
      refine VC.reg (VO.l (LO.lda (vs := [_, _, _, _, _, _, _, _, _]) A28 (.r rfl) (fun _ hw => cells_at hw 0 rfl ⟨_, rfl⟩) rfl) rfl <| VO.h rfl <| HO.callx (xs := [_]) (vs := [_]) C17 ⟨(.r rfl), trivial⟩ (fun w hw => spec_c g l pl cl a b d w hf1.1 ⟨hl.rows.keep w hw, fun x hx => (hl.ok x hx).keep w hw⟩) fun x1 _ => VO.h rfl <| HO.lo (LO.call (xs := [_]) (vs := [_]) C35 ⟨(.r rfl), trivial⟩ (fun w hw => rNew_e g l x1.1 x1.2 a b d w (by have := hf1.1; omega) ⟨own_rows hw 0 rfl, fun x hx => ⟨(hl.ok x hx).keep w hw, by have := hf1.2 x hx; omega⟩⟩ hS)) <| VO.h rfl <| HO.lo (LO.mv (.r rfl)) <| VO.h rfl <| HO.lo (LO.ex (.r rfl) rfl) <| VO.h rfl <| HO.lo (LO.ex (.r rfl) rfl) <| VO.h rfl <| HO.lo (LO.as (.r rfl)) <| VO.h rfl <| HO.lo (LO.as (.r rfl)) <| VO.nil ?_)
      refine VE.seqN ?_
      refine VC.seq ?_
      refine VC.seq ?_
      refine VC.reg (VO.l (LO.mv (.r rfl)) rfl <| VO.l (LO.lda (vs := [_, _, _, _, _, _, _, _, _]) A28 (.r rfl) (fun _ hw => cells_at hw 1 rfl ⟨_, rfl⟩) rfl) rfl <| VO.h rfl <| HO.callx (xs := [_]) (vs := [_]) C17 ⟨(.r rfl), trivial⟩ (fun w hw => spec_c g l pl cl a b d w hf1.1 ⟨hl.rows.keep w hw, fun x hx => (hl.ok x hx).keep w hw⟩) fun x2 _ => VO.h rfl <| HO.lo (LO.call (xs := [_]) (vs := [_]) C36 ⟨(.r rfl), trivial⟩ (fun w hw => rCheck_c g l x2.1 x2.2 a b d w (by have := hf1.1; omega) ⟨own_rows hw 0 rfl, fun x hx => ⟨(hl.ok x hx).keep w hw, by have := hf1.2 x hx; omega⟩⟩)) <| VO.h rfl <| HO.lo (LO.ne (.r rfl) (.r rfl)) <| VO.h rfl <| HO.lo (LO.mv (.r rfl)) <| VO.lg rfl rfl (GD.f _) (fun hg => LO.mv (.r rfl)) rfl <| VO.lg rfl rfl (GD.f _) (fun hg => LO.mv (.r rfl)) rfl <| VO.lg rfl rfl (GD.f _) (fun hg => LO.ne (.g hg rfl) (.g hg rfl)) rfl <| VO.h rfl <| HO.lo (LO.pkO (.r rfl) (.r rfl) rfl rfl) <| VO.h rfl <| HO.lo (LO.mv (.r rfl)) <| VO.lg rfl rfl (GD.f _) (fun hg => LO.mv (.r rfl)) rfl <| VO.lg rfl rfl (GD.f _) (fun hg => LO.mv (.r rfl)) rfl <| VO.lg rfl rfl (GD.f _) (fun hg => LO.ne (.g hg rfl) (.g hg rfl)) rfl <| VO.h rfl <| HO.lo (LO.pkO (.r rfl) (.r rfl) rfl rfl) <| VO.h rfl <| HO.lo (LO.mv (.r rfl)) <| VO.lg rfl rfl (GD.f _) (fun hg => LO.mv (.r rfl)) rfl <| VO.lg rfl rfl (GD.f _) (fun hg => LO.eqP0 ⟨_, Try.underlying53⟩ (.g hg rfl) (.r rfl)) rfl <| VO.lg rfl rfl (GD.f _) (fun hg => LO.mv (.r rfl)) rfl <| VO.lg rfl rfl (GD.f _) (fun hg => LO.ne (.g hg rfl) (.r rfl)) rfl <| VO.lg rfl rfl (GD.f _) (fun hg => LO.neB Try.underlying4 (.g hg rfl) (.g hg rfl)) rfl <| VO.h rfl <| HO.lo (LO.pkO (.r rfl) (.r rfl) rfl rfl) <| VO.nil ?_)
      refine VE.seqN ?_
      refine VC.cond rfl (fun h46 => ?_) (fun h46 => ?_)
      ·
        (exfalso; simp_all)
      ·
        refine VC.skip (VE.seqN ?_)
        refine VC.seq ?_
        refine VC.reg (VO.l (LO.mv (.r rfl)) rfl <| VO.l (LO.ne (.r rfl) (.r rfl)) rfl <| VO.l (LO.mv (.r rfl)) rfl <| VO.lg rfl rfl (GD.f _) (fun hg => LO.mv (.r rfl)) rfl <| VO.lg rfl rfl (GD.f _) (fun hg => LO.mv (.r rfl)) rfl <| VO.lg rfl rfl (GD.f _) (fun hg => (show LO _ _ _ _ _ (.bool true) from (by exfalso; simp [hS] at hg))) rfl <| VO.l (LO.pkO (.r rfl) (.r rfl) rfl rfl) rfl <| VO.l (LO.mv (.r rfl)) rfl <| VO.lg rfl rfl (GD.t _) (fun hg => LO.call (xs := []) (vs := []) C14 trivial (fun w hw => works_c w)) rfl <| VO.l (LO.pkA (.r rfl) rfl rfl (.r rfl)) rfl <| VO.l (LO.as (.r rfl)) rfl <| VO.nil ?_)
        refine VE.seqN ?_
        refine VC.ret (VE.res (vs := [_]) rfl ⟨rfl, trivial⟩ (fun w hw => ?_))
        first | exact ⟨rfl, hw.nil⟩ | exact ⟨by simp [resV], hw.nil⟩

end Go.Proofs.Ytdjflomhaljljaa
