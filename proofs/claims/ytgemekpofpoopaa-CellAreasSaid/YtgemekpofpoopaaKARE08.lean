/-
  The document's Gap.
  The document's Areas; joined, gaps and areas as both say.
  CellAreas, walked.
-/
import Derived.Test.YtgemekpofpoopaaKARE07

set_option linter.unusedSimpArgs false
namespace Go.Proofs.Ytgemekpofpoopaa
open Go.SL Go.Proofs Go.Cast Go.Cell
set_option linter.unusedVariables false



def rgTo (n : Nat) (f : Nat → Nat) (k : Nat) : List Nat := (List.range n).map fun r => if r < k then f r else 0
theorem rgTo_len {n k : Nat} {f : Nat → Nat} : (rgTo n f k).length = n := by unfold rgTo; simp
theorem rgTo_zero {n : Nat} {f : Nat → Nat} : List.replicate n 0 = rgTo n f 0 := by
  refine List.ext_getElem? fun q => ?_
  unfold rgTo
  rw [List.getElem?_map, List.getElem?_replicate]
  by_cases e : q < n
  · rw [if_pos e, List.getElem?_range e]; rfl
  · rw [if_neg e, List.getElem?_eq_none (by simpa using e)]; rfl
theorem rgTo_set {n k v : Nat} {f : Nat → Nat} (hk : k < n) (hv : v = f k) : (rgTo n f k).set k v = rgTo n f (k + 1) := by
  refine List.ext_getElem? fun q => ?_
  rw [List.getElem?_set]
  unfold rgTo
  by_cases e : k = q
  · subst e
    rw [if_pos rfl, if_pos (by simpa using hk), List.getElem?_map, List.getElem?_range hk]
    simp [hv]
  · rw [if_neg e, List.getElem?_map, List.getElem?_map]
    by_cases hq : q < n
    · rw [List.getElem?_range hq]
      simp only [Option.map_some]
      by_cases z : q < k
      · rw [if_pos z, if_pos (by omega)]
      · rw [if_neg z, if_neg (by omega)]
    · rw [List.getElem?_eq_none (by simpa using hq)]; rfl
theorem rgTo_same {n k : Nat} {f : Nat → Nat} (hv : f k = 0) : rgTo n f k = rgTo n f (k + 1) := by
  unfold rgTo
  refine List.map_congr_left fun q _ => ?_
  by_cases z : q < k
  · rw [if_pos z, if_pos (by omega)]
  · by_cases e : q = k
    · subst e; rw [if_neg (Nat.lt_irrefl _), if_pos (Nat.lt_succ_self _), hv]
    · rw [if_neg z, if_neg (by omega)]
theorem rgTo_all {n : Nat} {f : Nat → Nat} : rgTo n f n = (List.range n).map f := by
  unfold rgTo
  exact List.map_congr_left fun q hq => if_pos (List.mem_range.1 hq)
theorem rgTo_rep {n v : Nat} : rgTo n (fun _ => v) n = List.replicate n v := by
  rw [rgTo_all]
  refine List.ext_getElem? fun q => ?_
  rw [List.getElem?_map, List.getElem?_replicate]
  by_cases e : q < n
  · rw [if_pos e, List.getElem?_range e]; rfl
  · rw [if_neg e, List.getElem?_eq_none (by simpa using e)]; rfl
theorem rgm_get {n j : Nat} {f : Nat → Nat} (h : j < n) : ((List.range n).map f)[j]? = some (f j) := by rw [List.getElem?_map, List.getElem?_range h]; rfl
theorem getNn {l : List Nat} {n : Nat} (h : n < l.length) : l[n]? = some (l.getD n 0) := by rw [List.getD_eq_getElem?_getD, List.getElem?_eq_getElem h]; rfl
theorem cst1 {vs : List Span} {lv : Int} {k : Nat} (h : inB vs lv k = false) : 1 = cst vs lv k := by unfold cst; rw [if_neg (by rw [h]; decide)]
theorem cst0 {vs : List Span} {lv : Int} {k : Nat} (h : inB vs lv k = true) : cst vs lv k = 0 := if_pos h
theorem cst_le1 {vs : List Span} {lv : Int} (x : Nat) : cst vs lv x ≤ 1 := by unfold cst; split <;> omega
theorem mu_gap {W H : Nat} {M : Nat → Bool} {C : Nat → Nat} {p q r : Nat} {out out2 : List Nat} {ch ch2 : Bool} (h : GR W H M C p out q r out2 ch2) (hg : ch = true) : 2 * out2.sum + ch2.toNat < 2 * out.sum + ch.toNat := by
  have h1 := h.le; have h2 := h.lt
  subst hg
  cases ch2 with
  | false => show 2 * out2.sum + 0 < 2 * out.sum + 1; omega
  | true => have := h2 rfl; show 2 * out2.sum + 1 < 2 * out.sum + 1; omega

set_option maxRecDepth 20000 in
theorem rGap_e (g : Grid) (vs : List Span) (pv : Option Addr) (cv : Nat) (lv p q : Int) (w : World) (hv : Spans w pv vs) (hne : pixE g vs lv p q ≠ 0) :
  Calls Try.prog 23 #[fieldV g pv vs.length cv, .int .i64 lv, .int .i64 p, .int .i64 q] w fun e w' => e = .returned (.tuple #[.int .i64 0, .int .i64 (pixE g vs lv p q)]) ∧ St (bs w) [] w' := by
  refine enter (vs := [_,_,_,_]) (env := [(0,_), (1,_), (2,_), (3,_)]) Try.func23 rfl rfl rfl rfl ?_
  refine VC.seq ?_
  refine VC.reg (VO.h rfl<|HO.box (C := #[_,_,_,_,_,_]) rfl rfl fun b1 => VO.l (LO.as (.r rfl)) rfl<|VO.l (LO.as (.r rfl)) rfl<|VO.nil ?_)
  refine VE.seqN ?_
  refine VC.seq ?_
  refine VC.reg (VO.l (LO.lda (vs := [_,_,_,_,_,_]) A26 (.r rfl) (fun _ hw => cells_at hw 0 rfl ⟨_, rfl⟩) rfl) rfl<|VO.l (LO.mv (.r rfl)) rfl<|VO.l (LO.mv (.r rfl)) rfl<|VO.l (LO.mv (.r rfl)) rfl<|VO.l (LO.call (xs := [_,_,_,_]) (vs := [_,_,_,_]) C65 ⟨(.r rfl), (.r rfl), (.r rfl), (.r rfl), trivial⟩ (fun w2 hw => rPixels_c g vs pv cv lv p q w2 (hv.keep w2 hw))) rfl<|VO.l (LO.as (.r rfl)) rfl<|VO.nil ?_)
  refine VE.seqN ?_
  refine VC.seq ?_
  refine VC.seq ?_
  refine VC.reg (VO.l (LO.mv (.r rfl)) rfl<|VO.l (LO.ne (.r rfl) (.r rfl)) rfl<|VO.nil ?_)
  refine VE.seqN ?_
  refine VC.cond rfl (fun h27 => ?_) (fun h27 => ?_)
  ·
    refine VC.seq ?_
    refine VC.reg (VO.l (LO.mv (.r rfl)) rfl<|VO.l (LO.as (.r rfl)) rfl<|VO.l (LO.as (.r rfl)) rfl<|VO.nil ?_)
    refine VE.seqN ?_
    refine VC.ret (VE.thenR (VE.res (vs := [_,_]) rfl ⟨rfl, rfl, trivial⟩ (fun w hw => ?_)))
    exact ⟨rfl, hw.nil⟩
  ·
    (exfalso; exact hne (Classical.not_not.1 h27))

set_option maxRecDepth 20000 in
set_option maxHeartbeats 16000000 in
theorem rGap_ok (g : Grid) (vs : List Span) (pv : Option Addr) (cv : Nat) (lv : Int) (p q : Nat) (w : World) (hv : Spans w pv vs) (hpx : pixE g vs lv p q = 0) :
  Calls Try.prog 23 #[fieldV g pv vs.length cv, .int .i64 lv, .int .i64 (p : Int), .int .i64 (q : Int)] w fun e w' => ∃ z : Int, IsGap (gW g) (gH g) (mayB vs lv) (cst vs lv) p q z ∧ e = .returned (.tuple #[.int .i64 z, .int .i64 0]) ∧ St (bs w) [] w' := by
  obtain ⟨hok, a, b, ea, eb, ha, hb⟩ := pixOk hpx
  have hp : p < vs.length := by omega
  have hq : q < vs.length := by omega
  obtain ⟨hg, hlen, hok2, hlv1, hlv2⟩ := openOk hok
  have hvl : vs.length = gW g * gH g := len_n hg hlen
  have hgr := hg
  have hle := area_le hg
  obtain ⟨hW, hH, hW1, hW2, hH1, hH2⟩ := gWi hg
  have hp2 : p < gW g * gH g := by omega
  have hq2 : q < gW g * gH g := by omega
  refine enter (vs := [_,_,_,_]) (env := [(0,_), (1,_), (2,_), (3,_)]) Try.func23 rfl rfl rfl rfl ?_
  refine VC.seq ?_
  refine VC.reg (VO.h rfl<|HO.box (C := #[_,_,_,_,_,_]) rfl rfl fun b1 => VO.l (LO.as (.r rfl)) rfl<|VO.l (LO.as (.r rfl)) rfl<|VO.nil ?_)
  refine VE.seqN ?_
  refine VC.seq ?_
  refine VC.reg (VO.l (LO.lda (vs := [_,_,_,_,_,_]) A26 (.r rfl) (fun _ hw => cells_at hw 0 rfl ⟨_, rfl⟩) rfl) rfl<|VO.l (LO.mv (.r rfl)) rfl<|VO.l (LO.mv (.r rfl)) rfl<|VO.l (LO.mv (.r rfl)) rfl<|VO.l (LO.call (xs := [_,_,_,_]) (vs := [_,_,_,_]) C65 ⟨(.r rfl), (.r rfl), (.r rfl), (.r rfl), trivial⟩ (fun w2 hw => rPixels_c g vs pv cv lv (p : Int) (q : Int) w2 (hv.keep w2 hw))) rfl<|VO.l (LO.as (.r rfl)) rfl<|VO.nil ?_)
  refine VE.seqN ?_
  refine VC.seq ?_
  refine VC.seq ?_
  refine VC.reg (VO.l (LO.mv (.r rfl)) rfl<|VO.l (LO.ne (.r rfl) (.r rfl)) rfl<|VO.nil ?_)
  refine VE.seqN ?_
  refine VC.cond rfl (fun h27 => ?_) (fun h27 => ?_)
  ·
    (exfalso; exact h27 hpx)
  ·
    refine VC.skip (VE.seqN ?_)
    refine VC.seq ?_
    refine VC.drawH [[0], [0], [0], [0], [0]] [some 0, some 0, none, some 1, some 1, none, none, none] mixed (by kernel_rfl) rfl (LX.l (fun _ hJ => LO.lda (vs := [_,_,_,_,_,_]) A26 (.r rfl) (fun _ hw => cells_at (hJ _ hw) 0 rfl ⟨_, rfl⟩) rfl) rfl<|LX.l (fun _ hJ => LO.mv (.r rfl)) rfl<|LX.s<|LX.l (fun _ hJ => LO.lda (vs := [_,_,_,_,_,_]) A26 (.r rfl) (fun _ hw => cells_at (hJ _ hw) 0 rfl ⟨_, rfl⟩) rfl) rfl<|LX.l (fun _ hJ => LO.mv (.r rfl)) rfl<|LX.s<|LX.s<|LX.s<|LX.nil) (HX.s<|HX.s<|HX.h rfl<|HO.callx (xs := [_,_]) (vs := [_,_]) C68 ⟨(.r rfl), (.r rfl), trivial⟩ (fun w2 hw => rMay_c g vs pv cv lv w2 (hv.keep w2 hw) (by omega)) fun y1 _ => ⟨fun _ hw => hw.sel [1] rfl, HX.s<|HX.s<|HX.h rfl<|HO.callx (xs := [_,_]) (vs := [_,_]) C67 ⟨(.r rfl), (.r rfl), trivial⟩ (fun w2 hw => rIn_c g vs pv cv lv w2 (hv.keep w2 hw) (by omega)) fun y2 _ => ⟨fun _ hw => hw.sel [2] rfl, HX.h rfl<|HO.lo (LO.as (.r rfl))<|⟨fun _ hw => hw.sel [2] rfl, HX.h rfl<|HO.lo (LO.as (.r rfl))<|⟨fun _ hw => hw.sel [2] rfl, HX.nil ?_⟩⟩⟩⟩)
    refine VE.seqN ?_
    refine VC.seq ?_
    refine VC.reg (VO.l (LO.fa (r := 5) F26_1 (.r rfl) rfl) rfl<|VO.l (LO.ld O24 (.r rfl) (fun _ hw => cells_at hw 2 rfl ⟨_, rfl⟩)) rfl<|VO.l (LO.len S24 (.r rfl) rfl) rfl<|VO.l (LO.eqv (LO.add (.r rfl) (.r rfl) (wi (by omega) (by omega))) (congrArg (Value.int .i64) (show (vs.length : Int) + 1 = ((vs.length + 1 : Nat) : Int) by omega))) rfl<|VO.l (LO.as (.r rfl)) rfl<|VO.nil ?_)
    refine VE.seqN ?_
    refine VC.seq ?_
    refine VC.reg (VO.l (LO.fa (r := 5) F26_1 (.r rfl) rfl) rfl<|VO.l (LO.ld O24 (.r rfl) (fun _ hw => cells_at hw 2 rfl ⟨_, rfl⟩)) rfl<|VO.l (LO.len S24 (.r rfl) rfl) rfl<|VO.h rfl<|HO.mksM (f := nC) (z0 := 0) (n := vs.length) rfl S40 I3 (.r rfl) (.r rfl) rfl (by decide) (by omega) (by omega) fun b6 => VO.h rfl<|HO.lo (LO.as (.r rfl))<|VO.nil ?_)
    rw [show List.replicate vs.length 0 = rgTo vs.length (fun _ => vs.length + 1) 0 from rgTo_zero]
    refine VE.seqN ?_
    refine VC.seq ?_
    refine VC.seq ?_
    refine VC.reg (VO.l (LO.as (.r rfl)) rfl<|VO.nil ?_)
    refine VE.seqN ?_
    refine VC.block ?_
    refine VC.loopK (α := Nat) 1 (fun gx => [(15, .int .i64 (gx : Nat))]) [(2,_), (3,_), (4,_), (11,_), (12,_), (13,_), (14,_)] (fun gx => [own 3 1 (some ⟨b6,0, none⟩) vs.length ((rgTo vs.length (fun _ => vs.length + 1) gx).map nC)]) (fun gx => gx ≤ vs.length) (fun gx => vs.length - gx) 0 (by exact Nat.zero_le _) (.cons rfl (.cons rfl (.cons rfl (.cons rfl (.cons rfl (.cons rfl (.cons rfl (.cons rfl .nil)))))))) (fun _ h => h) ?_
    rintro k hk
    refine VC.seq ?_
    refine VC.seq ?_
    refine VC.reg (VO.l (LO.mv (.r rfl)) rfl<|VO.l (LO.mv (.r rfl)) rfl<|VO.l (LO.len S40 (.r rfl) rfl) rfl<|VO.l (LO.lt (.r rfl) (.r rfl)) rfl<|VO.nil ?_)
    refine VE.seqN ?_
    refine VC.cond rfl (fun h46 => ?_) (fun h46 => ?_)
    ·
      refine VC.skip (VE.seqN ?_)
      refine VC.seq ?_
      refine VC.block ?_
      refine VC.reg (VO.l (LO.mv (.r rfl)) rfl<|VO.l (LO.mv (.r rfl)) rfl<|VO.l (LO.mv (.r rfl)) rfl<|VO.l (LO.ixo S40 N3 (fun _ hw => (own_rows hw 0 rfl).some (by rw [List.length_map]; first | omega | (rw [rgTo_len]) | (simp; done) | (simp; omega))) (.r rfl) (.r rfl) rfl (by omega)) rfl<|VO.h0<|HO.stm 0 (fun R => [R,_,_,_]) ((vs.length + 1)) (vs := [_]) N3 (.r rfl) (.r rfl) rfl (by rw [rgTo_len]; omega) rfl rfl rfl rfl rfl (fun _ => rfl)<|VO.nil ?_)
      rw [rgTo_set (by omega) rfl]
      refine VE.inN (VE.seqN ?_)
      refine VC.reg (VO.l (LO.mv (.r rfl)) rfl<|VO.l (LO.add (.r rfl) (.r rfl) (wi (by omega) (by omega))) rfl<|VO.l (LO.as (.r rfl)) rfl<|VO.nil ?_)
      refine VE.thenN fun a w ha hw => ⟨k + 1, (by omega), (by omega), ha.sub (.cons rfl (.cons rfl (.cons rfl (.cons rfl (.cons rfl (.cons rfl (.cons rfl (.cons rfl .nil)))))))), hw⟩
    ·
      have hke : k = vs.length := by omega
      subst hke
      rw [rgTo_rep]
      refine VC.exit (VE.thenX (VE.thenX (VE.inX (VE.seqN ?_))))
      refine VC.seq ?_
      refine VC.reg (VO.l (LO.fa (r := 5) F26_1 (.r rfl) rfl) rfl<|VO.l (LO.ld O24 (.r rfl) (fun _ hw => cells_at hw 3 rfl ⟨_, rfl⟩)) rfl<|VO.l (LO.len S24 (.r rfl) rfl) rfl<|VO.h rfl<|HO.mksM (f := nC) (z0 := 0) (n := vs.length) rfl S40 I3 (.r rfl) (.r rfl) rfl (by decide) (by omega) (by omega) fun b7 => VO.h rfl<|HO.lo (LO.as (.r rfl))<|VO.nil ?_)
      rw [show List.replicate vs.length 0 = rgTo vs.length (cst vs lv) 0 from rgTo_zero]
      refine VE.seqN ?_
      refine VC.seq ?_
      refine VC.seq ?_
      refine VC.reg (VO.l (LO.as (.r rfl)) rfl<|VO.nil ?_)
      refine VE.seqN ?_
      refine VC.block ?_
      refine VC.loopK (α := Nat) 1 (fun gx => [(17, .int .i64 (gx : Nat))]) [(2,_), (3,_), (4,_), (11,_), (12,_), (13,_), (14,_), (16,_)] (fun gx => [own 3 1 (some ⟨b7,0, none⟩) vs.length ((rgTo vs.length (cst vs lv) gx).map nC)]) (fun gx => gx ≤ vs.length) (fun gx => vs.length - gx) 0 (by exact Nat.zero_le _) (.cons rfl (.cons rfl (.cons rfl (.cons rfl (.cons rfl (.cons rfl (.cons rfl (.cons rfl (.cons rfl .nil))))))))) (fun _ h => h) ?_
      rintro k hk
      refine VC.seq ?_
      refine VC.seq ?_
      refine VC.reg (VO.l (LO.mv (.r rfl)) rfl<|VO.l (LO.mv (.r rfl)) rfl<|VO.l (LO.len S40 (.r rfl) rfl) rfl<|VO.l (LO.lt (.r rfl) (.r rfl)) rfl<|VO.nil ?_)
      refine VE.seqN ?_
      refine VC.cond rfl (fun h60 => ?_) (fun h60 => ?_)
      ·
        refine VC.skip (VE.seqN ?_)
        refine VC.seq ?_
        refine VC.block ?_
        refine VC.seq ?_
        refine VC.reg (VO.l (LO.mv (.r rfl)) rfl<|VO.l (LO.mv (.r rfl)) rfl<|VO.l (LO.ixo S142 N4 (fun _ hw => (own_rows hw 2 rfl).some (by rw [List.length_map])) (.r rfl) (.r rfl) rfl (by rw [setB_len]; omega)) rfl<|VO.l (LO.ld O4 (.r rfl) (fun w hw => cells_part (off := 0) (own_cell hw 2 rfl (setB_get (S := inB vs lv) (q := k) (by omega))) ⟨_, rfl⟩)) rfl<|VO.l (LO.not (.r rfl)) rfl<|VO.nil ?_)
        refine VE.seqN ?_
        refine VC.cond rfl (fun h67 => ?_) (fun h67 => ?_)
        ·
          have hink : inB vs lv k = false := by simpa using h67
          refine VC.reg (VO.l (LO.mv (.r rfl)) rfl<|VO.l (LO.mv (.r rfl)) rfl<|VO.l (LO.ixo S40 N3 (fun _ hw => (own_rows hw 0 rfl).some (by rw [List.length_map]; first | (rw [rgTo_len]) | (simp; done))) (.r rfl) (.r rfl) rfl (by omega)) rfl<|VO.h0<|HO.stm 0 (fun R => [R,_,_,_,_]) (1) (vs := [_]) N3 (.r rfl) (.r rfl) rfl (by rw [rgTo_len]; omega) rfl rfl rfl rfl rfl (fun _ => rfl)<|VO.nil ?_)
          rw [rgTo_set (by omega) (cst1 hink)]
          refine VE.inN (VE.seqN ?_)
          refine VC.reg (VO.l (LO.mv (.r rfl)) rfl<|VO.l (LO.add (.r rfl) (.r rfl) (wi (by omega) (by omega))) rfl<|VO.l (LO.as (.r rfl)) rfl<|VO.nil ?_)
          refine VE.thenN fun a w ha hw => ⟨k + 1, (by omega), (by omega), ha.sub (.cons rfl (.cons rfl (.cons rfl (.cons rfl (.cons rfl (.cons rfl (.cons rfl (.cons rfl (.cons rfl .nil))))))))), hw⟩
        ·
          have hink : inB vs lv k = true := by simpa using h67
          refine VC.skip (VE.inN (VE.seqN ?_))
          refine VC.reg (VO.l (LO.mv (.r rfl)) rfl<|VO.l (LO.add (.r rfl) (.r rfl) (wi (by omega) (by omega))) rfl<|VO.l (LO.as (.r rfl)) rfl<|VO.nil ?_)
          rw [rgTo_same (cst0 hink)]
          refine VE.thenN fun a w ha hw => ⟨k + 1, (by omega), (by omega), ha.sub (.cons rfl (.cons rfl (.cons rfl (.cons rfl (.cons rfl (.cons rfl (.cons rfl (.cons rfl (.cons rfl .nil))))))))), hw⟩
      ·
        have hke : k = vs.length := by omega
        subst hke
        rw [rgTo_all]
        refine VC.exit (VE.thenX (VE.thenX (VE.inX (VE.seqN ?_))))
        refine VC.seq ?_
        refine VC.seq ?_
        refine VC.reg (VO.l (LO.mv (.r rfl)) rfl<|VO.l (LO.mv (.r rfl)) rfl<|VO.l (LO.ixo S142 N4 (fun _ hw => (own_rows hw 3 rfl).some (by rw [List.length_map])) (.r rfl) (.r rfl) rfl (by rw [setB_len]; omega)) rfl<|VO.l (LO.ld O4 (.r rfl) (fun w hw => cells_part (off := 0) (own_cell hw 3 rfl (setB_get (S := mayB vs lv) (q := p) (by omega))) ⟨_, rfl⟩)) rfl<|VO.nil ?_)
        refine VE.seqN ?_
        refine VC.cond rfl (fun h74 => ?_) (fun h74 => ?_)
        ·
          have hDG : DG (gW g) (gH g) (mayB vs lv) (cst vs lv) p ((List.replicate vs.length (vs.length + 1)).set p (cst vs lv p)) := by rw [hvl]; exact DG.zero1 hp2 h74 (cst_le1 p)
          refine VC.reg (VO.l (LO.mv (.r rfl)) rfl<|VO.l (LO.mv (.r rfl)) rfl<|VO.l (LO.mv (.r rfl)) rfl<|VO.l (LO.mv (.r rfl)) rfl<|VO.l (LO.ixo S40 N3 (fun _ hw => (own_rows hw 0 rfl).some (by rw [List.length_map]; first | (rw [rgTo_len]) | (simp; done))) (.r rfl) (.r rfl) rfl (by omega)) rfl<|VO.l (LO.ld O3 (.r rfl) (fun w hw => cells_part (off := 0) (own_cell hw 0 rfl (rgm_get (f := cst vs lv) (j := p) (by omega))) ⟨_, rfl⟩)) rfl<|VO.l (LO.ixo S40 N3 (fun _ hw => (own_rows hw 1 rfl).some (by rw [List.length_map]; first | omega | (rw [rgTo_len]) | (simp; done) | (simp; omega))) (.r rfl) (.r rfl) rfl (by omega)) rfl<|VO.h0<|HO.stm 1 (fun R => [_, R,_,_,_]) ((cst vs lv p)) (vs := [_]) N3 (.r rfl) (.r rfl) rfl (by simp; omega) rfl rfl rfl rfl rfl (fun _ => rfl)<|VO.nil ?_)
          refine VE.seqN ?_
          refine VC.seq ?_
          refine VC.seq ?_
          refine VC.reg (VO.l (LO.as (.r rfl)) rfl<|VO.nil ?_)
          refine VE.seqN ?_
          refine VC.block ?_
          refine VC.perm [1,0,2,3,4] rfl ?_
          refine VC.loopK (α := (List Nat) × Bool) 1 (fun gx => [(18, .bool gx.2)]) [(3,_), (4,_), (11,_), (13,_), (14,_), (16,_)] (fun gx => [own 3 1 (some ⟨b6,0, none⟩) vs.length (gx.1.map nC)]) (fun gx => DG (gW g) (gH g) (mayB vs lv) (cst vs lv) p gx.1 ∧ (gx.2 = false → ∀ q, q < gW g * gH g → IsGap (gW g) (gH g) (mayB vs lv) (cst vs lv) p q (if gW g * gH g + 1 ≤ gx.1.getD q 0 then -1 else (gx.1.getD q 0 : Int)))) (fun gx => 2 * gx.1.sum + gx.2.toNat) (((List.replicate vs.length (vs.length + 1)).set p (cst vs lv p)), true) (by exact ⟨hDG, fun z => by cases z⟩) (.cons rfl (.cons rfl (.cons rfl (.cons rfl (.cons rfl (.cons rfl (.cons rfl .nil))))))) (fun _ h => h) ?_
          rintro ⟨out, ch⟩ ⟨hDG, hfin⟩
          show VC _ _ _ _ _ ([(18, .bool ch)] ++ _) ([own 3 1 (some ⟨b6,0, none⟩) vs.length (out.map nC)] ++ _) _ _
          dsimp only at hDG hfin
          have holn := hDG.len
          refine VC.seq ?_
          refine VC.seq ?_
          refine VC.reg (VO.l (LO.mv (.r rfl)) rfl<|VO.nil ?_)
          refine VE.seqN ?_
          refine VC.cond rfl (fun h82 => ?_) (fun h82 => ?_)
          ·
            refine VC.skip (VE.seqN ?_)
            refine VC.block ?_
            refine VC.seq ?_
            refine VC.reg (VO.l (LO.as (.r rfl)) rfl<|VO.nil ?_)
            refine VE.seqN ?_
            refine VC.seq ?_
            refine VC.reg (VO.l (LO.as (.r rfl)) rfl<|VO.nil ?_)
            refine VE.seqN ?_
            refine VC.block ?_
            refine VC.loopK (α := Nat × (List Nat) × Bool) 1 (fun gx => [(18, .bool gx.2.2), (19, .int .i64 (gx.1 : Nat))]) [(3,_), (4,_), (11,_), (13,_), (14,_), (16,_)] (fun gx => [own 3 1 (some ⟨b6,0, none⟩) vs.length (gx.2.1.map nC)]) (fun gx => gx.1 ≤ gW g * gH g ∧ GR (gW g) (gH g) (mayB vs lv) (cst vs lv) p out gx.1 0 gx.2.1 gx.2.2) (fun gx => gW g * gH g - gx.1) (0, out, false) (by exact ⟨Nat.zero_le _, GR.zero hDG⟩) (.cons rfl (.cons rfl (.cons rfl (.cons rfl (.cons rfl (.cons rfl (.cons rfl (.cons rfl .nil)))))))) (fun _ h => h) ?_
            rintro ⟨r, out2, ch2⟩ ⟨hr, hGR⟩
            show VC _ _ _ _ _ ([(18, .bool ch2), (19, .int .i64 (r : Nat))] ++ _) ([own 3 1 (some ⟨b6,0, none⟩) vs.length (out2.map nC)] ++ _) _ _
            dsimp only at hr hGR
            have hol2 := hGR.dg.len
            refine VC.seq ?_
            refine VC.seq ?_
            refine VC.reg (VO.l (LO.mv (.r rfl)) rfl<|VO.l (LO.mv (.r rfl)) rfl<|VO.l (LO.len S40 (.r rfl) rfl) rfl<|VO.l (LO.lt (.r rfl) (.r rfl)) rfl<|VO.nil ?_)
            refine VE.seqN ?_
            refine VC.cond rfl (fun h86 => ?_) (fun h86 => ?_)
            ·
              refine VC.skip (VE.seqN ?_)
              refine VC.seq ?_
              refine VC.block ?_
              refine VC.seq ?_
              refine VC.reg (VO.l (LO.mv (.r rfl)) rfl<|VO.l (LO.fa (r := 0) F26_0 (.r rfl) rfl) rfl<|VO.l (LO.fa (r := 3) F23_3 (.r rfl) rfl) rfl<|VO.l (LO.ld O3 (.r rfl) (fun _ hw => cells_at hw 4 rfl ⟨_, rfl⟩)) rfl<|VO.l (LO.sub (.r rfl) (.r rfl) (wi (by omega) (by omega))) rfl<|VO.l (LO.eqv (LO.max (.r rfl) (.r rfl)) (congrArg (Value.int .i64) (show Max.max (0 : Int) ((r : Int) - g.wide) = ((r - gW g : Nat) : Int) by omega))) rfl<|VO.l (LO.as (.r rfl)) rfl<|VO.nil ?_)
              refine VE.seqN ?_
              refine VC.block ?_
              refine VC.loopK (α := Nat × (List Nat) × Bool) 1 (fun gx => [(18, .bool gx.2.2), (20, .int .i64 (gx.1 : Nat))]) [(3,_), (4,_), (11,_), (13,_), (14,_), (16,_), (19,_)] (fun gx => [own 3 1 (some ⟨b6,0, none⟩) vs.length (gx.2.1.map nC)]) (fun gx => gx.1 ≤ gW g * gH g ∧ GR (gW g) (gH g) (mayB vs lv) (cst vs lv) p out r gx.1 gx.2.1 gx.2.2) (fun gx => gW g * gH g - gx.1) ((r - gW g), out2, ch2) (by exact ⟨by dsimp only; omega, hGR.enter (by omega)⟩) (.cons rfl (.cons rfl (.cons rfl (.cons rfl (.cons rfl (.cons rfl (.cons rfl (.cons rfl (.cons rfl .nil))))))))) (fun _ h => h) ?_
              rintro ⟨s, out3, ch3⟩ ⟨hs, hG3⟩
              show VC _ _ _ _ _ ([(18, .bool ch3), (20, .int .i64 (s : Nat))] ++ _) ([own 3 1 (some ⟨b6,0, none⟩) vs.length (out3.map nC)] ++ _) _ _
              dsimp only at hs hG3
              have hol3 := hG3.dg.len
              refine VC.seq ?_
              refine VC.seq ?_
              refine VC.reg (VO.l (LO.mv (.r rfl)) rfl<|VO.l (LO.mv (.r rfl)) rfl<|VO.l (LO.fa (r := 0) F26_0 (.r rfl) rfl) rfl<|VO.l (LO.fa (r := 3) F23_3 (.r rfl) rfl) rfl<|VO.l (LO.ld O3 (.r rfl) (fun _ hw => cells_at hw 4 rfl ⟨_, rfl⟩)) rfl<|VO.l (LO.add (.r rfl) (.r rfl) (wi (by omega) (by omega))) rfl<|VO.l (LO.le (.r rfl) (.r rfl)) rfl<|VO.l (LO.mv (.r rfl)) rfl<|VO.lg rfl rfl (GD.t _) (fun hg => LO.mv (.r rfl)) rfl<|VO.lg rfl rfl (GD.t _) (fun hg => LO.mv (.r rfl)) rfl<|VO.lg rfl rfl (GD.t _) (fun hg => LO.len S40 (.g hg rfl) rfl) rfl<|VO.lg rfl rfl (GD.t _) (fun hg => LO.lt (.g hg rfl) (.g hg rfl)) rfl<|VO.l (LO.pkA (.r rfl) rfl rfl (.r rfl)) rfl<|VO.nil ?_)
              refine VE.seqN ?_
              refine VC.cond rfl (fun h107 => ?_) (fun h107 => ?_)
              ·
                have hbs := hG3.dg.bd s (by omega)
                have hbr := hG3.dg.bd r (by omega)
                have hcr := cst_le1 (vs := vs) (lv := lv) r
                refine VC.skip (VE.seqN ?_)
                refine VC.seq ?_
                refine VC.block ?_
                refine VC.seq ?_
                refine VC.draw mixed (LL.l (LO.mv (.r rfl)) rfl<|LL.l (LO.mv (.r rfl)) rfl<|LL.l (LO.ixo S142 N4 (fun _ hw => (own_rows hw 3 rfl).some (by rw [List.length_map])) (.r rfl) (.r rfl) rfl (by rw [setB_len]; omega)) rfl<|LL.l (LO.ld O4 (.r rfl) (fun w hw => cells_part (off := 0) (own_cell hw 3 rfl (setB_get (S := mayB vs lv) (q := r) (by omega))) ⟨_, rfl⟩)) rfl<|LL.l (LO.mv (.r rfl)) rfl<|LL.lg rfl rfl (GD.t _) (fun hg => LO.fa (r := 0) F26_0 (.r rfl) rfl) rfl<|LL.lg rfl rfl (GD.t _) (fun hg => LO.lda (vs := [_,_,_,_,_]) A23 (.g hg rfl) (fun _ hw => cells_at hw 4 rfl ⟨_, rfl⟩) rfl) rfl<|LL.lg rfl rfl (GD.t _) (fun hg => LO.mv (.r rfl)) rfl<|LL.lg rfl rfl (GD.t _) (fun hg => LO.mv (.r rfl)) rfl<|LL.lg rfl rfl (GD.t _) (fun hg => LO.call (xs := [_,_,_]) (vs := [_,_,_]) C72 ⟨(.g hg rfl), (.g hg rfl), (.g hg rfl), trivial⟩ (fun w2 hw => rNear_c g r s w2 hgr (by omega) (by omega))) rfl<|LL.l (LO.pkA (.r rfl) rfl rfl (.r rfl)) rfl<|LL.l (LO.mv (.r rfl)) rfl<|LL.lg rfl rfl (GD.t _) (fun hg => LO.mv (.r rfl)) rfl<|LL.lg rfl rfl (GD.t _) (fun hg => LO.mv (.r rfl)) rfl<|LL.lg rfl rfl (GD.t _) (fun hg => LO.ixo S40 N3 (fun _ hw => (own_rows hw 0 rfl).some (by rw [List.length_map]; first | omega | (rw [rgTo_len]) | (simp; done) | (simp; omega))) (.g hg rfl) (.g hg rfl) rfl (by omega)) rfl<|LL.lg rfl rfl (GD.t _) (fun hg => LO.ld O3 (.g hg rfl) (fun w hw => cells_part (off := 0) (own_cell hw 0 rfl (getNn (n := s) (by first | omega | (rw [rgTo_len]; omega) | (simp; omega)))) ⟨_, rfl⟩)) rfl<|LL.lg rfl rfl (GD.t _) (fun hg => LO.mv (.r rfl)) rfl<|LL.lg rfl rfl (GD.t _) (fun hg => LO.mv (.r rfl)) rfl<|LL.lg rfl rfl (GD.t _) (fun hg => LO.ixo S40 N3 (fun _ hw => (own_rows hw 1 rfl).some (by rw [List.length_map]; first | (rw [rgTo_len]) | (simp; done))) (.g hg rfl) (.g hg rfl) rfl (by omega)) rfl<|LL.lg rfl rfl (GD.t _) (fun hg => LO.ld O3 (.g hg rfl) (fun w hw => cells_part (off := 0) (own_cell hw 1 rfl (rgm_get (f := cst vs lv) (j := r) (by omega))) ⟨_, rfl⟩)) rfl<|LL.lg rfl rfl (GD.t _) (fun hg => LO.add (.g hg rfl) (.g hg rfl) (wi (by omega) (by omega))) rfl<|LL.lg rfl rfl (GD.t _) (fun hg => LO.mv (.r rfl)) rfl<|LL.lg rfl rfl (GD.t _) (fun hg => LO.mv (.r rfl)) rfl<|LL.lg rfl rfl (GD.t _) (fun hg => LO.ixo S40 N3 (fun _ hw => (own_rows hw 0 rfl).some (by rw [List.length_map]; first | omega | (rw [rgTo_len]) | (simp; done) | (simp; omega))) (.g hg rfl) (.g hg rfl) rfl (by omega)) rfl<|LL.lg rfl rfl (GD.t _) (fun hg => LO.ld O3 (.g hg rfl) (fun w hw => cells_part (off := 0) (own_cell hw 0 rfl (getNn (n := r) (by first | omega | (rw [rgTo_len]; omega) | (simp; omega)))) ⟨_, rfl⟩)) rfl<|LL.lg rfl rfl (GD.t _) (fun hg => LO.lt (.g hg rfl) (.g hg rfl)) rfl<|LL.l (LO.pkA (.r rfl) rfl rfl (.r rfl)) rfl<|LL.nil) (by kernel_rfl) ?_
                refine VE.seqN ?_
                refine VC.cond rfl (fun h136 => ?_) (fun h136 => ?_)
                ·
                  refine VC.seq ?_
                  refine VC.drawH [[0,1,2,3,4], [1,2,3,4]] [some 0, some 0, some 0, some 0, some 0, some 0, some 0, some 0, some 0, some 0, some 0, some 0, none] mixed (by kernel_rfl) rfl (LX.l (fun _ hJ => LO.mv (.r rfl)) rfl<|LX.l (fun _ hJ => LO.mv (.r rfl)) rfl<|LX.l (fun _ hJ => LO.mv (.r rfl)) rfl<|LX.l (fun _ hJ => LO.mv (.r rfl)) rfl<|LX.l (fun _ hJ => LO.ixo S40 N3 (fun _ hw => (own_rows (hJ _ hw) 0 rfl).some (by rw [List.length_map]; first | omega | (rw [rgTo_len]) | (simp; done) | (simp; omega))) (.r rfl) (.r rfl) rfl (by omega)) rfl<|LX.l (fun _ hJ => LO.ld O3 (.r rfl) (fun w hw => cells_part (off := 0) (own_cell (hJ _ hw) 0 rfl (getNn (n := s) (by first | omega | (rw [rgTo_len]; omega) | (simp; omega)))) ⟨_, rfl⟩)) rfl<|LX.l (fun _ hJ => LO.mv (.r rfl)) rfl<|LX.l (fun _ hJ => LO.mv (.r rfl)) rfl<|LX.l (fun _ hJ => LO.ixo S40 N3 (fun _ hw => (own_rows (hJ _ hw) 1 rfl).some (by rw [List.length_map]; first | (rw [rgTo_len]) | (simp; done))) (.r rfl) (.r rfl) rfl (by omega)) rfl<|LX.l (fun _ hJ => LO.ld O3 (.r rfl) (fun w hw => cells_part (off := 0) (own_cell (hJ _ hw) 1 rfl (rgm_get (f := cst vs lv) (j := r) (by omega))) ⟨_, rfl⟩)) rfl<|LX.l (fun _ hJ => LO.eqv (LO.add (.r rfl) (.r rfl) (wi (by omega) (by omega))) (congrArg (Value.int .i64) (Int.natCast_add _ _).symm)) rfl<|LX.l (fun _ hJ => LO.ixo S40 N3 (fun _ hw => (own_rows (hJ _ hw) 0 rfl).some (by rw [List.length_map]; first | omega | (rw [rgTo_len]) | (simp; done) | (simp; omega))) (.r rfl) (.r rfl) rfl (by omega)) rfl<|LX.s<|LX.nil) (HX.s<|HX.s<|HX.s<|HX.s<|HX.s<|HX.s<|HX.s<|HX.s<|HX.s<|HX.s<|HX.s<|HX.s<|HX.h0<|HO.stm 0 (fun R => [R,_,_,_,_]) ((out3.getD s 0 + cst vs lv r)) (vs := [_]) N3 (.r rfl) (.r rfl) rfl (by omega) rfl rfl rfl rfl rfl (fun _ => rfl)<|⟨fun _ hw => hw.sel [1,2,3,4] rfl, HX.nil ?_⟩)
                  refine VE.seqN ?_
                  refine VC.reg (VO.l (LO.as (.r rfl)) rfl<|VO.nil ?_)
                  refine VE.inN (VE.seqN ?_)
                  refine VC.reg (VO.l (LO.mv (.r rfl)) rfl<|VO.l (LO.add (.r rfl) (.r rfl) (wi (by omega) (by omega))) rfl<|VO.l (LO.as (.r rfl)) rfl<|VO.nil ?_)
                  refine VE.thenN fun a w ha hw => ⟨(s + 1, out3.set r (out3.getD s 0 + cst vs lv r), true), ⟨by dsimp only; omega, hG3.yes (by omega) (by omega) h136.1.1 ((near_nb (by omega) (by omega)).1 h136.1.2) (by have := h136.2; omega)⟩, (by dsimp only; omega), ha.sub (.cons rfl (.cons rfl (.cons rfl (.cons rfl (.cons rfl (.cons rfl (.cons rfl (.cons rfl (.cons rfl .nil))))))))), hw⟩
                ·
                  refine VC.skip (VE.inN (VE.seqN ?_))
                  refine VC.reg (VO.l (LO.mv (.r rfl)) rfl<|VO.l (LO.add (.r rfl) (.r rfl) (wi (by omega) (by omega))) rfl<|VO.l (LO.as (.r rfl)) rfl<|VO.nil ?_)
                  refine VE.thenN fun a w ha hw => ⟨(s + 1, out3, ch3), ⟨by dsimp only; omega, hG3.no fun z => h136 ⟨⟨z.1, (near_nb (by omega) (by omega)).2 z.2.1⟩, by have := z.2.2; omega⟩⟩, (by dsimp only; omega), ha.sub (.cons rfl (.cons rfl (.cons rfl (.cons rfl (.cons rfl (.cons rfl (.cons rfl (.cons rfl (.cons rfl .nil))))))))), hw⟩
              ·
                refine VC.exit (VE.thenX (VE.thenX (VE.inX (VE.inN (VE.seqN ?_)))))
                refine VC.reg (VO.l (LO.mv (.r rfl)) rfl<|VO.l (LO.add (.r rfl) (.r rfl) (wi (by omega) (by omega))) rfl<|VO.l (LO.as (.r rfl)) rfl<|VO.nil ?_)
                refine VE.thenN fun a w ha hw => ⟨(r + 1, out3, ch3), ⟨by dsimp only; omega, hG3.next (by omega) (by omega)⟩, (by dsimp only; omega), ha.sub (.cons rfl (.cons rfl (.cons rfl (.cons rfl (.cons rfl (.cons rfl (.cons rfl (.cons rfl .nil)))))))), hw⟩
            ·
              have hre : r = gW g * gH g := by omega
              subst hre
              refine VC.exit (VE.thenX (VE.thenX (VE.inX (VE.inN ?_))))
              refine VE.thenN fun a w ha hw => ⟨(out2, ch2), ⟨hGR.dg, fun z q hq => by dsimp only at z; subst z; exact hGR.fin (fun x => cst_le1 x) hp2 hq⟩, (mu_gap hGR h82), ha.sub (.cons rfl (.cons rfl (.cons rfl (.cons rfl (.cons rfl (.cons rfl (.cons rfl .nil))))))), hw⟩
          ·
            have hgf : ch = false := Bool.eq_false_iff.2 h82
            have hz := hfin hgf q hq2
            refine VC.exit (VE.thenX (VE.thenX (VE.inX (VE.seqN ?_))))
            refine VC.seq ?_
            refine VC.seq ?_
            refine VC.reg (VO.l (LO.mv (.r rfl)) rfl<|VO.l (LO.mv (.r rfl)) rfl<|VO.l (LO.ixo S40 N3 (fun _ hw => (own_rows hw 0 rfl).some (by rw [List.length_map]; first | omega | (rw [rgTo_len]) | (simp; done) | (simp; omega))) (.r rfl) (.r rfl) rfl (by omega)) rfl<|VO.l (LO.ld O3 (.r rfl) (fun w hw => cells_part (off := 0) (own_cell hw 0 rfl (getNn (n := q) (by first | omega | (rw [rgTo_len]; omega) | (simp; omega)))) ⟨_, rfl⟩)) rfl<|VO.l (LO.mv (.r rfl)) rfl<|VO.l (LO.ge (.r rfl) (.r rfl)) rfl<|VO.nil ?_)
            refine VE.seqN ?_
            refine VC.cond rfl (fun h154 => ?_) (fun h154 => ?_)
            ·
              rw [if_pos (by omega)] at hz
              refine VC.seq ?_
              refine VC.reg (VO.l (LO.as (.r rfl)) rfl<|VO.l (LO.as (.r rfl)) rfl<|VO.nil ?_)
              refine VE.seqN ?_
              refine VC.ret (VE.thenR (VE.res (vs := [_,_]) rfl ⟨rfl, rfl, trivial⟩ (fun w hw => ?_)))
              exact ⟨_, hz, rfl, hw.nil⟩
            ·
              rw [if_neg (by omega)] at hz
              refine VC.skip (VE.seqN ?_)
              refine VC.seq ?_
              refine VC.reg (VO.l (LO.mv (.r rfl)) rfl<|VO.l (LO.mv (.r rfl)) rfl<|VO.l (LO.ixo S40 N3 (fun _ hw => (own_rows hw 0 rfl).some (by rw [List.length_map]; first | omega | (rw [rgTo_len]) | (simp; done) | (simp; omega))) (.r rfl) (.r rfl) rfl (by omega)) rfl<|VO.l (LO.ld O3 (.r rfl) (fun w hw => cells_part (off := 0) (own_cell hw 0 rfl (getNn (n := q) (by first | omega | (rw [rgTo_len]; omega) | (simp; omega)))) ⟨_, rfl⟩)) rfl<|VO.l (LO.as (.r rfl)) rfl<|VO.l (LO.as (.r rfl)) rfl<|VO.nil ?_)
              refine VE.seqN ?_
              refine VC.ret (VE.res (vs := [_,_]) rfl ⟨rfl, rfl, trivial⟩ (fun w hw => ?_))
              exact ⟨_, hz, rfl, hw.nil⟩
        ·
          have hDG : DG (gW g) (gH g) (mayB vs lv) (cst vs lv) p (List.replicate vs.length (vs.length + 1)) := by rw [hvl]; exact DG.zero0 hp2 (Bool.eq_false_iff.2 h74)
          refine VC.skip (VE.seqN ?_)
          refine VC.seq ?_
          refine VC.seq ?_
          refine VC.reg (VO.l (LO.as (.r rfl)) rfl<|VO.nil ?_)
          refine VE.seqN ?_
          refine VC.block ?_
          refine VC.perm [1,0,2,3,4] rfl ?_
          refine VC.loopK (α := (List Nat) × Bool) 1 (fun gx => [(18, .bool gx.2)]) [(3,_), (4,_), (11,_), (13,_), (14,_), (16,_)] (fun gx => [own 3 1 (some ⟨b6,0, none⟩) vs.length (gx.1.map nC)]) (fun gx => DG (gW g) (gH g) (mayB vs lv) (cst vs lv) p gx.1 ∧ (gx.2 = false → ∀ q, q < gW g * gH g → IsGap (gW g) (gH g) (mayB vs lv) (cst vs lv) p q (if gW g * gH g + 1 ≤ gx.1.getD q 0 then -1 else (gx.1.getD q 0 : Int)))) (fun gx => 2 * gx.1.sum + gx.2.toNat) ((List.replicate vs.length (vs.length + 1)), true) (by exact ⟨hDG, fun z => by cases z⟩) (.cons rfl (.cons rfl (.cons rfl (.cons rfl (.cons rfl (.cons rfl (.cons rfl .nil))))))) (fun _ h => h) ?_
          rintro ⟨out, ch⟩ ⟨hDG, hfin⟩
          show VC _ _ _ _ _ ([(18, .bool ch)] ++ _) ([own 3 1 (some ⟨b6,0, none⟩) vs.length (out.map nC)] ++ _) _ _
          dsimp only at hDG hfin
          have holn := hDG.len
          refine VC.seq ?_
          refine VC.seq ?_
          refine VC.reg (VO.l (LO.mv (.r rfl)) rfl<|VO.nil ?_)
          refine VE.seqN ?_
          refine VC.cond rfl (fun h82 => ?_) (fun h82 => ?_)
          ·
            refine VC.skip (VE.seqN ?_)
            refine VC.block ?_
            refine VC.seq ?_
            refine VC.reg (VO.l (LO.as (.r rfl)) rfl<|VO.nil ?_)
            refine VE.seqN ?_
            refine VC.seq ?_
            refine VC.reg (VO.l (LO.as (.r rfl)) rfl<|VO.nil ?_)
            refine VE.seqN ?_
            refine VC.block ?_
            refine VC.loopK (α := Nat × (List Nat) × Bool) 1 (fun gx => [(18, .bool gx.2.2), (19, .int .i64 (gx.1 : Nat))]) [(3,_), (4,_), (11,_), (13,_), (14,_), (16,_)] (fun gx => [own 3 1 (some ⟨b6,0, none⟩) vs.length (gx.2.1.map nC)]) (fun gx => gx.1 ≤ gW g * gH g ∧ GR (gW g) (gH g) (mayB vs lv) (cst vs lv) p out gx.1 0 gx.2.1 gx.2.2) (fun gx => gW g * gH g - gx.1) (0, out, false) (by exact ⟨Nat.zero_le _, GR.zero hDG⟩) (.cons rfl (.cons rfl (.cons rfl (.cons rfl (.cons rfl (.cons rfl (.cons rfl (.cons rfl .nil)))))))) (fun _ h => h) ?_
            rintro ⟨r, out2, ch2⟩ ⟨hr, hGR⟩
            show VC _ _ _ _ _ ([(18, .bool ch2), (19, .int .i64 (r : Nat))] ++ _) ([own 3 1 (some ⟨b6,0, none⟩) vs.length (out2.map nC)] ++ _) _ _
            dsimp only at hr hGR
            have hol2 := hGR.dg.len
            refine VC.seq ?_
            refine VC.seq ?_
            refine VC.reg (VO.l (LO.mv (.r rfl)) rfl<|VO.l (LO.mv (.r rfl)) rfl<|VO.l (LO.len S40 (.r rfl) rfl) rfl<|VO.l (LO.lt (.r rfl) (.r rfl)) rfl<|VO.nil ?_)
            refine VE.seqN ?_
            refine VC.cond rfl (fun h86 => ?_) (fun h86 => ?_)
            ·
              refine VC.skip (VE.seqN ?_)
              refine VC.seq ?_
              refine VC.block ?_
              refine VC.seq ?_
              refine VC.reg (VO.l (LO.mv (.r rfl)) rfl<|VO.l (LO.fa (r := 0) F26_0 (.r rfl) rfl) rfl<|VO.l (LO.fa (r := 3) F23_3 (.r rfl) rfl) rfl<|VO.l (LO.ld O3 (.r rfl) (fun _ hw => cells_at hw 4 rfl ⟨_, rfl⟩)) rfl<|VO.l (LO.sub (.r rfl) (.r rfl) (wi (by omega) (by omega))) rfl<|VO.l (LO.eqv (LO.max (.r rfl) (.r rfl)) (congrArg (Value.int .i64) (show Max.max (0 : Int) ((r : Int) - g.wide) = ((r - gW g : Nat) : Int) by omega))) rfl<|VO.l (LO.as (.r rfl)) rfl<|VO.nil ?_)
              refine VE.seqN ?_
              refine VC.block ?_
              refine VC.loopK (α := Nat × (List Nat) × Bool) 1 (fun gx => [(18, .bool gx.2.2), (20, .int .i64 (gx.1 : Nat))]) [(3,_), (4,_), (11,_), (13,_), (14,_), (16,_), (19,_)] (fun gx => [own 3 1 (some ⟨b6,0, none⟩) vs.length (gx.2.1.map nC)]) (fun gx => gx.1 ≤ gW g * gH g ∧ GR (gW g) (gH g) (mayB vs lv) (cst vs lv) p out r gx.1 gx.2.1 gx.2.2) (fun gx => gW g * gH g - gx.1) ((r - gW g), out2, ch2) (by exact ⟨by dsimp only; omega, hGR.enter (by omega)⟩) (.cons rfl (.cons rfl (.cons rfl (.cons rfl (.cons rfl (.cons rfl (.cons rfl (.cons rfl (.cons rfl .nil))))))))) (fun _ h => h) ?_
              rintro ⟨s, out3, ch3⟩ ⟨hs, hG3⟩
              show VC _ _ _ _ _ ([(18, .bool ch3), (20, .int .i64 (s : Nat))] ++ _) ([own 3 1 (some ⟨b6,0, none⟩) vs.length (out3.map nC)] ++ _) _ _
              dsimp only at hs hG3
              have hol3 := hG3.dg.len
              refine VC.seq ?_
              refine VC.seq ?_
              refine VC.reg (VO.l (LO.mv (.r rfl)) rfl<|VO.l (LO.mv (.r rfl)) rfl<|VO.l (LO.fa (r := 0) F26_0 (.r rfl) rfl) rfl<|VO.l (LO.fa (r := 3) F23_3 (.r rfl) rfl) rfl<|VO.l (LO.ld O3 (.r rfl) (fun _ hw => cells_at hw 4 rfl ⟨_, rfl⟩)) rfl<|VO.l (LO.add (.r rfl) (.r rfl) (wi (by omega) (by omega))) rfl<|VO.l (LO.le (.r rfl) (.r rfl)) rfl<|VO.l (LO.mv (.r rfl)) rfl<|VO.lg rfl rfl (GD.t _) (fun hg => LO.mv (.r rfl)) rfl<|VO.lg rfl rfl (GD.t _) (fun hg => LO.mv (.r rfl)) rfl<|VO.lg rfl rfl (GD.t _) (fun hg => LO.len S40 (.g hg rfl) rfl) rfl<|VO.lg rfl rfl (GD.t _) (fun hg => LO.lt (.g hg rfl) (.g hg rfl)) rfl<|VO.l (LO.pkA (.r rfl) rfl rfl (.r rfl)) rfl<|VO.nil ?_)
              refine VE.seqN ?_
              refine VC.cond rfl (fun h107 => ?_) (fun h107 => ?_)
              ·
                have hbs := hG3.dg.bd s (by omega)
                have hbr := hG3.dg.bd r (by omega)
                have hcr := cst_le1 (vs := vs) (lv := lv) r
                refine VC.skip (VE.seqN ?_)
                refine VC.seq ?_
                refine VC.block ?_
                refine VC.seq ?_
                refine VC.draw mixed (LL.l (LO.mv (.r rfl)) rfl<|LL.l (LO.mv (.r rfl)) rfl<|LL.l (LO.ixo S142 N4 (fun _ hw => (own_rows hw 3 rfl).some (by rw [List.length_map])) (.r rfl) (.r rfl) rfl (by rw [setB_len]; omega)) rfl<|LL.l (LO.ld O4 (.r rfl) (fun w hw => cells_part (off := 0) (own_cell hw 3 rfl (setB_get (S := mayB vs lv) (q := r) (by omega))) ⟨_, rfl⟩)) rfl<|LL.l (LO.mv (.r rfl)) rfl<|LL.lg rfl rfl (GD.t _) (fun hg => LO.fa (r := 0) F26_0 (.r rfl) rfl) rfl<|LL.lg rfl rfl (GD.t _) (fun hg => LO.lda (vs := [_,_,_,_,_]) A23 (.g hg rfl) (fun _ hw => cells_at hw 4 rfl ⟨_, rfl⟩) rfl) rfl<|LL.lg rfl rfl (GD.t _) (fun hg => LO.mv (.r rfl)) rfl<|LL.lg rfl rfl (GD.t _) (fun hg => LO.mv (.r rfl)) rfl<|LL.lg rfl rfl (GD.t _) (fun hg => LO.call (xs := [_,_,_]) (vs := [_,_,_]) C72 ⟨(.g hg rfl), (.g hg rfl), (.g hg rfl), trivial⟩ (fun w2 hw => rNear_c g r s w2 hgr (by omega) (by omega))) rfl<|LL.l (LO.pkA (.r rfl) rfl rfl (.r rfl)) rfl<|LL.l (LO.mv (.r rfl)) rfl<|LL.lg rfl rfl (GD.t _) (fun hg => LO.mv (.r rfl)) rfl<|LL.lg rfl rfl (GD.t _) (fun hg => LO.mv (.r rfl)) rfl<|LL.lg rfl rfl (GD.t _) (fun hg => LO.ixo S40 N3 (fun _ hw => (own_rows hw 0 rfl).some (by rw [List.length_map]; first | omega | (rw [rgTo_len]) | (simp; done) | (simp; omega))) (.g hg rfl) (.g hg rfl) rfl (by omega)) rfl<|LL.lg rfl rfl (GD.t _) (fun hg => LO.ld O3 (.g hg rfl) (fun w hw => cells_part (off := 0) (own_cell hw 0 rfl (getNn (n := s) (by first | omega | (rw [rgTo_len]; omega) | (simp; omega)))) ⟨_, rfl⟩)) rfl<|LL.lg rfl rfl (GD.t _) (fun hg => LO.mv (.r rfl)) rfl<|LL.lg rfl rfl (GD.t _) (fun hg => LO.mv (.r rfl)) rfl<|LL.lg rfl rfl (GD.t _) (fun hg => LO.ixo S40 N3 (fun _ hw => (own_rows hw 1 rfl).some (by rw [List.length_map]; first | (rw [rgTo_len]) | (simp; done))) (.g hg rfl) (.g hg rfl) rfl (by omega)) rfl<|LL.lg rfl rfl (GD.t _) (fun hg => LO.ld O3 (.g hg rfl) (fun w hw => cells_part (off := 0) (own_cell hw 1 rfl (rgm_get (f := cst vs lv) (j := r) (by omega))) ⟨_, rfl⟩)) rfl<|LL.lg rfl rfl (GD.t _) (fun hg => LO.add (.g hg rfl) (.g hg rfl) (wi (by omega) (by omega))) rfl<|LL.lg rfl rfl (GD.t _) (fun hg => LO.mv (.r rfl)) rfl<|LL.lg rfl rfl (GD.t _) (fun hg => LO.mv (.r rfl)) rfl<|LL.lg rfl rfl (GD.t _) (fun hg => LO.ixo S40 N3 (fun _ hw => (own_rows hw 0 rfl).some (by rw [List.length_map]; first | omega | (rw [rgTo_len]) | (simp; done) | (simp; omega))) (.g hg rfl) (.g hg rfl) rfl (by omega)) rfl<|LL.lg rfl rfl (GD.t _) (fun hg => LO.ld O3 (.g hg rfl) (fun w hw => cells_part (off := 0) (own_cell hw 0 rfl (getNn (n := r) (by first | omega | (rw [rgTo_len]; omega) | (simp; omega)))) ⟨_, rfl⟩)) rfl<|LL.lg rfl rfl (GD.t _) (fun hg => LO.lt (.g hg rfl) (.g hg rfl)) rfl<|LL.l (LO.pkA (.r rfl) rfl rfl (.r rfl)) rfl<|LL.nil) (by kernel_rfl) ?_
                refine VE.seqN ?_
                refine VC.cond rfl (fun h136 => ?_) (fun h136 => ?_)
                ·
                  refine VC.seq ?_
                  refine VC.drawH [[0,1,2,3,4], [1,2,3,4]] [some 0, some 0, some 0, some 0, some 0, some 0, some 0, some 0, some 0, some 0, some 0, some 0, none] mixed (by kernel_rfl) rfl (LX.l (fun _ hJ => LO.mv (.r rfl)) rfl<|LX.l (fun _ hJ => LO.mv (.r rfl)) rfl<|LX.l (fun _ hJ => LO.mv (.r rfl)) rfl<|LX.l (fun _ hJ => LO.mv (.r rfl)) rfl<|LX.l (fun _ hJ => LO.ixo S40 N3 (fun _ hw => (own_rows (hJ _ hw) 0 rfl).some (by rw [List.length_map]; first | omega | (rw [rgTo_len]) | (simp; done) | (simp; omega))) (.r rfl) (.r rfl) rfl (by omega)) rfl<|LX.l (fun _ hJ => LO.ld O3 (.r rfl) (fun w hw => cells_part (off := 0) (own_cell (hJ _ hw) 0 rfl (getNn (n := s) (by first | omega | (rw [rgTo_len]; omega) | (simp; omega)))) ⟨_, rfl⟩)) rfl<|LX.l (fun _ hJ => LO.mv (.r rfl)) rfl<|LX.l (fun _ hJ => LO.mv (.r rfl)) rfl<|LX.l (fun _ hJ => LO.ixo S40 N3 (fun _ hw => (own_rows (hJ _ hw) 1 rfl).some (by rw [List.length_map]; first | (rw [rgTo_len]) | (simp; done))) (.r rfl) (.r rfl) rfl (by omega)) rfl<|LX.l (fun _ hJ => LO.ld O3 (.r rfl) (fun w hw => cells_part (off := 0) (own_cell (hJ _ hw) 1 rfl (rgm_get (f := cst vs lv) (j := r) (by omega))) ⟨_, rfl⟩)) rfl<|LX.l (fun _ hJ => LO.eqv (LO.add (.r rfl) (.r rfl) (wi (by omega) (by omega))) (congrArg (Value.int .i64) (Int.natCast_add _ _).symm)) rfl<|LX.l (fun _ hJ => LO.ixo S40 N3 (fun _ hw => (own_rows (hJ _ hw) 0 rfl).some (by rw [List.length_map]; first | omega | (rw [rgTo_len]) | (simp; done) | (simp; omega))) (.r rfl) (.r rfl) rfl (by omega)) rfl<|LX.s<|LX.nil) (HX.s<|HX.s<|HX.s<|HX.s<|HX.s<|HX.s<|HX.s<|HX.s<|HX.s<|HX.s<|HX.s<|HX.s<|HX.h0<|HO.stm 0 (fun R => [R,_,_,_,_]) ((out3.getD s 0 + cst vs lv r)) (vs := [_]) N3 (.r rfl) (.r rfl) rfl (by omega) rfl rfl rfl rfl rfl (fun _ => rfl)<|⟨fun _ hw => hw.sel [1,2,3,4] rfl, HX.nil ?_⟩)
                  refine VE.seqN ?_
                  refine VC.reg (VO.l (LO.as (.r rfl)) rfl<|VO.nil ?_)
                  refine VE.inN (VE.seqN ?_)
                  refine VC.reg (VO.l (LO.mv (.r rfl)) rfl<|VO.l (LO.add (.r rfl) (.r rfl) (wi (by omega) (by omega))) rfl<|VO.l (LO.as (.r rfl)) rfl<|VO.nil ?_)
                  refine VE.thenN fun a w ha hw => ⟨(s + 1, out3.set r (out3.getD s 0 + cst vs lv r), true), ⟨by dsimp only; omega, hG3.yes (by omega) (by omega) h136.1.1 ((near_nb (by omega) (by omega)).1 h136.1.2) (by have := h136.2; omega)⟩, (by dsimp only; omega), ha.sub (.cons rfl (.cons rfl (.cons rfl (.cons rfl (.cons rfl (.cons rfl (.cons rfl (.cons rfl (.cons rfl .nil))))))))), hw⟩
                ·
                  refine VC.skip (VE.inN (VE.seqN ?_))
                  refine VC.reg (VO.l (LO.mv (.r rfl)) rfl<|VO.l (LO.add (.r rfl) (.r rfl) (wi (by omega) (by omega))) rfl<|VO.l (LO.as (.r rfl)) rfl<|VO.nil ?_)
                  refine VE.thenN fun a w ha hw => ⟨(s + 1, out3, ch3), ⟨by dsimp only; omega, hG3.no fun z => h136 ⟨⟨z.1, (near_nb (by omega) (by omega)).2 z.2.1⟩, by have := z.2.2; omega⟩⟩, (by dsimp only; omega), ha.sub (.cons rfl (.cons rfl (.cons rfl (.cons rfl (.cons rfl (.cons rfl (.cons rfl (.cons rfl (.cons rfl .nil))))))))), hw⟩
              ·
                refine VC.exit (VE.thenX (VE.thenX (VE.inX (VE.inN (VE.seqN ?_)))))
                refine VC.reg (VO.l (LO.mv (.r rfl)) rfl<|VO.l (LO.add (.r rfl) (.r rfl) (wi (by omega) (by omega))) rfl<|VO.l (LO.as (.r rfl)) rfl<|VO.nil ?_)
                refine VE.thenN fun a w ha hw => ⟨(r + 1, out3, ch3), ⟨by dsimp only; omega, hG3.next (by omega) (by omega)⟩, (by dsimp only; omega), ha.sub (.cons rfl (.cons rfl (.cons rfl (.cons rfl (.cons rfl (.cons rfl (.cons rfl (.cons rfl .nil)))))))), hw⟩
            ·
              have hre : r = gW g * gH g := by omega
              subst hre
              refine VC.exit (VE.thenX (VE.thenX (VE.inX (VE.inN ?_))))
              refine VE.thenN fun a w ha hw => ⟨(out2, ch2), ⟨hGR.dg, fun z q hq => by dsimp only at z; subst z; exact hGR.fin (fun x => cst_le1 x) hp2 hq⟩, (mu_gap hGR h82), ha.sub (.cons rfl (.cons rfl (.cons rfl (.cons rfl (.cons rfl (.cons rfl (.cons rfl .nil))))))), hw⟩
          ·
            have hgf : ch = false := Bool.eq_false_iff.2 h82
            have hz := hfin hgf q hq2
            refine VC.exit (VE.thenX (VE.thenX (VE.inX (VE.seqN ?_))))
            refine VC.seq ?_
            refine VC.seq ?_
            refine VC.reg (VO.l (LO.mv (.r rfl)) rfl<|VO.l (LO.mv (.r rfl)) rfl<|VO.l (LO.ixo S40 N3 (fun _ hw => (own_rows hw 0 rfl).some (by rw [List.length_map]; first | omega | (rw [rgTo_len]) | (simp; done) | (simp; omega))) (.r rfl) (.r rfl) rfl (by omega)) rfl<|VO.l (LO.ld O3 (.r rfl) (fun w hw => cells_part (off := 0) (own_cell hw 0 rfl (getNn (n := q) (by first | omega | (rw [rgTo_len]; omega) | (simp; omega)))) ⟨_, rfl⟩)) rfl<|VO.l (LO.mv (.r rfl)) rfl<|VO.l (LO.ge (.r rfl) (.r rfl)) rfl<|VO.nil ?_)
            refine VE.seqN ?_
            refine VC.cond rfl (fun h154 => ?_) (fun h154 => ?_)
            ·
              rw [if_pos (by omega)] at hz
              refine VC.seq ?_
              refine VC.reg (VO.l (LO.as (.r rfl)) rfl<|VO.l (LO.as (.r rfl)) rfl<|VO.nil ?_)
              refine VE.seqN ?_
              refine VC.ret (VE.thenR (VE.res (vs := [_,_]) rfl ⟨rfl, rfl, trivial⟩ (fun w hw => ?_)))
              exact ⟨_, hz, rfl, hw.nil⟩
            ·
              rw [if_neg (by omega)] at hz
              refine VC.skip (VE.seqN ?_)
              refine VC.seq ?_
              refine VC.reg (VO.l (LO.mv (.r rfl)) rfl<|VO.l (LO.mv (.r rfl)) rfl<|VO.l (LO.ixo S40 N3 (fun _ hw => (own_rows hw 0 rfl).some (by rw [List.length_map]; first | omega | (rw [rgTo_len]) | (simp; done) | (simp; omega))) (.r rfl) (.r rfl) rfl (by omega)) rfl<|VO.l (LO.ld O3 (.r rfl) (fun w hw => cells_part (off := 0) (own_cell hw 0 rfl (getNn (n := q) (by first | omega | (rw [rgTo_len]; omega) | (simp; omega)))) ⟨_, rfl⟩)) rfl<|VO.l (LO.as (.r rfl)) rfl<|VO.l (LO.as (.r rfl)) rfl<|VO.nil ?_)
              refine VE.seqN ?_
              refine VC.ret (VE.res (vs := [_,_]) rfl ⟨rfl, rfl, trivial⟩ (fun w hw => ?_))
              exact ⟨_, hz, rfl, hw.nil⟩

end Go.Proofs.Ytgemekpofpoopaa

namespace Go.Proofs.Ytgemekpofpoopaa
open Go.SL Go.Proofs Go.Cast Go.Cell
set_option linter.unusedVariables false

theorem C60 : IsFn Try.prog 60 := ⟨_, Try.func60, by decide, rfl⟩


theorem nat_inj {l m : List Nat} (h : (l.map fun n : Nat => (n : Int)) = m.map fun n : Nat => (n : Int)) : l = m :=
  (List.map_inj_right (fun a b e => by have e : (a : Int) = (b : Int) := e; omega)).1 h
def rowI (r : RowA Nat) : RowA Int := ⟨r.p, r.c, r.l.map fun n : Nat => (n : Int)⟩
theorem rowI_map {rs : List (RowA Nat)} : (rs.map rowI).map RowA.l = (rs.map RowA.l).map fun l => l.map fun n : Nat => (n : Int) := by rw [List.map_map, List.map_map]; rfl
theorem rr_In {w : World} {p : Option Addr} {rs : List (RowA Nat)} (h : RR 1 nC w p rs) : RR 1 iC w p (rs.map rowI) := by
  refine ⟨?_, fun x hx => ?_⟩
  · have e : (rs.map rowI).map rowC = rs.map rowC := by
      rw [List.map_map]
      exact List.map_congr_left fun r _ => by show [Value.slice r.p (r.l.map _).length r.c] = [Value.slice r.p r.l.length r.c]; rw [List.length_map]
    have z := h.1
    unfold RO at z ⊢
    rw [e]; exact z
  · obtain ⟨r, hr, rfl⟩ := List.mem_map.1 hx
    obtain ⟨h1, h2⟩ := h.2 r hr
    refine ⟨by show (r.l.map _).length ≤ r.c; rw [List.length_map]; exact h1, ?_⟩
    have e : (r.l.map fun n : Nat => (n : Int)).map iC = r.l.map nC := by rw [List.map_map]; rfl
    show RO 1 iC w r.p (r.l.map fun n : Nat => (n : Int))
    unfold RO at h2 ⊢
    rw [e]; exact h2
theorem lists_k (ra rb : List (RowA Nat)) (pa : Option Addr) (ca : Nat) (pb_ : Option Addr) (cb : Nat) (w : World) (ha : RR 1 nC w pa ra) (hb : RR 1 nC w pb_ rb) (hn : ra.length ≤ 1000000) (hl : ∀ x, x ∈ ra → x.l.length ≤ 1000000) :
  Calls Try.prog 26 #[.slice pa ra.length ca, .slice pb_ rb.length cb] w fun e w' => e = .returned (.bool (decide (ra.map RowA.l = rb.map RowA.l))) ∧ St (bs w) [] w' := by
  have z := lists_c (ra.map rowI) (rb.map rowI) pa ca pb_ cb w (rr_In ha) (rr_In hb) (by rw [List.length_map]; exact hn) (fun x hx => by
    obtain ⟨r, hr, rfl⟩ := List.mem_map.1 hx
    show (r.l.map _).length ≤ 1000000
    rw [List.length_map]; exact hl r hr)
  rw [List.length_map, List.length_map] at z
  refine z.mono fun e w' ⟨h1, h2⟩ => ⟨?_, h2⟩
  rw [h1]
  refine congrArg (fun b => Ending.returned (.bool b)) (decide_eq_decide.2 ?_)
  rw [rowI_map, rowI_map]
  refine ⟨fun h => ?_, fun h => by rw [h]⟩
  exact (List.map_inj_right (fun a b e => nat_inj e)).1 h
/-- Areas, or nothing: as they are read. -/
structure AbY where
  l : List AreaR
  p : Option Addr
  c : Nat
  R : List Res
structure ALB (l : List AreaR) : Prop where
  n : l.length ≤ 4096
  px : ∀ a, a ∈ l → a.px.l.length ≤ 4096
  kr : ∀ a, a ∈ l → a.kr.length ≤ 4096
  kl : ∀ a, a ∈ l → ∀ k, k ∈ a.kr → k.l.length ≤ 4096
structure AbP (g : Grid) (vs : List Span) (lv : Int) (y : AbY) : Prop where
  m : y.l.map AreaR.m = if openE g vs lv = 0 then areasM (gW g) (gH g) vs lv else []
  rd : ∀ w : World, (∀ r, r ∈ y.R → r.inv w) → AL w y.p y.l
  bd : ALB y.l
theorem part_len {W H : Nat} {S : Nat → Bool} {l : List Nat} (h : l ∈ partsL W H S) : l.length ≤ W * H := by
  obtain ⟨p, hp, hs, rfl⟩ := mem_partsTo (p := W * H) h
  have hn : (compL W H S p).Nodup := (compL_sorted hp).imp fun h => Nat.ne_of_lt h
  have := length_le_of_subset (m := List.range (W * H)) hn (fun x hx => List.mem_range.2 (compL_lt hp hx))
  simpa using this
theorem areas_bd {W H : Nat} {vs : List Span} {lv : Int} {l : List AreaR} (hW : W * H ≤ 4096) (h : l.map AreaR.m = areasM W H vs lv) : ALB l := by
  have hmem : ∀ a, a ∈ l → ∃ pl, pl ∈ partsL W H (mayB vs lv) ∧ a.m = areaM W H vs lv pl := fun a ha => by
    have : a.m ∈ areasM W H vs lv := by rw [← h]; exact List.mem_map_of_mem ha
    obtain ⟨pl, h1, h2⟩ := List.mem_map.1 this
    exact ⟨pl, h1, h2.symm⟩
  have hk : ∀ a, a ∈ l → ∃ pl, a.kr.map RowA.l = (partsL W H (inB vs lv)).filter (fun k => decide (k.headD 0 ∈ pl)) := fun a ha => by
    obtain ⟨pl,_, h2⟩ := hmem a ha
    exact ⟨pl, congrArg AreaM.ks h2⟩
  refine ⟨?_, fun a ha => ?_, fun a ha => ?_, fun a ha k hk2 => ?_⟩
  · have := congrArg List.length h
    unfold areasM at this
    rw [List.length_map, List.length_map] at this
    have := parts_len (W := W) (H := H) (S := mayB vs lv) (p := W * H)
    unfold partsL at *
    omega
  · obtain ⟨pl, h1, h2⟩ := hmem a ha
    have : a.px.l = pl := congrArg AreaM.px h2
    rw [this]
    have := part_len h1; omega
  · obtain ⟨pl, h1⟩ := hk a ha
    have h2 := congrArg List.length h1
    rw [List.length_map] at h2
    have h3 := List.length_filter_le (fun k => decide (k.headD 0 ∈ pl)) (partsL W H (inB vs lv))
    have h4 := parts_len (W := W) (H := H) (S := inB vs lv) (p := W * H)
    unfold partsL at *
    omega
  · obtain ⟨pl, h1⟩ := hk a ha
    have : k.l ∈ (partsL W H (inB vs lv)).filter (fun k => decide (k.headD 0 ∈ pl)) := by rw [← h1]; exact List.mem_map_of_mem hk2
    have := part_len (List.mem_filter.1 this).1
    omega
theorem alb_nil : ALB [] := ⟨Nat.zero_le _, by simp, by simp, by simp⟩
theorem al_nil (w : World) : AL w none [] := ⟨⟨by simp, fun _ => rfl, fun h => absurd rfl h⟩, by simp, by simp⟩
theorem AL.of_ar {w : World} {y : ArY} {of : List Int} {W H : Nat} {vs : List Span} {lv : Int} (hp : ArP W H vs lv y) (h : ∀ r, r ∈ y.R of → r.inv w) : AL w y.p y.l where
  ar := own_inv_ro (h (own 73 8 y.p y.c (y.l.map AreaR.cells)) (by unfold ArY.R; simp))
  px := fun a ha => by
    have h1 := h (bagR 3 1 nC y.rs) (by unfold ArY.R; simp)
    have h2 : a.px ∈ y.rs := by rw [← hp.px]; exact List.mem_map_of_mem ha
    exact own_inv_rows (h1 _ (List.mem_map_of_mem (f := fun x : RowA Nat => own 3 1 x.p x.c (x.l.map nC)) h2))
  kr := fun a ha => by
    have h1 := (h (bagD (y.l.map AreaR.kR)) (by unfold ArY.R; simp)).1 _ (List.mem_map_of_mem ha)
    have h2 := h (bagR 3 1 nC y.ks) (by unfold ArY.R; simp)
    exact ⟨own_inv_rows h1, fun x hx => by
      have h3 := h2 _ (List.mem_map_of_mem (f := fun x : RowA Nat => own 3 1 x.p x.c (x.l.map nC)) (hp.kr a ha x hx))
      refine ⟨?_, own_inv_rows h3⟩
      have := h3.1
      rwa [List.length_map] at this⟩
theorem AL.of_da {w : World} {y : DaY} {W H : Nat} {vs : List Span} {lv : Int} (hp : DaP W H vs lv y) (h : ∀ r, r ∈ y.R 135 → r.inv w) : AL w y.p y.l where
  ar := own_inv_ro (h (own 135 8 y.p y.c (y.l.map AreaR.cells)) (by unfold DaY.R; simp))
  px := fun a ha => by
    have h1 := h (bagR 3 1 nC y.rs) (by unfold DaY.R; simp)
    have h2 : a.px ∈ y.rs := by rw [← hp.px]; exact List.mem_map_of_mem ha
    exact own_inv_rows (h1 _ (List.mem_map_of_mem (f := fun x : RowA Nat => own 3 1 x.p x.c (x.l.map nC)) h2))
  kr := fun a ha => by
    have hb := (h (bagD (kks y.l)) (by unfold DaY.R; simp)).1
    have h1 := hb _ (kks_mem ha).1
    have h2 := hb _ (kks_mem ha).2
    exact ⟨own_inv_rows h1, fun x hx => by
      have h3 := h2 _ (List.mem_map_of_mem (f := fun x : RowA Nat => own 3 1 x.p x.c (x.l.map nC)) hx)
      refine ⟨?_, own_inv_rows h3⟩
      have := h3.1
      rwa [List.length_map] at this⟩
theorem grid_le {g : Grid} {vs : List Span} {lv : Int} (h : openE g vs lv = 0) : gW g * gH g ≤ 4096 := area_le (openOk h).1
theorem st_bag {β : Bs} {L : List Res} {w : World} (h : St β L w) : St β [bagD L] w := St.bagD (Rs := L) (L := []) (by rw [List.append_nil]; exact h)
theorem Areas_b (g : Grid) (vs : List Span) (pv : Option Addr) (cv : Nat) (lv : Int) (w : World) (hv : Spans w pv vs) :
  Calls Try.prog 17 #[fieldV g pv vs.length cv, .int .i64 lv] w fun e w' => ∃ y : AbY, AbP g vs lv y ∧ e = .returned (.tuple #[.slice y.p y.l.length y.c, .int .i64 (openE g vs lv)]) ∧ St (bs w) [bagD y.R] w' := by
  by_cases h : openE g vs lv = 0
  · refine (Areas_ok g vs pv cv lv w hv h).mono fun e w' ⟨y, h1, h2, h3⟩ => ⟨⟨y.l, y.p, y.c, y.R (ofL (gW g) (gH g) (mayB vs lv))⟩, ⟨by rw [if_pos h]; exact h1.m, fun w k => AL.of_ar h1 k, areas_bd (grid_le h) h1.m⟩, by rw [h2, h], st_bag h3⟩
  · refine (Areas_e g vs pv cv lv w hv h).mono fun e w' ⟨h2, h3⟩ => ⟨⟨[], none, 0, []⟩, ⟨by rw [if_neg h]; rfl, fun w k => al_nil w, alb_nil⟩, h2, st_bag h3⟩

set_option maxRecDepth 20000 in
theorem rAreas_ok (g : Grid) (vs : List Span) (pv : Option Addr) (cv : Nat) (lv : Int) (w : World) (hv : Spans w pv vs) (hok : openE g vs lv = 0) :
  Calls Try.prog 18 #[fieldV g pv vs.length cv, .int .i64 lv] w fun e w' => ∃ y : DaY, DaP (gW g) (gH g) vs lv y ∧ e = .returned (.tuple #[.slice y.p y.l.length y.c, .int .i64 0]) ∧ St (bs w) (y.R 135) w' := by
  obtain ⟨hg, hlen, hok2, hlv1, hlv2⟩ := openOk hok
  have hvl : vs.length = gW g * gH g := len_n hg hlen
  refine enter (vs := [_,_]) (env := [(0,_), (1,_)]) Try.func18 rfl rfl rfl rfl ?_
  refine VC.seq ?_
  refine VC.reg (VO.h rfl<|HO.box (C := #[_,_,_,_,_,_]) rfl rfl fun b1 => VO.l (LO.as (.r rfl)) rfl<|VO.l (LO.as (.r rfl)) rfl<|VO.nil ?_)
  refine VE.seqN ?_
  refine VC.seq ?_
  refine VC.reg (VO.l (LO.lda (vs := [_,_,_,_,_,_]) A26 (.r rfl) (fun _ hw => cells_at hw 0 rfl ⟨_, rfl⟩) rfl) rfl<|VO.l (LO.mv (.r rfl)) rfl<|VO.l (LO.call (xs := [_,_]) (vs := [_,_]) C59 ⟨(.r rfl), (.r rfl), trivial⟩ (fun w2 hw => rKnown_c g vs pv cv lv w2 (hv.keep w2 hw))) rfl<|VO.l (LO.as (.r rfl)) rfl<|VO.nil ?_)
  refine VE.seqN ?_
  refine VC.seq ?_
  refine VC.seq ?_
  refine VC.reg (VO.l (LO.mv (.r rfl)) rfl<|VO.l (LO.ne (.r rfl) (.r rfl)) rfl<|VO.nil ?_)
  refine VE.seqN ?_
  refine VC.cond rfl (fun h11 => ?_) (fun h11 => ?_)
  ·
    (exfalso; exact h11 hok)
  ·
    refine VC.skip (VE.seqN ?_)
    refine VC.seq ?_
    refine VC.reg (VO.l (LO.lda (vs := [_,_,_,_,_,_]) A26 (.r rfl) (fun _ hw => cells_at hw 0 rfl ⟨_, rfl⟩) rfl) rfl<|VO.l (LO.mv (.r rfl)) rfl<|VO.h rfl<|HO.callx (xs := [_,_]) (vs := [_,_]) C60 ⟨(.r rfl), (.r rfl), trivial⟩ (fun w2 hw => rAreas_c g vs pv cv lv w2 hg hvl hok2 (hv.keep w2 hw)) fun y hy => VO.h rfl<|HO.lo (LO.as (.r rfl))<|VO.l (LO.as (.r rfl)) rfl<|VO.nil ?_)
    refine VE.seqN ?_
    refine VC.ret (VE.res (vs := [_,_]) rfl ⟨rfl, rfl, trivial⟩ (fun w hw => ?_))
    exact ⟨y, hy, rfl, selK [0,1,2] rfl rfl _ hw⟩

set_option maxRecDepth 20000 in
theorem rAreas_e (g : Grid) (vs : List Span) (pv : Option Addr) (cv : Nat) (lv : Int) (w : World) (hv : Spans w pv vs) (hne : openE g vs lv ≠ 0) :
  Calls Try.prog 18 #[fieldV g pv vs.length cv, .int .i64 lv] w fun e w' => e = .returned (.tuple #[.slice none 0 0, .int .i64 (openE g vs lv)]) ∧ St (bs w) [] w' := by
  refine enter (vs := [_,_]) (env := [(0,_), (1,_)]) Try.func18 rfl rfl rfl rfl ?_
  refine VC.seq ?_
  refine VC.reg (VO.h rfl<|HO.box (C := #[_,_,_,_,_,_]) rfl rfl fun b1 => VO.l (LO.as (.r rfl)) rfl<|VO.l (LO.as (.r rfl)) rfl<|VO.nil ?_)
  refine VE.seqN ?_
  refine VC.seq ?_
  refine VC.reg (VO.l (LO.lda (vs := [_,_,_,_,_,_]) A26 (.r rfl) (fun _ hw => cells_at hw 0 rfl ⟨_, rfl⟩) rfl) rfl<|VO.l (LO.mv (.r rfl)) rfl<|VO.l (LO.call (xs := [_,_]) (vs := [_,_]) C59 ⟨(.r rfl), (.r rfl), trivial⟩ (fun w2 hw => rKnown_c g vs pv cv lv w2 (hv.keep w2 hw))) rfl<|VO.l (LO.as (.r rfl)) rfl<|VO.nil ?_)
  refine VE.seqN ?_
  refine VC.seq ?_
  refine VC.seq ?_
  refine VC.reg (VO.l (LO.mv (.r rfl)) rfl<|VO.l (LO.ne (.r rfl) (.r rfl)) rfl<|VO.nil ?_)
  refine VE.seqN ?_
  refine VC.cond rfl (fun h11 => ?_) (fun h11 => ?_)
  ·
    refine VC.seq ?_
    refine VC.reg (VO.l (LO.mv (.r rfl)) rfl<|VO.l (LO.as (.r rfl)) rfl<|VO.l (LO.as (.r rfl)) rfl<|VO.nil ?_)
    refine VE.seqN ?_
    refine VC.ret (VE.thenR (VE.res (vs := [_,_]) rfl ⟨rfl, rfl, trivial⟩ (fun w hw => ?_)))
    exact ⟨rfl, hw.nil⟩
  ·
    (exfalso; exact hne (Classical.not_not.1 h11))

end Go.Proofs.Ytgemekpofpoopaa

namespace Go.Proofs.Ytgemekpofpoopaa
open Go.SL Go.Proofs Go.Cast Go.Cell
set_option linter.unusedVariables false

theorem F135_0 : FieldAt Try.prog 135 0 0 := ⟨_,_, Try.underlying135, rfl, rfl, 0, by kernel_rfl⟩
theorem C18 : IsFn Try.prog 18 := ⟨_, Try.func18, by decide, rfl⟩
theorem C19 : IsFn Try.prog 19 := ⟨_, Try.func19, by decide, rfl⟩
theorem C21 : IsFn Try.prog 21 := ⟨_, Try.func21, by decide, rfl⟩
theorem C23 : IsFn Try.prog 23 := ⟨_, Try.func23, by decide, rfl⟩


theorem rAreas_b (g : Grid) (vs : List Span) (pv : Option Addr) (cv : Nat) (lv : Int) (w : World) (hv : Spans w pv vs) :
  Calls Try.prog 18 #[fieldV g pv vs.length cv, .int .i64 lv] w fun e w' => ∃ y : AbY, AbP g vs lv y ∧ e = .returned (.tuple #[.slice y.p y.l.length y.c, .int .i64 (openE g vs lv)]) ∧ St (bs w) [bagD y.R] w' := by
  by_cases h : openE g vs lv = 0
  · refine (rAreas_ok g vs pv cv lv w hv h).mono fun e w' ⟨y, h1, h2, h3⟩ => ⟨⟨y.l, y.p, y.c, y.R 135⟩, ⟨by rw [if_pos h]; exact h1.m, fun w k => AL.of_da h1 k, areas_bd (grid_le h) h1.m⟩, by rw [h2, h], st_bag h3⟩
  · refine (rAreas_e g vs pv cv lv w hv h).mono fun e w' ⟨h2, h3⟩ => ⟨⟨[], none, 0, []⟩, ⟨by rw [if_neg h]; rfl, fun w k => al_nil w, alb_nil⟩, h2, st_bag h3⟩
def jnB (g : Grid) (vs : List Span) (lv p q : Int) : Int := if pixE g vs lv p q = 0 then joinV (gW g) (gH g) vs lv p.toNat q.toNat else 0
theorem Joined_b (g : Grid) (vs : List Span) (pv : Option Addr) (cv : Nat) (lv p q : Int) (w : World) (hv : Spans w pv vs) :
  Calls Try.prog 20 #[fieldV g pv vs.length cv, .int .i64 lv, .int .i64 p, .int .i64 q] w fun e w' => e = .returned (.tuple #[.int .i64 (jnB g vs lv p q), .int .i64 (pixE g vs lv p q)]) ∧ St (bs w) [] w' := by
  by_cases h : pixE g vs lv p q = 0
  · obtain ⟨_, a, b, rfl, rfl,_,_⟩ := pixOk h
    refine (Joined_ok g vs pv cv lv a b w hv h).mono fun e w' ⟨h1, h2⟩ => ⟨?_, h2⟩
    unfold jnB; rw [h1, h, if_pos rfl, Int.toNat_natCast, Int.toNat_natCast]
  · refine (Joined_e g vs pv cv lv p q w hv h).mono fun e w' ⟨h1, h2⟩ => ⟨?_, h2⟩
    unfold jnB; rw [h1, if_neg h]
theorem rJoined_b (g : Grid) (vs : List Span) (pv : Option Addr) (cv : Nat) (lv p q : Int) (w : World) (hv : Spans w pv vs) :
  Calls Try.prog 21 #[fieldV g pv vs.length cv, .int .i64 lv, .int .i64 p, .int .i64 q] w fun e w' => e = .returned (.tuple #[.int .i64 (jnB g vs lv p q), .int .i64 (pixE g vs lv p q)]) ∧ St (bs w) [] w' := by
  by_cases h : pixE g vs lv p q = 0
  · obtain ⟨_, a, b, rfl, rfl,_,_⟩ := pixOk h
    refine (rJoined_ok g vs pv cv lv a b w hv h).mono fun e w' ⟨h1, h2⟩ => ⟨?_, h2⟩
    unfold jnB; rw [h1, h, if_pos rfl, Int.toNat_natCast, Int.toNat_natCast]
  · refine (rJoined_e g vs pv cv lv p q w hv h).mono fun e w' ⟨h1, h2⟩ => ⟨?_, h2⟩
    unfold jnB; rw [h1, if_neg h]
def GpV (g : Grid) (vs : List Span) (lv p q z : Int) : Prop := if pixE g vs lv p q = 0 then IsGap (gW g) (gH g) (mayB vs lv) (cst vs lv) p.toNat q.toNat z else z = 0
theorem gpv_uniq {g : Grid} {vs : List Span} {lv p q z y : Int} (h : GpV g vs lv p q z) (k : GpV g vs lv p q y) : z = y := by
  unfold GpV at h k
  split at h
  · rw [if_pos (by assumption)] at k; exact h.uniq k
  · rw [if_neg (by assumption)] at k; rw [h, k]
theorem Gap_b (g : Grid) (vs : List Span) (pv : Option Addr) (cv : Nat) (lv p q : Int) (w : World) (hv : Spans w pv vs) :
  Calls Try.prog 22 #[fieldV g pv vs.length cv, .int .i64 lv, .int .i64 p, .int .i64 q] w fun e w' => ∃ z : Int, GpV g vs lv p q z ∧ e = .returned (.tuple #[.int .i64 z, .int .i64 (pixE g vs lv p q)]) ∧ St (bs w) [] w' := by
  by_cases h : pixE g vs lv p q = 0
  · obtain ⟨_, a, b, rfl, rfl,_,_⟩ := pixOk h
    refine (Gap_ok g vs pv cv lv a b w hv h).mono fun e w' ⟨z, h0, h1, h2⟩ => ⟨z, ?_, ?_, h2⟩
    · unfold GpV; rw [if_pos h, Int.toNat_natCast, Int.toNat_natCast]; exact h0
    · rw [h1, h]
  · refine (Gap_e g vs pv cv lv p q w hv h).mono fun e w' ⟨h1, h2⟩ => ⟨0, ?_, h1, h2⟩
    unfold GpV; rw [if_neg h]
theorem rGap_b (g : Grid) (vs : List Span) (pv : Option Addr) (cv : Nat) (lv p q : Int) (w : World) (hv : Spans w pv vs) :
  Calls Try.prog 23 #[fieldV g pv vs.length cv, .int .i64 lv, .int .i64 p, .int .i64 q] w fun e w' => ∃ z : Int, GpV g vs lv p q z ∧ e = .returned (.tuple #[.int .i64 z, .int .i64 (pixE g vs lv p q)]) ∧ St (bs w) [] w' := by
  by_cases h : pixE g vs lv p q = 0
  · obtain ⟨_, a, b, rfl, rfl,_,_⟩ := pixOk h
    refine (rGap_ok g vs pv cv lv a b w hv h).mono fun e w' ⟨z, h0, h1, h2⟩ => ⟨z, ?_, ?_, h2⟩
    · unfold GpV; rw [if_pos h, Int.toNat_natCast, Int.toNat_natCast]; exact h0
    · rw [h1, h]
  · refine (rGap_e g vs pv cv lv p q w hv h).mono fun e w' ⟨h1, h2⟩ => ⟨0, ?_, h1, h2⟩
    unfold GpV; rw [if_neg h]
theorem ab_same {g : Grid} {vs : List Span} {lv : Int} {y z : AbY} (h : AbP g vs lv y) (k : AbP g vs lv z) : y.l.map AreaR.m = z.l.map AreaR.m := h.m.trans k.m.symm
theorem same_at {l m : List AreaR} {i : Nat} {a b : AreaR} (h : l.map AreaR.m = m.map AreaR.m) (ha : l[i]? = some a) (hb : m[i]? = some b) : a.px.l = b.px.l ∧ a.kr.map RowA.l = b.kr.map RowA.l ∧ a.s = b.s := by
  have e := congrArg (fun l => l[i]?) h
  simp only [List.getElem?_map, ha, hb, Option.map_some, Option.some.injEq] at e
  exact ⟨congrArg AreaM.px e, congrArg AreaM.ks e, congrArg AreaM.s e⟩
theorem same_len {l m : List AreaR} (h : l.map AreaR.m = m.map AreaR.m) : l.length = m.length := by have := congrArg List.length h; rwa [List.length_map, List.length_map] at this

set_option maxRecDepth 20000 in
set_option maxHeartbeats 8000000 in
theorem areasEq_c (la lb : List AreaR) (pa : Option Addr) (ca : Nat) (pb_ : Option Addr) (cb : Nat) (w : World) (ha : AL w pa la) (hb : AL w pb_ lb) (hE : la.map AreaR.m = lb.map AreaR.m) (hA : ALB la) :
  Calls Try.prog 19 #[.slice pa la.length ca, .slice pb_ lb.length cb] w fun e w' => e = .returned (.bool true) ∧ St (bs w) [] w' := by
  have hlen := same_len hE
  have hln := hA.n
  refine enter (vs := [_,_]) (env := [(0,_), (1,_)]) Try.func19 rfl rfl rfl rfl ?_
  refine VC.seq ?_
  refine VC.reg (VO.l (LO.as (.r rfl)) rfl<|VO.nil ?_)
  refine VE.seqN ?_
  refine VC.seq ?_
  refine VC.seq ?_
  refine VC.reg (VO.l (LO.mv (.r rfl)) rfl<|VO.l (LO.len S29 (.r rfl) rfl) rfl<|VO.l (LO.mv (.r rfl)) rfl<|VO.l (LO.len S33 (.r rfl) rfl) rfl<|VO.l (LO.ne (.r rfl) (.r rfl)) rfl<|VO.nil ?_)
  refine VE.seqN ?_
  refine VC.cond rfl (fun h10 => ?_) (fun h10 => ?_)
  ·
    (exfalso; omega)
  ·
    refine VC.skip (VE.seqN ?_)
    refine VC.seq ?_
    refine VC.seq ?_
    refine VC.reg (VO.l (LO.as (.r rfl)) rfl<|VO.nil ?_)
    refine VE.seqN ?_
    refine VC.block ?_
    refine VC.loopK (α := Nat) 0 (fun gx => [(5, .int .i64 (gx : Nat))]) [(0,_), (1,_)] (fun gx => []) (fun gx => gx ≤ la.length) (fun gx => la.length - gx) 0 (by exact Nat.zero_le _) (.cons rfl (.cons rfl (.cons rfl .nil))) (fun _ h => h) ?_
    rintro i hi
    refine VC.seq ?_
    refine VC.seq ?_
    refine VC.reg (VO.l (LO.mv (.r rfl)) rfl<|VO.l (LO.mv (.r rfl)) rfl<|VO.l (LO.len S29 (.r rfl) rfl) rfl<|VO.l (LO.lt (.r rfl) (.r rfl)) rfl<|VO.nil ?_)
    refine VE.seqN ?_
    refine VC.cond rfl (fun h14 => ?_) (fun h14 => ?_)
    ·
      obtain ⟨a, hai⟩ := get_ex (l := la) (n := i) (by omega)
      obtain ⟨b, hbi⟩ := get_ex (l := lb) (n := i) (by omega)
      obtain ⟨e1, e2, e3⟩ := same_at hE hai hbi
      refine VC.skip (VE.seqN ?_)
      refine VC.seq ?_
      refine VC.block ?_
      refine VC.seq ?_
      refine VC.draw mixed (LL.l (LO.mv (.r rfl)) rfl<|LL.l (LO.mv (.r rfl)) rfl<|LL.l (LO.ixs S29 N73 ha.ar.sm (.r rfl) (.r rfl) rfl (by omega)) rfl<|LL.l (LO.fa F73_0 (.r rfl) rfl) rfl<|LL.l (LO.ld O40 (.r rfl) (fun w hw => cells_part (off := 0) ((fun w3 h3 => RO.cel (ha.ar.keep w3 h3) hai) w hw) ⟨_, rfl⟩)) rfl<|LL.l (LO.mv (.r rfl)) rfl<|LL.l (LO.mv (.r rfl)) rfl<|LL.l (LO.ixs S33 N135 hb.ar.sm (.r rfl) (.r rfl) rfl (by omega)) rfl<|LL.l (LO.fa F135_0 (.r rfl) rfl) rfl<|LL.l (LO.ld O40 (.r rfl) (fun w hw => cells_part (off := 0) ((fun w3 h3 => RO.cel (hb.ar.keep w3 h3) hbi) w hw) ⟨_, rfl⟩)) rfl<|LL.l (LO.call (xs := [_,_]) (vs := [_,_]) C40 ⟨(.r rfl), (.r rfl), trivial⟩ (fun w2 hw => numbers_k a.px.l b.px.l a.px.p a.px.c b.px.p b.px.c w2 ((ha.px a (List.mem_of_getElem? hai)).keep w2 hw) ((hb.px b (List.mem_of_getElem? hbi)).keep w2 hw) (by have := hA.px a (List.mem_of_getElem? hai); omega))) rfl<|LL.l (LO.not (.r rfl)) rfl<|LL.l (LO.mv (.r rfl)) rfl<|LL.lg rfl rfl (GD.f _) (fun hg => LO.mv (.r rfl)) rfl<|LL.lg rfl rfl (GD.f _) (fun hg => LO.mv (.r rfl)) rfl<|LL.lg rfl rfl (GD.f _) (fun hg => LO.ixs S29 N73 ha.ar.sm (.g hg rfl) (.g hg rfl) rfl (by omega)) rfl<|LL.lg rfl rfl (GD.f _) (fun hg => LO.fa F73_1 (.g hg rfl) rfl) rfl<|LL.lg rfl rfl (GD.f _) (fun hg => LO.ld O41 (.g hg rfl) (fun w hw => cells_part (off := 1) ((fun w3 h3 => RO.cel (ha.ar.keep w3 h3) hai) w hw) ⟨_, rfl⟩)) rfl<|LL.lg rfl rfl (GD.f _) (fun hg => LO.mv (.r rfl)) rfl<|LL.lg rfl rfl (GD.f _) (fun hg => LO.mv (.r rfl)) rfl<|LL.lg rfl rfl (GD.f _) (fun hg => LO.ixs S33 N135 hb.ar.sm (.g hg rfl) (.g hg rfl) rfl (by omega)) rfl<|LL.lg rfl rfl (GD.f _) (fun hg => LO.fa F135_1 (.g hg rfl) rfl) rfl<|LL.lg rfl rfl (GD.f _) (fun hg => LO.ld O41 (.g hg rfl) (fun w hw => cells_part (off := 1) ((fun w3 h3 => RO.cel (hb.ar.keep w3 h3) hbi) w hw) ⟨_, rfl⟩)) rfl<|LL.lg rfl rfl (GD.f _) (fun hg => LO.call (xs := [_,_]) (vs := [_,_]) C26 ⟨(.g hg rfl), (.g hg rfl), trivial⟩ (fun w2 hw => lists_k a.kr b.kr a.kp a.kc b.kp b.kc w2 ((ha.kr a (List.mem_of_getElem? hai)).keep w2 hw) ((hb.kr b (List.mem_of_getElem? hbi)).keep w2 hw) (by have := hA.kr a (List.mem_of_getElem? hai); omega) (fun x hx => by have := hA.kl a (List.mem_of_getElem? hai) x hx; omega))) rfl<|LL.lg rfl rfl (GD.f _) (fun hg => LO.not (.g hg rfl)) rfl<|LL.l (LO.pkO (.r rfl) (.r rfl) rfl rfl) rfl<|LL.l (LO.mv (.r rfl)) rfl<|LL.lg rfl rfl (GD.f _) (fun hg => LO.mv (.r rfl)) rfl<|LL.lg rfl rfl (GD.f _) (fun hg => LO.mv (.r rfl)) rfl<|LL.lg rfl rfl (GD.f _) (fun hg => LO.ixs S29 N73 ha.ar.sm (.g hg rfl) (.g hg rfl) rfl (by omega)) rfl<|LL.lg rfl rfl (GD.f _) (fun hg => LO.fa F73_2 (.g hg rfl) rfl) rfl<|LL.lg rfl rfl (GD.f _) (fun hg => LO.lda (vs := [_,_]) A71 (.g hg rfl) (fun w hw => cells_part (off := 2) ((fun w3 h3 => RO.cel (ha.ar.keep w3 h3) hai) w hw) ⟨_, rfl⟩) rfl) rfl<|LL.lg rfl rfl (GD.f _) (fun hg => LO.mv (.r rfl)) rfl<|LL.lg rfl rfl (GD.f _) (fun hg => LO.mv (.r rfl)) rfl<|LL.lg rfl rfl (GD.f _) (fun hg => LO.ixs S33 N135 hb.ar.sm (.g hg rfl) (.g hg rfl) rfl (by omega)) rfl<|LL.lg rfl rfl (GD.f _) (fun hg => LO.fa F135_2 (.g hg rfl) rfl) rfl<|LL.lg rfl rfl (GD.f _) (fun hg => LO.lda (vs := [_,_]) A71 (.g hg rfl) (fun w hw => cells_part (off := 2) ((fun w3 h3 => RO.cel (hb.ar.keep w3 h3) hbi) w hw) ⟨_, rfl⟩) rfl) rfl<|LL.lg rfl rfl (GD.f _) (fun hg => LO.neA («as» := [_,_]) (bs := [_,_]) EA71 (.g hg rfl) (.g hg rfl) rfl rfl) rfl<|LL.l (LO.pkO (.r rfl) (.r rfl) rfl rfl) rfl<|LL.l (LO.mv (.r rfl)) rfl<|LL.lg rfl rfl (GD.f _) (fun hg => LO.mv (.r rfl)) rfl<|LL.lg rfl rfl (GD.f _) (fun hg => LO.mv (.r rfl)) rfl<|LL.lg rfl rfl (GD.f _) (fun hg => LO.ixs S29 N73 ha.ar.sm (.g hg rfl) (.g hg rfl) rfl (by omega)) rfl<|LL.lg rfl rfl (GD.f _) (fun hg => LO.fa F73_3 (.g hg rfl) rfl) rfl<|LL.lg rfl rfl (GD.f _) (fun hg => LO.lda (vs := [_,_]) A71 (.g hg rfl) (fun w hw => cells_part (off := 4) ((fun w3 h3 => RO.cel (ha.ar.keep w3 h3) hai) w hw) ⟨_, rfl⟩) rfl) rfl<|LL.lg rfl rfl (GD.f _) (fun hg => LO.mv (.r rfl)) rfl<|LL.lg rfl rfl (GD.f _) (fun hg => LO.mv (.r rfl)) rfl<|LL.lg rfl rfl (GD.f _) (fun hg => LO.ixs S33 N135 hb.ar.sm (.g hg rfl) (.g hg rfl) rfl (by omega)) rfl<|LL.lg rfl rfl (GD.f _) (fun hg => LO.fa F135_3 (.g hg rfl) rfl) rfl<|LL.lg rfl rfl (GD.f _) (fun hg => LO.lda (vs := [_,_]) A71 (.g hg rfl) (fun w hw => cells_part (off := 4) ((fun w3 h3 => RO.cel (hb.ar.keep w3 h3) hbi) w hw) ⟨_, rfl⟩) rfl) rfl<|LL.lg rfl rfl (GD.f _) (fun hg => LO.neA («as» := [_,_]) (bs := [_,_]) EA71 (.g hg rfl) (.g hg rfl) rfl rfl) rfl<|LL.l (LO.pkO (.r rfl) (.r rfl) rfl rfl) rfl<|LL.l (LO.mv (.r rfl)) rfl<|LL.lg rfl rfl (GD.f _) (fun hg => LO.mv (.r rfl)) rfl<|LL.lg rfl rfl (GD.f _) (fun hg => LO.mv (.r rfl)) rfl<|LL.lg rfl rfl (GD.f _) (fun hg => LO.ixs S29 N73 ha.ar.sm (.g hg rfl) (.g hg rfl) rfl (by omega)) rfl<|LL.lg rfl rfl (GD.f _) (fun hg => LO.fa F73_4 (.g hg rfl) rfl) rfl<|LL.lg rfl rfl (GD.f _) (fun hg => LO.lda (vs := [_,_]) A71 (.g hg rfl) (fun w hw => cells_part (off := 6) ((fun w3 h3 => RO.cel (ha.ar.keep w3 h3) hai) w hw) ⟨_, rfl⟩) rfl) rfl<|LL.lg rfl rfl (GD.f _) (fun hg => LO.mv (.r rfl)) rfl<|LL.lg rfl rfl (GD.f _) (fun hg => LO.mv (.r rfl)) rfl<|LL.lg rfl rfl (GD.f _) (fun hg => LO.ixs S33 N135 hb.ar.sm (.g hg rfl) (.g hg rfl) rfl (by omega)) rfl<|LL.lg rfl rfl (GD.f _) (fun hg => LO.fa F135_4 (.g hg rfl) rfl) rfl<|LL.lg rfl rfl (GD.f _) (fun hg => LO.lda (vs := [_,_]) A71 (.g hg rfl) (fun w hw => cells_part (off := 6) ((fun w3 h3 => RO.cel (hb.ar.keep w3 h3) hbi) w hw) ⟨_, rfl⟩) rfl) rfl<|LL.lg rfl rfl (GD.f _) (fun hg => LO.neA («as» := [_,_]) (bs := [_,_]) EA71 (.g hg rfl) (.g hg rfl) rfl rfl) rfl<|LL.l (LO.pkO (.r rfl) (.r rfl) rfl rfl) rfl<|LL.nil) (by kernel_rfl) ?_
      refine VE.seqN ?_
      refine VC.cond rfl (fun h81 => ?_) (fun h81 => ?_)
      ·
        (exfalso; simp [e1, e2, e3] at h81)
      ·
        refine VC.skip (VE.inN (VE.seqN ?_))
        refine VC.reg (VO.l (LO.mv (.r rfl)) rfl<|VO.l (LO.add (.r rfl) (.r rfl) (wi (by omega) (by omega))) rfl<|VO.l (LO.as (.r rfl)) rfl<|VO.nil ?_)
        refine VE.thenN fun a w ha hw => ⟨i + 1, (by omega), (by omega), ha.sub (.cons rfl (.cons rfl (.cons rfl .nil))), hw⟩
    ·
      refine VC.exit (VE.thenX (VE.thenX (VE.inX (VE.seqN ?_))))
      refine VC.seq ?_
      refine VC.reg (VO.l (LO.as (.r rfl)) rfl<|VO.nil ?_)
      refine VE.seqN ?_
      refine VC.ret (VE.res (vs := [_]) rfl ⟨rfl, trivial⟩ (fun w hw => ?_))
      exact ⟨rfl, hw.nil⟩

set_option maxRecDepth 20000 in
set_option maxHeartbeats 8000000 in
theorem CellAreas_c (g : Grid) (vs : List Span) (pv : Option Addr) (cv : Nat) (lv p q : Int) (w : World) (hv : Spans w pv vs) :
  Calls Try.prog 3 #[fieldV g pv vs.length cv, .int .i64 lv, .int .i64 p, .int .i64 q] w fun e w' => e = .returned (.bool true) ∧ St (bs w) [] w' := by
  refine enter (vs := [_,_,_,_]) (env := [(0,_), (1,_), (2,_), (3,_)]) Try.func3 rfl rfl rfl rfl ?_
  refine VC.seq ?_
  refine VC.reg (VO.h rfl<|HO.box (C := #[_,_,_,_,_,_]) rfl rfl fun b1 => VO.l (LO.as (.r rfl)) rfl<|VO.nil ?_)
  refine VE.seqN ?_
  refine VC.seq ?_
  refine VC.seq ?_
  refine VC.reg (VO.l (LO.lda (vs := [_,_,_,_,_,_]) A26 (.r rfl) (fun _ hw => cells_at hw 0 rfl ⟨_, rfl⟩) rfl) rfl<|VO.l (LO.call (xs := [_]) (vs := [_]) C15 ⟨(.r rfl), trivial⟩ (fun w2 hw => large_c g vs pv cv w2)) rfl<|VO.nil ?_)
  refine VE.seqN ?_
  refine VC.cond rfl (fun h16 => ?_) (fun h16 => ?_)
  ·
    refine VC.seq ?_
    refine VC.reg (VO.l (LO.call (xs := []) (vs := []) C16 trivial (fun w2 _ => works_c w2)) rfl<|VO.l (LO.as (.r rfl)) rfl<|VO.nil ?_)
    refine VE.seqN ?_
    refine VC.ret (VE.thenR (VE.res (vs := [_]) rfl ⟨rfl, trivial⟩ (fun w hw => ?_)))
    refine ⟨congrArg (fun z => Ending.returned (.bool z)) ?_, hw.nil⟩
    first | rfl | simp
  ·
    refine VC.skip (VE.seqN ?_)
    refine VC.seq ?_
    refine VC.reg (VO.l (LO.lda (vs := [_,_,_,_,_,_]) A26 (.r rfl) (fun _ hw => cells_at hw 0 rfl ⟨_, rfl⟩) rfl) rfl<|VO.l (LO.mv (.r rfl)) rfl<|VO.h rfl<|HO.callx (xs := [_,_]) (vs := [_,_]) C17 ⟨(.r rfl), (.r rfl), trivial⟩ (fun w2 hw => Areas_b g vs pv cv lv w2 (hv.keep w2 hw)) fun y1 hy1 => VO.h rfl<|HO.lo (LO.mv (.r rfl))<|VO.h rfl<|HO.lo (LO.ex (.r rfl) rfl)<|VO.h rfl<|HO.lo (LO.ex (.r rfl) rfl)<|VO.h rfl<|HO.lo (LO.as (.r rfl))<|VO.h rfl<|HO.lo (LO.as (.r rfl))<|VO.nil ?_)
    refine VE.seqN ?_
    refine VC.seq ?_
    refine VC.reg (VO.l (LO.lda (vs := [_,_,_,_,_,_]) A26 (.r rfl) (fun _ hw => cells_at hw 1 rfl ⟨_, rfl⟩) rfl) rfl<|VO.l (LO.mv (.r rfl)) rfl<|VO.h rfl<|HO.callx (xs := [_,_]) (vs := [_,_]) C18 ⟨(.r rfl), (.r rfl), trivial⟩ (fun w2 hw => rAreas_b g vs pv cv lv w2 (hv.keep w2 hw)) fun y2 hy2 => VO.h rfl<|HO.lo (LO.mv (.r rfl))<|VO.h rfl<|HO.lo (LO.ex (.r rfl) rfl)<|VO.h rfl<|HO.lo (LO.ex (.r rfl) rfl)<|VO.h rfl<|HO.lo (LO.as (.r rfl))<|VO.h rfl<|HO.lo (LO.as (.r rfl))<|VO.nil ?_)
    refine VE.seqN ?_
    refine VC.seq ?_
    refine VC.seq ?_
    refine VC.reg (VO.l (LO.mv (.r rfl)) rfl<|VO.l (LO.mv (.r rfl)) rfl<|VO.l (LO.call (xs := [_,_]) (vs := [_,_]) C19 ⟨(.r rfl), (.r rfl), trivial⟩ (fun w2 hw => areasEq_c y1.l y2.l y1.p y1.c y2.p y2.c w2 (hy1.rd w2 (hw.inv 1 _ rfl).1) (hy2.rd w2 (hw.inv 0 _ rfl).1) (ab_same hy1 hy2) hy1.bd)) rfl<|VO.l (LO.not (.r rfl)) rfl<|VO.l (LO.mv (.r rfl)) rfl<|VO.lg rfl rfl (GD.f _) (fun hg => LO.mv (.r rfl)) rfl<|VO.lg rfl rfl (GD.f _) (fun hg => LO.mv (.r rfl)) rfl<|VO.lg rfl rfl (GD.f _) (fun hg => LO.ne (.g hg rfl) (.g hg rfl)) rfl<|VO.l (LO.pkO (.r rfl) (.r rfl) rfl rfl) rfl<|VO.nil ?_)
    refine VE.seqN ?_
    refine VC.cond rfl (fun h38 => ?_) (fun h38 => ?_)
    ·
      (exfalso; simp at h38)
    ·
      refine VC.skip (VE.seqN ?_)
      refine VC.seq ?_
      refine VC.reg (VO.l (LO.lda (vs := [_,_,_,_,_,_]) A26 (.r rfl) (fun _ hw => cells_at hw 2 rfl ⟨_, rfl⟩) rfl) rfl<|VO.l (LO.mv (.r rfl)) rfl<|VO.l (LO.mv (.r rfl)) rfl<|VO.l (LO.mv (.r rfl)) rfl<|VO.l (LO.call (xs := [_,_,_,_]) (vs := [_,_,_,_]) C20 ⟨(.r rfl), (.r rfl), (.r rfl), (.r rfl), trivial⟩ (fun w2 hw => Joined_b g vs pv cv lv p q w2 (hv.keep w2 hw))) rfl<|VO.l (LO.mv (.r rfl)) rfl<|VO.l (LO.ex (.r rfl) rfl) rfl<|VO.l (LO.ex (.r rfl) rfl) rfl<|VO.l (LO.as (.r rfl)) rfl<|VO.l (LO.as (.r rfl)) rfl<|VO.nil ?_)
      refine VE.seqN ?_
      refine VC.seq ?_
      refine VC.reg (VO.l (LO.lda (vs := [_,_,_,_,_,_]) A26 (.r rfl) (fun _ hw => cells_at hw 2 rfl ⟨_, rfl⟩) rfl) rfl<|VO.l (LO.mv (.r rfl)) rfl<|VO.l (LO.mv (.r rfl)) rfl<|VO.l (LO.mv (.r rfl)) rfl<|VO.l (LO.call (xs := [_,_,_,_]) (vs := [_,_,_,_]) C21 ⟨(.r rfl), (.r rfl), (.r rfl), (.r rfl), trivial⟩ (fun w2 hw => rJoined_b g vs pv cv lv p q w2 (hv.keep w2 hw))) rfl<|VO.l (LO.mv (.r rfl)) rfl<|VO.l (LO.ex (.r rfl) rfl) rfl<|VO.l (LO.ex (.r rfl) rfl) rfl<|VO.l (LO.as (.r rfl)) rfl<|VO.l (LO.as (.r rfl)) rfl<|VO.nil ?_)
      refine VE.seqN ?_
      refine VC.seq ?_
      refine VC.seq ?_
      refine VC.reg (VO.l (LO.mv (.r rfl)) rfl<|VO.l (LO.mv (.r rfl)) rfl<|VO.l (LO.ne (.r rfl) (.r rfl)) rfl<|VO.l (LO.mv (.r rfl)) rfl<|VO.lg rfl rfl (GD.f _) (fun hg => LO.mv (.r rfl)) rfl<|VO.lg rfl rfl (GD.f _) (fun hg => LO.mv (.r rfl)) rfl<|VO.lg rfl rfl (GD.f _) (fun hg => LO.ne (.g hg rfl) (.g hg rfl)) rfl<|VO.l (LO.pkO (.r rfl) (.r rfl) rfl rfl) rfl<|VO.nil ?_)
      refine VE.seqN ?_
      refine VC.cond rfl (fun h62 => ?_) (fun h62 => ?_)
      ·
        (exfalso; simp at h62)
      ·
        refine VC.skip (VE.seqN ?_)
        refine VC.seq ?_
        refine VC.reg (VO.l (LO.lda (vs := [_,_,_,_,_,_]) A26 (.r rfl) (fun _ hw => cells_at hw 2 rfl ⟨_, rfl⟩) rfl) rfl<|VO.l (LO.mv (.r rfl)) rfl<|VO.l (LO.mv (.r rfl)) rfl<|VO.l (LO.mv (.r rfl)) rfl<|VO.h rfl<|HO.callx (xs := [_,_,_,_]) (vs := [_,_,_,_]) C22 ⟨(.r rfl), (.r rfl), (.r rfl), (.r rfl), trivial⟩ (fun w2 hw => Gap_b g vs pv cv lv p q w2 (hv.keep w2 hw)) fun z1 hz1 => VO.h rfl<|HO.lo (LO.mv (.r rfl))<|VO.h rfl<|HO.lo (LO.ex (.r rfl) rfl)<|VO.h rfl<|HO.lo (LO.ex (.r rfl) rfl)<|VO.h rfl<|HO.lo (LO.as (.r rfl))<|VO.h rfl<|HO.lo (LO.as (.r rfl))<|VO.nil ?_)
        refine VE.seqN ?_
        refine VC.seq ?_
        refine VC.reg (VO.l (LO.lda (vs := [_,_,_,_,_,_]) A26 (.r rfl) (fun _ hw => cells_at hw 2 rfl ⟨_, rfl⟩) rfl) rfl<|VO.l (LO.mv (.r rfl)) rfl<|VO.l (LO.mv (.r rfl)) rfl<|VO.l (LO.mv (.r rfl)) rfl<|VO.h rfl<|HO.callx (xs := [_,_,_,_]) (vs := [_,_,_,_]) C23 ⟨(.r rfl), (.r rfl), (.r rfl), (.r rfl), trivial⟩ (fun w2 hw => rGap_b g vs pv cv lv p q w2 (hv.keep w2 hw)) fun z2 hz2 => VO.h rfl<|HO.lo (LO.mv (.r rfl))<|VO.h rfl<|HO.lo (LO.ex (.r rfl) rfl)<|VO.h rfl<|HO.lo (LO.ex (.r rfl) rfl)<|VO.h rfl<|HO.lo (LO.as (.r rfl))<|VO.h rfl<|HO.lo (LO.as (.r rfl))<|VO.nil ?_)
        have hzz := gpv_uniq hz1 hz2
        subst hzz
        refine VE.seqN ?_
        refine VC.seq ?_
        refine VC.reg (VO.l (LO.mv (.r rfl)) rfl<|VO.l (LO.mv (.r rfl)) rfl<|VO.l (LO.eq (.r rfl) (.r rfl)) rfl<|VO.l (LO.mv (.r rfl)) rfl<|VO.lg rfl rfl (GD.t _) (fun hg => LO.mv (.r rfl)) rfl<|VO.lg rfl rfl (GD.t _) (fun hg => LO.mv (.r rfl)) rfl<|VO.lg rfl rfl (GD.t _) (fun hg => LO.eq (.g hg rfl) (.g hg rfl)) rfl<|VO.l (LO.pkA (.r rfl) rfl rfl (.r rfl)) rfl<|VO.l (LO.mv (.r rfl)) rfl<|VO.lg rfl rfl (GD.t _) (fun hg => LO.call (xs := []) (vs := []) C16 trivial (fun w2 _ => works_c w2)) rfl<|VO.l (LO.pkA (.r rfl) rfl rfl (.r rfl)) rfl<|VO.l (LO.as (.r rfl)) rfl<|VO.nil ?_)
        refine VE.seqN ?_
        refine VC.ret (VE.res (vs := [_]) rfl ⟨rfl, trivial⟩ (fun w hw => ?_))
        refine ⟨congrArg (fun z => Ending.returned (.bool z)) ?_, hw.nil⟩
        first | rfl | simp

end Go.Proofs.Ytgemekpofpoopaa
