/-
  The document hears.
-/
import Derived.Test.YtcnlhifkablmkaaWG
namespace Go.Proofs.Ytcnlhifkablmkaa
open Go.SL Go.Proofs Go.Pulse
set_option linter.unusedVariables false

theorem C48 : IsFn Try.prog 48 := ⟨_, Try.func48, by decide, rfl⟩
theorem A101 : IsAgg Try.prog 101 4 := ⟨⟨_, Try.underlying101, rfl⟩, by kernel_rfl⟩
theorem Z101 : ZeroOf Try.prog 101 (.agg #[.int .i64 0, .int .i64 0, .int .i64 0, .int .i64 0]) := by unfold ZeroOf; kernel_rfl
theorem F101_0 : FieldAt Try.prog 101 0 0 := ⟨_, _, Try.underlying101, rfl, rfl, 0, by kernel_rfl⟩
theorem F101_2 : FieldAt Try.prog 101 2 2 := ⟨_, _, Try.underlying101, rfl, rfl, 0, by kernel_rfl⟩
theorem F101_3 : FieldAt Try.prog 101 3 3 := ⟨_, _, Try.underlying101, rfl, rfl, 0, by kernel_rfl⟩
theorem C51 : IsFn Try.prog 51 := ⟨_, Try.func51, by decide, rfl⟩
theorem C53 : IsFn Try.prog 53 := ⟨_, Try.func53, by decide, rfl⟩
theorem C54 : IsFn Try.prog 54 := ⟨_, Try.func54, by decide, rfl⟩
theorem C55 : IsFn Try.prog 55 := ⟨_, Try.func55, by decide, rfl⟩
theorem C56 : IsFn Try.prog 56 := ⟨_, Try.func56, by decide, rfl⟩


section
variable {l : List Sample}
theorem map_step {g : Sample → Int} {j : Nat} (hj : j < l.length) : (l.take (j + 1)).map g = (l.take j).map g ++ [g (l.getD j zSm)] := by
  rw [take_at (getD_some (d := zSm) hj), List.map_append]; rfl
end
theorem powerH_c (r : Recv) (l : List Sample) (p : Option Addr) (c : Nat) (w : World) (hr : recvOk r) (hn : l.length ≤ 64) (hn0 : 0 < l.length) (hs : ∀ x ∈ l, smpOk x) (hl : Ints w p (l.map (·.h))) : Calls Try.prog 51 #[recvV r, .slice p (l.map (·.h)).length c] w fun e w' => e = .returned (spanV (pow0 r l)) ∧ St (bs w) [] w' := by
  rw [List.length_map]
  exact power_c (·.h) r l p c w hr hn hn0 (fun x hx => by have := hs x hx; unfold smpOk at this; omega) hl
theorem powerV_c (r : Recv) (l : List Sample) (p : Option Addr) (c : Nat) (w : World) (hr : recvOk r) (hn : l.length ≤ 64) (hn0 : 0 < l.length) (hs : ∀ x ∈ l, smpOk x) (hl : Ints w p (l.map (·.v))) : Calls Try.prog 51 #[recvV r, .slice p (l.map (·.v)).length c] w fun e w' => e = .returned (spanV (pow1 r l)) ∧ St (bs w) [] w' := by
  rw [List.length_map]
  exact power_c (·.v) r l p c w hr hn hn0 (fun x hx => by have := hs x hx; unfold smpOk at this; omega) hl
theorem matchM_c (r : Recv) (l : List Sample) (p q : Option Addr) (c d : Nat) (w : World) (hr : recvOk r) (hn : l.length ≤ 64) (hs : ∀ x ∈ l, smpOk x) (hl : Ints w p (l.map (·.h))) (hm : Ints w q (l.map (·.v))) : Calls Try.prog 53 #[recvV r, .slice p (l.map (·.h)).length c, .slice q (l.map (·.v)).length d] w fun e w' => e = .returned (spanV (mtchS r l)) ∧ St (bs w) [] w' := by
  rw [List.length_map, List.length_map]
  exact match_c r l p q c d w hr hn hs hl hm
section
variable {t : Train} {r : Recv} {l : List Sample} {s : List Int} {ph : Int} {b : Bool} {sp kd : Int}
theorem both_0 (h : ¬ ¬ (if trainE t ≠ 0 then trainE t else recvE r) = 0) : (kndOk t.kind ∧ trainOk t) ∧ recvOk r := by
  have h := Classical.not_not.1 h
  by_cases k : trainE t = 0
  · rw [if_neg (fun q => q k)] at h
    exact ⟨train_of (fun q => q k), recv_of (fun q => q h)⟩
  · rw [if_pos k] at h; exact absurd h k
theorem nz (h : kndOk t.kind ∧ trainOk t) : ¬ ¬ trainE t = 0 := fun q => q (by unfold trainE; rw [if_pos h.1, if_pos h.2])
theorem nzr (h : recvOk r) : ¬ ¬ recvE r = 0 := fun q => q (if_pos h)
theorem rh_err (h : ¬ (if trainE t ≠ 0 then trainE t else recvE r) = 0) : Ending.returned (.tuple #[.agg #[.int .i64 0, .int .i64 0, .int .i64 0, .int .i64 0, .int .i64 0, .int .i64 0, .int .i64 0, .int .i64 0, .int .i64 0, .int .i64 0, .int .i64 0, .int .i64 0, .int .i64 0, .int .i64 0], .int .i64 (if trainE t ≠ 0 then trainE t else recvE r)]) = .returned (.tuple #[echoV (hearR t r l), .int .i64 (hearE t r l)]) := by
  refine hX ?_ h
  by_cases k : trainE t = 0
  · rw [if_neg (fun q => q k)] at h ⊢; exact hE2 (fun q => q k) h
  · rw [if_pos k]; exact hE1 k
def kP (kd : Int) (b : Bool) : Prop := (kd = 3 ∧ b = true) ∨ (kd = 2 ∧ b = false)
theorem arcX_R (h : ¬ (s.length : Int) = 0) (hT : ∀ x ∈ s, inT x) : arcX s = arcR s := by
  have e : arcE s = 0 := by unfold arcE; rw [if_neg (fun q => h (by rw [q]; rfl)), if_pos hT]
  unfold arcX
  rw [if_pos e]
theorem wid_R (h : ¬ (s.length : Int) = 0) : wid s = (arcR s).2 := if_neg (fun q => h (by rw [q]; rfl))
theorem nil_0 (h : (s.length : Int) = 0) : s = [] := len0.1 h
theorem togV0 (h : (s.length : Int) = 0) : togV s ph = true := by rw [togV_iff]; exact .inl (nil_0 h)
theorem togVX (h : ¬ (s.length : Int) = 0) (hT : ∀ x ∈ s, inT x) : togV s ph = true ↔ (arcX s).2 + 4 * ph < 32768 := by
  rw [togV_iff, arcX_R h hT]
  exact ⟨fun q => q.resolve_left (fun q => h (by rw [q]; rfl)), .inr⟩
theorem kkA (hk : kP kd true) (h : (s.length : Int) = 0) : kP kd (togV s ph) ∧ (0 : Int) = max 0 (wid s) := by
  rw [togV0 h, nil_0 h]; exact ⟨hk, rfl⟩
theorem kkA2 {x : Int} (hk : kP kd b) (h : (s.length : Int) = 0) : kP kd (b && togV s ph) ∧ max 0 x = max (max 0 x) (wid s) := by
  rw [togV0 h, Bool.and_true, nil_0 h]; exact ⟨hk, by rw [show wid [] = 0 from rfl]; omega⟩
theorem kkB2 (hk : kP kd b) (h : ¬ (s.length : Int) = 0) (hT : ∀ x ∈ s, inT x) (k : ¬ ¬ (arcX s).2 + 4 * ph < 32768) : kP kd (b && togV s ph) ∧ max sp (arcX s).2 = max sp (wid s) := by
  rw [(togVX h hT).2 (Classical.not_not.1 k), Bool.and_true, arcX_R h hT, wid_R h]; exact ⟨hk, rfl⟩
theorem kkB (hk : kP kd true) (h : ¬ (s.length : Int) = 0) (hT : ∀ x ∈ s, inT x) (k : ¬ ¬ (arcX s).2 + 4 * ph < 32768) : kP kd (togV s ph) ∧ max sp (arcX s).2 = max sp (wid s) := by
  have := kkB2 (sp := sp) hk h hT k; rwa [Bool.true_and] at this
theorem kkC2 (h : ¬ (s.length : Int) = 0) (hT : ∀ x ∈ s, inT x) (k : ¬ (arcX s).2 + 4 * ph < 32768) : kP 2 (b && togV s ph) ∧ max sp (arcX s).2 = max sp (wid s) := by
  rw [Bool.eq_false_iff.2 (fun q => k ((togVX h hT).1 q)), Bool.and_false, arcX_R h hT, wid_R h]; exact ⟨.inr ⟨rfl, rfl⟩, rfl⟩
theorem kkC (h : ¬ (s.length : Int) = 0) (hT : ∀ x ∈ s, inT x) (k : ¬ (arcX s).2 + 4 * ph < 32768) : kP 2 (togV s ph) ∧ max sp (arcX s).2 = max sp (wid s) := by
  have := kkC2 (b := true) (sp := sp) h hT k; rwa [Bool.true_and] at this
theorem mn02 {sl : Int} (h : (s.length : Int) = 0) : 0 = (meanS s sl).lo ∧ 0 = (meanS s sl).hi := by
  rw [nil_0 h]; exact ⟨rfl, rfl⟩
theorem mn0 {sl : Int} {P : Prop} (h : (s.length : Int) = 0) (p : P) : 0 = (meanS s sl).lo ∧ 0 = (meanS s sl).hi ∧ P := ⟨(mn02 h).1, (mn02 h).2, p⟩
theorem mnA2 (h : t.kind = 3) : (meanS s (2 * (s.length : Int) * r.phase)).lo = (meanS s (slk t r s)).lo ∧ (meanS s (2 * (s.length : Int) * r.phase)).hi = (meanS s (slk t r s)).hi := by
  rw [show slk t r s = 2 * (s.length : Int) * r.phase by unfold slk; rw [if_pos h]; ac_rfl]; exact ⟨rfl, rfl⟩
theorem mnA {P : Prop} (h : t.kind = 3) (p : P) : (meanS s (2 * (s.length : Int) * r.phase)).lo = (meanS s (slk t r s)).lo ∧ (meanS s (2 * (s.length : Int) * r.phase)).hi = (meanS s (slk t r s)).hi ∧ P := ⟨(mnA2 h).1, (mnA2 h).2, p⟩
theorem mnB2 (h : ¬ t.kind = 3) : (meanS s (2 * 1 * r.phase)).lo = (meanS s (slk t r s)).lo ∧ (meanS s (2 * 1 * r.phase)).hi = (meanS s (slk t r s)).hi := by
  rw [show slk t r s = 2 * 1 * r.phase by unfold slk; rw [if_neg h]; rfl]; exact ⟨rfl, rfl⟩
theorem mnB {P : Prop} (h : ¬ t.kind = 3) (p : P) : (meanS s (2 * 1 * r.phase)).lo = (meanS s (slk t r s)).lo ∧ (meanS s (2 * 1 * r.phase)).hi = (meanS s (slk t r s)).hi ∧ P := ⟨(mnB2 h).1, (mnB2 h).2, p⟩
theorem rhE (hb : kndOk t.kind ∧ trainOk t) (hr : recvOk r) (h34 : ¬ ¬ (l.length : Int) = t.count) (hs : ∀ x ∈ l, smpOk x) : hearE t r l = 0 := by unfold hearE; rw [if_neg (nz hb), if_neg (nzr hr), if_neg h34, if_pos hs]
theorem rh_1 (hb : kndOk t.kind ∧ trainOk t) (hr : recvOk r) (h34 : ¬ ¬ (l.length : Int) = t.count) (hs : ∀ x ∈ l, smpOk x) (hz : (pow0 r l).lo = 0) : Ending.returned (.tuple #[echoV { zE with kind := 1, power := pow0 r l }, .int .i64 0]) = .returned (.tuple #[echoV (hearR t r l), .int .i64 (hearE t r l)]) := by
  rw [← hX0 (rhE hb hr h34 hs), hearX, if_pos hz]
theorem rh_2 (hb : kndOk t.kind ∧ trainOk t) (hr : recvOk r) (h34 : ¬ ¬ (l.length : Int) = t.count) (hs : ∀ x ∈ l, smpOk x) (hz : ¬ (pow0 r l).lo = 0) (hg : ¬ goodT t r l) : Ending.returned (.tuple #[echoV { zE with kind := 2, power := pow0 r l, spread := spreadL t l, ratio := ratioS (pow0 r l) (pow1 r l), mtch := mtchS r l }, .int .i64 0]) = .returned (.tuple #[echoV (hearR t r l), .int .i64 (hearE t r l)]) := by
  rw [← hX0 (rhE hb hr h34 hs), hearX, if_neg hz, if_pos hg]
theorem turn_ne (hl : 2 ≤ l.length) : ¬ ((turnL l).length : Int) = 0 := by rw [show (turnL l).length = l.length from List.length_map ..]; omega
theorem rh_2a (hb : kndOk t.kind ∧ trainOk t) (hr : recvOk r) (h34 : ¬ ¬ (l.length : Int) = t.count) (hs : ∀ x ∈ l, smpOk x) (hz : ¬ (pow0 r l).lo = 0) (hl : 2 ≤ l.length) (h : ¬ (arcX (turnL l)).2 + 4 * r.phase < 32768) : Ending.returned (.tuple #[echoV { zE with kind := 2, power := pow0 r l, spread := spreadL t l, ratio := ratioS (pow0 r l) (pow1 r l), mtch := mtchS r l }, .int .i64 0]) = .returned (.tuple #[echoV (hearR t r l), .int .i64 (hearE t r l)]) := by
  refine rh_2 hb hr h34 hs hz fun g => h ((togVX (turn_ne hl) (turnL_inT l)).1 (togV_iff.2 g.1))
theorem rh_2b (hb : kndOk t.kind ∧ trainOk t) (hr : recvOk r) (h34 : ¬ ¬ (l.length : Int) = t.count) (hs : ∀ x ∈ l, smpOk x) (hz : ¬ (pow0 r l).lo = 0) (hk : kP kd (togV (stL t.kind l 0) r.phase && togV (stL t.kind l 1) r.phase)) (h : kd = 2) : Ending.returned (.tuple #[echoV { zE with kind := kd, power := pow0 r l, spread := spreadL t l, ratio := ratioS (pow0 r l) (pow1 r l), mtch := mtchS r l }, .int .i64 0]) = .returned (.tuple #[echoV (hearR t r l), .int .i64 (hearE t r l)]) := by
  subst h
  refine rh_2 hb hr h34 hs hz fun g => ?_
  rw [togV_iff.2 g.2.1, togV_iff.2 g.2.2] at hk
  rcases hk with q | q
  · exact absurd q.1 (by decide)
  · exact absurd q.2 (by decide)
theorem rh_3 (hb : kndOk t.kind ∧ trainOk t) (hr : recvOk r) (h34 : ¬ ¬ (l.length : Int) = t.count) (hs : ∀ x ∈ l, smpOk x) (hz : ¬ (pow0 r l).lo = 0) (hl : 2 ≤ l.length) (h : ¬ ¬ (arcX (turnL l)).2 + 4 * r.phase < 32768) (hk : kP kd (togV (stL t.kind l 0) r.phase && togV (stL t.kind l 1) r.phase)) (k : ¬ kd = 2) : Ending.returned (.tuple #[echoV ⟨kd, pow0 r l, meanS (stL t.kind l 0) (slk t r (stL t.kind l 0)), meanS (stL t.kind l 1) (slk t r (stL t.kind l 1)), spreadL t l, ratioS (pow0 r l) (pow1 r l), mtchS r l, meanS (turnL l) (2 * ((turnL l).length : Int) * r.phase)⟩, .int .i64 0]) = .returned (.tuple #[echoV (hearR t r l), .int .i64 (hearE t r l)]) := by
  have hT := togV_iff.1 ((togVX (turn_ne hl) (turnL_inT l)).2 (Classical.not_not.1 h))
  rcases hk with ⟨rfl, hk⟩ | ⟨q, _⟩
  · simp only [Bool.and_eq_true] at hk
    have hg : goodT t r l := ⟨hT, togV_iff.1 hk.1, togV_iff.1 hk.2⟩
    rw [← hX0 (rhE hb hr h34 hs), hearX, if_neg hz, if_neg (fun q => q hg), show (turnL l).length = l.length from List.length_map .., show 2 * (l.length : Int) * r.phase = 2 * r.phase * l.length by ac_rfl]
  · exact absurd q k
end

set_option maxRecDepth 20000 in
set_option maxHeartbeats 4000000 in
theorem rHear_c (t : Train) (r : Recv) (l : List Sample) (p : Option Addr) (c : Nat) (w : World) (hn : l.length < 1000000000) (hl : Smps w p l) :
  Calls Try.prog 17 #[trainV t, recvV r, .slice p l.length c] w fun e w' => e = .returned (.tuple #[echoV (hearR t r l), .int .i64 (hearE t r l)]) ∧ St (bs w) [] w' := by
  refine enter (vs := [_, _, _]) (env := [(0, _), (1, _), (2, _)]) Try.func17 rfl rfl rfl rfl ?_
  refine VC.seq ?_
  refine VC.reg (VO.h rfl <| HO.box (C := #[_, _, _, _, _]) rfl rfl fun b1 => VO.h rfl <| HO.box (C := #[_, _, _, _]) rfl rfl fun b2 => VO.h rfl <| HO.alloc (C := #[_, _, _, _, _, _, _, _, _, _, _, _, _, _]) Z32 rfl fun b3 => VO.l (LO.as (.r rfl)) rfl <| VO.nil ?_)
  refine VE.seqN ?_
  refine VC.seq ?_
  refine VC.reg (VO.l (LO.lda (vs := [_, _, _, _, _]) A37 (.r rfl) (fun _ hw => cells_at hw 2 rfl ⟨_, rfl⟩) rfl) rfl <| VO.l (LO.lda (vs := [_, _, _, _]) A38 (.r rfl) (fun _ hw => cells_at hw 1 rfl ⟨_, rfl⟩) rfl) rfl <| VO.l (LO.call (xs := [_, _]) (vs := [_, _]) C48 ⟨(.r rfl), (.r rfl), trivial⟩ (fun w _ => both_c t r w)) rfl <| VO.l (LO.as (.r rfl)) rfl <| VO.nil ?_)
  refine VE.seqN ?_
  refine VC.seq ?_
  refine VC.seq ?_
  refine VC.reg (VO.l (LO.mv (.r rfl)) rfl <| VO.l (LO.ne (.r rfl) (.r rfl)) rfl <| VO.nil ?_)
  refine VE.seqN ?_
  refine VC.cond rfl (fun h27 => ?_) (fun h27 => ?_)
  ·
    refine VC.seq ?_
    refine VC.reg (VO.l (LO.bd (ps := []) (vs := []) (C := [_, _, _, _, _, _, _, _, _, _, _, _, _, _]) B32  trivial rfl rfl) rfl <| VO.l (LO.mv (.r rfl)) rfl <| VO.h0 <| HO.st 0 (vs := [_, _, _, _, _, _, _, _, _, _, _, _, _, _]) (C' := [_, _, _, _, _, _, _, _, _, _, _, _, _, _]) (L' := [_, _, _]) N32 rfl rfl rfl rfl rfl rfl rfl rfl <| VO.l (LO.as (.r rfl)) rfl <| VO.nil ?_)
    refine VE.seqN ?_
    refine VC.ret (VE.thenR (VE.res (vs := [_, _]) rfl ⟨RV.agg (vs := [_, _, _, _, _, _, _, _, _, _, _, _, _, _]) A32 rfl (cells_blk 0 rfl ⟨_, rfl⟩) rfl, rfl, trivial⟩ (fun w hw => ?_)))
    refine ⟨?_, hw.nil⟩
    simp only [resV]
    first | exact rh_err h27 | exact hX (hE3 (nz hb0.1) (nzr hr) h34) (by decide) | exact hX (hE4 (nz hb0.1) (nzr hr) h34 (j := j) (by omega) (by unfold smpOk; omega)) (by decide) | exact rh_1 hb0.1 hr h34 hs hz | exact rh_2a hb0.1 hr h34 hs hz hln.1 h161 | exact rh_2b hb0.1 hr h34 hs hz hk h165 | exact rh_3 hb0.1 hr h34 hs hz hln.1 h161 hk h165
  ·
    have hb0 := both_0 h27
    have ht := hb0.1.2
    have htk := hb0.1.1
    have hr := hb0.2
    have ht' := ht
    unfold trainOk at ht'
    have hr' := hr
    unfold recvOk at hr'
    refine VC.skip (VE.seqN ?_)
    refine VC.seq ?_
    refine VC.seq ?_
    refine VC.reg (VO.l (LO.mv (.r rfl)) rfl <| VO.l (LO.len S39 (.r rfl) rfl) rfl <| VO.l (LO.fa (r := 4) F37_4 (.r rfl) rfl) rfl <| VO.l (LO.ld O3 (.r rfl) (fun _ hw => cells_at hw 2 rfl ⟨_, rfl⟩)) rfl <| VO.l (LO.ne (.r rfl) (.r rfl)) rfl <| VO.nil ?_)
    refine VE.seqN ?_
    refine VC.cond rfl (fun h34 => ?_) (fun h34 => ?_)
    ·
      refine VC.seq ?_
      refine VC.reg (VO.l (LO.bd (ps := []) (vs := []) (C := [_, _, _, _, _, _, _, _, _, _, _, _, _, _]) B32  trivial rfl rfl) rfl <| VO.h0 <| HO.st 0 (vs := [_, _, _, _, _, _, _, _, _, _, _, _, _, _]) (C' := [_, _, _, _, _, _, _, _, _, _, _, _, _, _]) (L' := [_, _, _]) N32 rfl rfl rfl rfl rfl rfl rfl rfl <| VO.l (LO.as (.r rfl)) rfl <| VO.nil ?_)
      refine VE.seqN ?_
      refine VC.ret (VE.thenR (VE.res (vs := [_, _]) rfl ⟨RV.agg (vs := [_, _, _, _, _, _, _, _, _, _, _, _, _, _]) A32 rfl (cells_blk 0 rfl ⟨_, rfl⟩) rfl, rfl, trivial⟩ (fun w hw => ?_)))
      refine ⟨?_, hw.nil⟩
      simp only [resV]
      first | exact rh_err h27 | exact hX (hE3 (nz hb0.1) (nzr hr) h34) (by decide) | exact hX (hE4 (nz hb0.1) (nzr hr) h34 (j := j) (by omega) (by unfold smpOk; omega)) (by decide) | exact rh_1 hb0.1 hr h34 hs hz | exact rh_2a hb0.1 hr h34 hs hz hln.1 h161 | exact rh_2b hb0.1 hr h34 hs hz hk h165 | exact rh_3 hb0.1 hr h34 hs hz hln.1 h161 hk h165
    ·
      have hln : 2 ≤ l.length ∧ l.length ≤ 64 := by omega
      refine VC.skip (VE.seqN ?_)
      refine VC.seq ?_
      refine VC.reg (VO.l (LO.as (.r rfl)) rfl <| VO.l (LO.as (.r rfl)) rfl <| VO.l (LO.as (.r rfl)) rfl <| VO.nil ?_)
      refine VE.seqN ?_
      refine VC.seq ?_
      refine VC.seq ?_
      refine VC.reg (VO.l (LO.as (.r rfl)) rfl <| VO.nil ?_)
      refine VE.seqN ?_
      refine VC.block ?_
      refine VC.loopK (α := Nat × (List Int) × (Option Addr) × Nat × (List Int) × (Option Addr) × Nat × (List Int) × (Option Addr) × Nat) 0 (fun gx => [(9, .slice gx.2.2.1 gx.2.1.length gx.2.2.2.1), (10, .slice gx.2.2.2.2.2.1 gx.2.2.2.2.1.length gx.2.2.2.2.2.2.1), (11, .slice gx.2.2.2.2.2.2.2.2.1 gx.2.2.2.2.2.2.2.1.length gx.2.2.2.2.2.2.2.2.2), (12, .int .i64 (gx.1 : Nat))]) [(2, _), (3, _), (4, _), (6, _)] (fun gx => [own 3 1 gx.2.2.1 gx.2.2.2.1 (gx.2.1.map intC), own 3 1 gx.2.2.2.2.2.1 gx.2.2.2.2.2.2.1 (gx.2.2.2.2.1.map intC), own 3 1 gx.2.2.2.2.2.2.2.2.1 gx.2.2.2.2.2.2.2.2.2 (gx.2.2.2.2.2.2.2.1.map intC)]) (fun gx => gx.1 ≤ l.length ∧ gx.2.1 = (l.take gx.1).map (·.h) ∧ gx.2.2.2.2.1 = (l.take gx.1).map (·.v) ∧ gx.2.2.2.2.2.2.2.1 = turnL (l.take gx.1) ∧ ∀ k, k < gx.1 → smpOk (l.getD k zSm)) (fun gx => l.length - gx.1) (0, [], none, 0, [], none, 0, [], none, 0) (by exact ⟨Nat.zero_le _, rfl, rfl, rfl, fun k hk => by omega⟩) (.cons rfl (.cons rfl (.cons rfl (.cons rfl (.cons rfl (.cons rfl (.cons rfl (.cons rfl .nil)))))))) (fun _ h => (((h.ownNil 3 1).ownNil 3 1).ownNil 3 1)) ?_
      rintro ⟨j, al, pa, ca, vl, pv, cv, tl, pt, ct⟩ ⟨hj, hHl, hVl, hTl, hz⟩
      show VC _ _ _ _ _ ([(9, .slice pa al.length ca), (10, .slice pv vl.length cv), (11, .slice pt tl.length ct), (12, .int .i64 (j : Nat))] ++ _) ([own 3 1 pa ca (al.map intC), own 3 1 pv cv (vl.map intC), own 3 1 pt ct (tl.map intC)] ++ _) _ _
      dsimp only at hj hHl hVl hTl hz
      have hal : al.length = j := by rw [hHl]; simp; omega
      have hvl : vl.length = j := by rw [hVl]; simp; omega
      have htl : tl.length = j := by rw [hTl]; simp [turnL]; omega
      refine VC.seq ?_
      refine VC.seq ?_
      refine VC.reg (VO.l (LO.mv (.r rfl)) rfl <| VO.l (LO.mv (.r rfl)) rfl <| VO.l (LO.len S39 (.r rfl) rfl) rfl <| VO.l (LO.lt (.r rfl) (.r rfl)) rfl <| VO.nil ?_)
      refine VE.seqN ?_
      refine VC.cond rfl (fun h3 => ?_) (fun h3 => ?_)
      ·
        refine VC.skip (VE.seqN ?_)
        refine VC.seq ?_
        refine VC.block ?_
        refine VC.seq ?_
        refine VC.reg (VO.l (LO.mv (.r rfl)) rfl <| VO.l (LO.mv (.r rfl)) rfl <| VO.l (LO.ixs S39 N101 hl.sm (.r rfl) (.r rfl) rfl (by omega)) rfl <| VO.l (LO.lda (vs := [_, _, _, _]) A101 (.r rfl) (fun w hw => cells_part (off := 0) ((hl.at zSm (j := j) (by omega)) w hw) ⟨_, rfl⟩) rfl) rfl <| VO.h rfl <| HO.alloc (C := #[_, _, _, _]) Z101 rfl fun b9 => VO.h0 <| HO.st 0 (vs := [_, _, _, _]) (C' := [_, _, _, _]) (L' := [_, _, _, _, _, _, _]) N101 rfl rfl rfl rfl rfl rfl rfl rfl <| VO.nil ?_)
        refine VE.seqN ?_
        refine VC.seq ?_
        refine VC.seq ?_
        refine VC.reg (VO.l (LO.fa (r := 0) F101_0 (.r rfl) rfl) rfl <| VO.l (LO.ld O3 (.r rfl) (fun _ hw => cells_at hw 0 rfl ⟨_, rfl⟩)) rfl <| VO.l (LO.call (xs := [_, _, _]) (vs := [_, _, _]) C49 ⟨(.r rfl), (.r rfl), (.r rfl), trivial⟩ (fun w _ => In_c _ _ _ w)) rfl <| VO.l (LO.not (.r rfl)) rfl <| VO.l (LO.mv (.r rfl)) rfl <| VO.lg rfl rfl (GD.f _) (fun hg => LO.fa (r := 2) F101_2 (.r rfl) rfl) rfl <| VO.lg rfl rfl (GD.f _) (fun hg => LO.ld O3 (.g hg rfl) (fun _ hw => cells_at hw 0 rfl ⟨_, rfl⟩)) rfl <| VO.lg rfl rfl (GD.f _) (fun hg => LO.call (xs := [_, _, _]) (vs := [_, _, _]) C49 ⟨(.g hg rfl), (.r rfl), (.r rfl), trivial⟩ (fun w _ => In_c _ _ _ w)) rfl <| VO.lg rfl rfl (GD.f _) (fun hg => LO.not (.g hg rfl)) rfl <| VO.l (LO.pkO (.r rfl) (.r rfl) rfl rfl) rfl <| VO.l (LO.mv (.r rfl)) rfl <| VO.lg rfl rfl (GD.f _) (fun hg => LO.fa (r := 1) F101_1 (.r rfl) rfl) rfl <| VO.lg rfl rfl (GD.f _) (fun hg => LO.ld O3 (.g hg rfl) (fun _ hw => cells_at hw 0 rfl ⟨_, rfl⟩)) rfl <| VO.lg rfl rfl (GD.f _) (fun hg => LO.call (xs := [_, _, _]) (vs := [_, _, _]) C49 ⟨(.g hg rfl), (.r rfl), (.r rfl), trivial⟩ (fun w _ => In_c _ _ _ w)) rfl <| VO.lg rfl rfl (GD.f _) (fun hg => LO.not (.g hg rfl)) rfl <| VO.l (LO.pkO (.r rfl) (.r rfl) rfl rfl) rfl <| VO.l (LO.mv (.r rfl)) rfl <| VO.lg rfl rfl (GD.f _) (fun hg => LO.fa (r := 3) F101_3 (.r rfl) rfl) rfl <| VO.lg rfl rfl (GD.f _) (fun hg => LO.ld O3 (.g hg rfl) (fun _ hw => cells_at hw 0 rfl ⟨_, rfl⟩)) rfl <| VO.lg rfl rfl (GD.f _) (fun hg => LO.call (xs := [_, _, _]) (vs := [_, _, _]) C49 ⟨(.g hg rfl), (.r rfl), (.r rfl), trivial⟩ (fun w _ => In_c _ _ _ w)) rfl <| VO.lg rfl rfl (GD.f _) (fun hg => LO.not (.g hg rfl)) rfl <| VO.l (LO.pkO (.r rfl) (.r rfl) rfl rfl) rfl <| VO.nil ?_)
        refine VE.seqN ?_
        refine VC.cond rfl (fun h67 => ?_) (fun h67 => ?_)
        ·
          refine VC.seq ?_
          refine VC.reg (VO.l (LO.bd (ps := []) (vs := []) (C := [_, _, _, _, _, _, _, _, _, _, _, _, _, _]) B32  trivial rfl rfl) rfl <| VO.h0 <| HO.st 4 (vs := [_, _, _, _, _, _, _, _, _, _, _, _, _, _]) (C' := [_, _, _, _, _, _, _, _, _, _, _, _, _, _]) (L' := [_, _, _, _, _, _, _]) N32 rfl rfl rfl rfl rfl rfl rfl rfl <| VO.l (LO.as (.r rfl)) rfl <| VO.nil ?_)
          refine VE.seqN ?_
          refine VC.ret (VE.thenR (VE.inR (VE.thenR (VE.thenR (VE.inR (VE.thenR (VE.res (vs := [_, _]) rfl ⟨RV.agg (vs := [_, _, _, _, _, _, _, _, _, _, _, _, _, _]) A32 rfl (cells_blk 4 rfl ⟨_, rfl⟩) rfl, rfl, trivial⟩ (fun w hw => ?_))))))))
          refine ⟨?_, hw.nil⟩
          simp only [resV]
          first | exact rh_err h27 | exact hX (hE3 (nz hb0.1) (nzr hr) h34) (by decide) | exact hX (hE4 (nz hb0.1) (nzr hr) h34 (j := j) (by omega) (by unfold smpOk; omega)) (by decide) | exact rh_1 hb0.1 hr h34 hs hz | exact rh_2a hb0.1 hr h34 hs hz hln.1 h161 | exact rh_2b hb0.1 hr h34 hs hz hk h165 | exact rh_3 hb0.1 hr h34 hs hz hln.1 h161 hk h165
        ·
          refine VC.skip (VE.seqN ?_)
          have q1 : smpOk (l.getD j zSm) := by unfold smpOk; omega
          have q1' := q1
          unfold smpOk at q1'
          refine VC.drawB [⟨3, 72, fun b => .slice (some ⟨b, 0, none⟩) 1 1, 3, #[_]⟩, ⟨8, 77, fun b => .slice (some ⟨b, 0, none⟩) 1 1, 3, #[_]⟩, ⟨17, 86, fun b => .slice (some ⟨b, 0, none⟩) 1 1, 3, #[_]⟩] [[0, 1, 2, 3, 4, 5, 6], [0, 1, 2, 3, 4, 5, 6], [0, 2, 3, 4, 5, 6], [0, 2, 3, 4, 5, 6], [0, 3, 4, 5, 6], [0, 3, 4, 5, 6], [0, 4, 5, 6], [0, 4, 5, 6], [0, 4, 5, 6], [0, 4, 5, 6]] [some 3, some 3, some 3, none, none, some 3, some 2, some 2, none, none, some 5, some 4, some 4, some 4, some 4, some 4, some 4, none, none, none, none, none] mixed (by kernel_rfl) rfl (LX.l (fun _ hJ => LO.mv (.r rfl)) rfl <| LX.l (fun _ hJ => LO.fa (r := 0) F101_0 (.r rfl) rfl) rfl <| LX.l (fun _ hJ => LO.ld O3 (.r rfl) (fun _ hw => cells_at (hJ _ hw) 0 rfl ⟨_, rfl⟩)) rfl <| LX.s <| LX.s <| LX.l (fun _ hJ => LO.mv (.r rfl)) rfl <| LX.l (fun _ hJ => LO.fa (r := 2) F101_2 (.r rfl) rfl) rfl <| LX.l (fun _ hJ => LO.ld O3 (.r rfl) (fun _ hw => cells_at (hJ _ hw) 0 rfl ⟨_, rfl⟩)) rfl <| LX.s <| LX.s <| LX.l (fun _ hJ => LO.mv (.r rfl)) rfl <| LX.l (fun _ hJ => LO.fa (r := 3) F101_3 (.r rfl) rfl) rfl <| LX.l (fun _ hJ => LO.ld O3 (.r rfl) (fun _ hw => cells_at (hJ _ hw) 0 rfl ⟨_, rfl⟩)) rfl <| LX.l (fun _ hJ => LO.fa (r := 1) F101_1 (.r rfl) rfl) rfl <| LX.l (fun _ hJ => LO.ld O3 (.r rfl) (fun _ hw => cells_at (hJ _ hw) 0 rfl ⟨_, rfl⟩)) rfl <| LX.l (fun _ hJ => LO.sub (.r rfl) (.r rfl) (wi (by omega) (by omega))) rfl <| LX.l (fun _ hJ => LO.call (xs := [_]) (vs := [_]) C50 ⟨(.r rfl), trivial⟩ (fun w _ => rWrap_c _ (by omega) (by omega) w)) rfl <| LX.s <| LX.s <| LX.s <| LX.s <| LX.s <| LX.nil) (⟨⟨rfl, _, rfl, FO.bs (ps := [(_, _)]) (vs := [(_, _)]) (Z := [_]) (C := [_]) S55 Z3 N3 ⟨(.r rfl), trivial⟩ rfl rfl rfl rfl ⟨_, [_], [_], rfl, rfl, rfl, rfl, rfl⟩⟩, ⟨⟨rfl, _, rfl, FO.bs (ps := [(_, _)]) (vs := [(_, _)]) (Z := [_]) (C := [_]) S55 Z3 N3 ⟨(.r rfl), trivial⟩ rfl rfl rfl rfl ⟨_, [_], [_], rfl, rfl, rfl, rfl, rfl⟩⟩, ⟨⟨rfl, _, rfl, FO.bs (ps := [(_, _)]) (vs := [(_, _)]) (Z := [_]) (C := [_]) S55 Z3 N3 ⟨(.r rfl), trivial⟩ rfl rfl rfl rfl ⟨_, [_], [_], rfl, rfl, rfl, rfl, rfl⟩⟩, trivial⟩⟩⟩) (HY.s <| HY.s <| HY.s <| HY.f rfl fun b15 => ⟨selJ (L1 := [_, _, _, _, _, _, _]) [1, 2, 3, 4, 5, 6, 7] rfl rfl rfl, HY.h rfl rfl fun X => HO.appT (((l.getD j zSm).h)) 2 0 (fun R => [_, _, R, _, _, _, _, _] ++ X) S55 S55 I3 (.r rfl) (.r rfl) rfl rfl rfl rfl rfl rfl rfl (fun _ => rfl) rfl (by omega) fun p4 c4 => ⟨[_, _, _, _, _, _, _, _], rfl, selJ (L1 := [_, _, _, _, _, _]) [1, 3, 4, 5, 6, 7] rfl rfl rfl, HY.s <| HY.s <| HY.s <| HY.f rfl fun b16 => ⟨selJ (L1 := [_, _, _, _, _, _]) [2, 4, 5, 6, 7, 8] rfl rfl rfl, HY.h rfl rfl fun X => HO.appT (((l.getD j zSm).v)) 4 0 (fun R => [_, _, _, _, R, _, _, _, _] ++ X) S55 S55 I3 (.r rfl) (.r rfl) rfl rfl rfl rfl rfl rfl rfl (fun _ => rfl) rfl (by omega) fun p9 c9 => ⟨[_, _, _, _, _, _, _, _, _], rfl, selJ (L1 := [_, _, _, _, _]) [2, 5, 6, 7, 8] rfl rfl rfl, HY.s <| HY.s <| HY.s <| HY.s <| HY.s <| HY.s <| HY.s <| HY.f rfl fun b17 => ⟨selJ (L1 := [_, _, _, _, _]) [3, 6, 7, 8, 9] rfl rfl rfl, HY.h rfl rfl fun X => HO.appT ((wr ((l.getD j zSm).q - (l.getD j zSm).p))) 6 0 (fun R => [_, _, _, _, _, _, R, _, _, _] ++ X) S55 S55 I3 (.r rfl) (.r rfl) rfl rfl rfl rfl rfl rfl rfl (fun _ => rfl) rfl (by omega) fun p18 c18 => ⟨[_, _, _, _, _, _, _, _, _, _], rfl, selJ (L1 := [_, _, _, _]) [3, 7, 8, 9] rfl rfl rfl, HY.h rfl rfl fun X => HO.lo (LO.as (.r rfl)) <| ⟨[_, _, _, _, _, _, _, _, _, _], rfl, selJ (L1 := [_, _, _, _]) [3, 7, 8, 9] rfl rfl rfl, HY.h rfl rfl fun X => HO.lo (LO.as (.r rfl)) <| ⟨[_, _, _, _, _, _, _, _, _, _], rfl, selJ (L1 := [_, _, _, _]) [3, 7, 8, 9] rfl rfl rfl, HY.h rfl rfl fun X => HO.lo (LO.as (.r rfl)) <| ⟨[_, _, _, _, _, _, _, _, _, _], rfl, selJ (L1 := [_, _, _, _]) [3, 7, 8, 9] rfl rfl rfl, HY.nil ?_⟩⟩⟩⟩⟩⟩⟩⟩⟩)
          refine VE.inN (VE.seqN ?_)
          refine VC.weak (env' := [(2, _), (3, _), (4, _), (6, _), (9, _), (10, _), (11, _), (12, _)]) (.cons rfl (.cons rfl (.cons rfl (.cons rfl (.cons rfl (.cons rfl (.cons rfl (.cons rfl .nil)))))))) (fun _ h => h) ?_
          refine VC.reg (VO.l (LO.mv (.r rfl)) rfl <| VO.l (LO.add (.r rfl) (.r rfl) (wi (by omega) (by omega))) rfl <| VO.l (LO.as (.r rfl)) rfl <| VO.nil ?_)
          refine VE.thenN fun a w ha hw => ⟨(j + 1, al ++ [(l.getD j zSm).h], p4, c4, vl ++ [(l.getD j zSm).v], p9, c9, tl ++ [wr ((l.getD j zSm).q - (l.getD j zSm).p)], p18, c18), ⟨by dsimp only; omega, by dsimp only; rw [map_step (by omega), hHl], by dsimp only; rw [map_step (by omega), hVl], by dsimp only; rw [turn_step (by omega), hTl], all_step hz q1⟩, (by dsimp only; omega), ha.sub (.cons rfl (.cons rfl (.cons rfl (.cons rfl (.cons rfl (.cons rfl (.cons rfl (.cons rfl .nil)))))))), hw.sel [4, 5, 6, 7, 8, 9] rfl⟩
      ·
        refine VC.exit (VE.thenX (VE.thenX (VE.inX (VE.seqN ?_))))
        refine VC.seq ?_
        have hj2 : j = l.length := by omega
        subst hj2
        rw [List.take_length] at hHl hVl hTl
        subst hHl
        subst hVl
        subst hTl
        have hs := all_smp hz (by omega)
        refine VC.reg (VO.l (LO.lda (vs := [_, _, _, _]) A38 (.r rfl) (fun _ hw => cells_at hw 4 rfl ⟨_, rfl⟩) rfl) rfl <| VO.l (LO.mv (.r rfl)) rfl <| VO.l (LO.call (xs := [_, _]) (vs := [_, _]) C51 ⟨(.r rfl), (.r rfl), trivial⟩ (fun w hw => powerH_c r l _ _ w hr hln.2 (by omega) hs (RO.of_own hw 0 rfl))) rfl <| VO.l (LO.bd (ps := [(_, _), (_, _)]) (vs := [(_, _), (_, _)]) (C := [_, _, _, _, _, _, _, _, _, _, _, _, _, _]) B32  ⟨(.r rfl), (.r rfl), trivial⟩ rfl ⟨_, [_], [_, _, _, _, _, _, _, _, _, _, _, _, _, _], rfl, rfl, rfl, rfl, ⟨_, [_, _], [_, _, _, _, _, _, _, _, _, _, _, _, _, _], rfl, rfl, rfl, rfl, rfl⟩⟩) rfl <| VO.h rfl <| HO.alloc (C := #[_, _, _, _, _, _, _, _, _, _, _, _, _, _]) Z32 rfl fun b18 => VO.h0 <| HO.st 0 (vs := [_, _, _, _, _, _, _, _, _, _, _, _, _, _]) (C' := [_, _, _, _, _, _, _, _, _, _, _, _, _, _]) (L' := [_, _, _, _, _, _, _]) N32 rfl rfl rfl rfl rfl rfl rfl rfl <| VO.nil ?_)
        refine VE.seqN ?_
        refine VC.seq ?_
        refine VC.seq ?_
        refine VC.reg (VO.l (LO.fa (r := 1) F32_1 (.r rfl) rfl) rfl <| VO.l (LO.fa (r := 1) F25_0 (.r rfl) rfl) rfl <| VO.l (LO.ld O3 (.r rfl) (fun _ hw => cells_at hw 0 rfl ⟨_, rfl⟩)) rfl <| VO.l (LO.eq (.r rfl) (.r rfl)) rfl <| VO.nil ?_)
        refine VE.seqN ?_
        refine VC.cond rfl (fun h75 => ?_) (fun h75 => ?_)
        ·
          have hz : (pow0 r l).lo = 0 := by simpa using h75
          refine VC.seq ?_
          refine VC.reg (VO.l (LO.lda (vs := [_, _, _, _, _, _, _, _, _, _, _, _, _, _]) A32 (.r rfl) (fun _ hw => cells_at hw 0 rfl ⟨_, rfl⟩) rfl) rfl <| VO.h0 <| HO.st 4 (vs := [_, _, _, _, _, _, _, _, _, _, _, _, _, _]) (C' := [_, _, _, _, _, _, _, _, _, _, _, _, _, _]) (L' := [_, _, _, _, _, _, _]) N32 rfl rfl rfl rfl rfl rfl rfl rfl <| VO.l (LO.as (.r rfl)) rfl <| VO.nil ?_)
          refine VE.seqN ?_
          refine VC.ret (VE.thenR (VE.res (vs := [_, _]) rfl ⟨RV.agg (vs := [_, _, _, _, _, _, _, _, _, _, _, _, _, _]) A32 rfl (cells_blk 4 rfl ⟨_, rfl⟩) rfl, rfl, trivial⟩ (fun w hw => ?_)))
          refine ⟨?_, hw.nil⟩
          simp only [resV]
          first | exact rh_err h27 | exact hX (hE3 (nz hb0.1) (nzr hr) h34) (by decide) | exact hX (hE4 (nz hb0.1) (nzr hr) h34 (j := j) (by omega) (by unfold smpOk; omega)) (by decide) | exact rh_1 hb0.1 hr h34 hs hz | exact rh_2a hb0.1 hr h34 hs hz hln.1 h161 | exact rh_2b hb0.1 hr h34 hs hz hk h165 | exact rh_3 hb0.1 hr h34 hs hz hln.1 h161 hk h165
        ·
          have hz : ¬ (pow0 r l).lo = 0 := fun q => h75 (by rw [q])
          have hpw := pow_bd (r := r) (l := l) hr (by omega) hs
          refine VC.skip (VE.seqN ?_)
          refine VC.seq ?_
          refine VC.reg (VO.l (LO.lda (vs := [_, _, _, _]) A38 (.r rfl) (fun _ hw => cells_at hw 5 rfl ⟨_, rfl⟩) rfl) rfl <| VO.l (LO.mv (.r rfl)) rfl <| VO.l (LO.call (xs := [_, _]) (vs := [_, _]) C51 ⟨(.r rfl), (.r rfl), trivial⟩ (fun w hw => powerV_c r l _ _ w hr hln.2 (by omega) hs (RO.of_own hw 2 rfl))) rfl <| VO.h rfl <| HO.alloc (C := #[_, _]) Z25 rfl fun b21 => VO.h0 <| HO.st 0 (vs := [_, _]) (C' := [_, _]) (L' := [_, _, _, _, _, _, _, _]) N25 rfl rfl rfl rfl rfl rfl rfl rfl <| VO.nil ?_)
          refine VE.seqN ?_
          refine VC.seq ?_
          refine VC.drawH [[0, 1, 2, 3, 4, 5, 6, 7], [0, 2, 3, 4, 5, 6, 7]] [some 0, some 0, some 0, some 0, some 0, some 0, some 0, some 0, some 0, some 0, some 0, some 0, some 0, some 0, some 0, some 0, some 0, some 0, none] mixed (by kernel_rfl) rfl (LX.l (fun _ hJ => LO.fa (r := 0) F25_0 (.r rfl) rfl) rfl <| LX.l (fun _ hJ => LO.ld O3 (.r rfl) (fun _ hw => cells_at (hJ _ hw) 0 rfl ⟨_, rfl⟩)) rfl <| LX.l (fun _ hJ => LO.mul (.r rfl) (.r rfl) (wi (by omega) (by omega))) rfl <| LX.l (fun _ hJ => LO.fa (r := 1) F32_1 (.r rfl) rfl) rfl <| LX.l (fun _ hJ => LO.fa (r := 2) F25_1 (.r rfl) rfl) rfl <| LX.l (fun _ hJ => LO.ld O3 (.r rfl) (fun _ hw => cells_at (hJ _ hw) 1 rfl ⟨_, rfl⟩)) rfl <| LX.l (fun _ hJ => LO.quo (.r rfl) (.r rfl) (by omega) (quo_nn (by omega) (by omega) (by omega))) rfl <| LX.l (fun _ hJ => LO.min (.r rfl) (.r rfl)) rfl <| LX.l (fun _ hJ => LO.fa (r := 1) F25_1 (.r rfl) rfl) rfl <| LX.l (fun _ hJ => LO.ld O3 (.r rfl) (fun _ hw => cells_at (hJ _ hw) 0 rfl ⟨_, rfl⟩)) rfl <| LX.l (fun _ hJ => LO.mul (.r rfl) (.r rfl) (wi (by omega) (by omega))) rfl <| LX.l (fun _ hJ => LO.fa (r := 1) F32_1 (.r rfl) rfl) rfl <| LX.l (fun _ hJ => LO.fa (r := 1) F25_0 (.r rfl) rfl) rfl <| LX.l (fun _ hJ => LO.ld O3 (.r rfl) (fun _ hw => cells_at (hJ _ hw) 1 rfl ⟨_, rfl⟩)) rfl <| LX.l (fun _ hJ => LO.call (xs := [_, _]) (vs := [_, _]) C52 ⟨(.r rfl), (.r rfl), trivial⟩ (fun w _ => rUp_c _ _ (by omega) (by omega) (by omega) w)) rfl <| LX.l (fun _ hJ => LO.min (.r rfl) (.r rfl)) rfl <| LX.l (fun _ hJ => LO.bd (ps := [(_, _), (_, _)]) (vs := [(_, _), (_, _)]) (C := [_, _]) B25  ⟨(.r rfl), (.r rfl), trivial⟩ rfl ⟨_, [_], [_, _], rfl, rfl, rfl, rfl, ⟨_, [_], [_, _], rfl, rfl, rfl, rfl, rfl⟩⟩) rfl <| LX.l (fun _ hJ => LO.fa (r := 8) F32_4 (.r rfl) rfl) rfl <| LX.s <| LX.nil) (HX.s <| HX.s <| HX.s <| HX.s <| HX.s <| HX.s <| HX.s <| HX.s <| HX.s <| HX.s <| HX.s <| HX.s <| HX.s <| HX.s <| HX.s <| HX.s <| HX.s <| HX.s <| HX.h0 <| HO.st 1 (vs := [_, _]) (C' := [_, _, _, _, _, _, _, _, _, _, _, _, _, _]) (L' := [_, _, _, _, _, _, _, _]) N25 rfl rfl rfl rfl rfl rfl rfl rfl <| ⟨fun _ hw => hw.sel [0, 2, 3, 4, 5, 6, 7] rfl, HX.nil ?_⟩)
          refine VE.seqN ?_
          refine VC.seq ?_
          refine VC.reg (VO.l (LO.lda (vs := [_, _, _, _]) A38 (.r rfl) (fun _ hw => cells_at hw 6 rfl ⟨_, rfl⟩) rfl) rfl <| VO.l (LO.mv (.r rfl)) rfl <| VO.l (LO.mv (.r rfl)) rfl <| VO.l (LO.call (xs := [_, _, _]) (vs := [_, _, _]) C53 ⟨(.r rfl), (.r rfl), (.r rfl), trivial⟩ (fun w hw => matchM_c r l _ _ _ _ w hr hln.2 hs (RO.of_own hw 2 rfl) (RO.of_own hw 3 rfl))) rfl <| VO.l (LO.fa (r := 10) F32_5 (.r rfl) rfl) rfl <| VO.h0 <| HO.st 1 (vs := [_, _]) (C' := [_, _, _, _, _, _, _, _, _, _, _, _, _, _]) (L' := [_, _, _, _, _, _, _, _]) N25 rfl rfl rfl rfl rfl rfl rfl rfl <| VO.nil ?_)
          refine VE.seqN ?_
          refine VC.seq ?_
          refine VC.reg (VO.l (LO.lda (vs := [_, _, _, _, _]) A37 (.r rfl) (fun _ hw => cells_at hw 7 rfl ⟨_, rfl⟩) rfl) rfl <| VO.l (LO.mv (.r rfl)) rfl <| VO.h rfl <| HO.callx (xs := [_, _]) (vs := [_, _]) C54 ⟨(.r rfl), (.r rfl), trivial⟩ (fun w hw => rSteps_c t l p c w hln.2 hln.1 htk hs (hl.keep w hw)) fun q _ => VO.h rfl <| HO.alloc (C := #[_, _]) Z105 rfl fun b28 => VO.h0 <| HO.st 0 (vs := [_, _]) (C' := [_, _]) (L' := [_, _, _, _, _, _, _, _, _, _, _]) N105 rfl rfl rfl rfl rfl rfl rfl rfl <| VO.nil ?_)
          refine VE.seqN ?_
          refine VC.seq ?_
          have hl0 := stL_len t.kind l 0
          have hl1 := stL_len t.kind l 1
          have hs0T := stL_inT t.kind l 0
          have hs1T := stL_inT t.kind l 1
          have w0 := wid_bd hs0T
          have w1 := wid_bd hs1T
          have tT := turnL_inT l
          have tlen : (turnL l).length = l.length := List.length_map ..
          have z0 := prod_bd (x := 2 * ((turnL l).length : Int)) (y := r.phase) (A := 128) (B := 4096) (by omega) (by omega) (by omega) (by omega)
          have z1 := prod_bd (x := 2 * ((stL t.kind l 0).length : Int)) (y := r.phase) (A := 128) (B := 4096) (by omega) (by omega) (by omega) (by omega)
          have z2 := prod_bd (x := 2 * ((stL t.kind l 1).length : Int)) (y := r.phase) (A := 128) (B := 4096) (by omega) (by omega) (by omega) (by omega)
          refine VC.reg (VO.l (LO.fa (r := 0) F32_0 (.r rfl) rfl) rfl <| VO.h0 <| HO.st 4 (vs := [_]) (C' := [_, _, _, _, _, _, _, _, _, _, _, _, _, _]) (L' := [_, _, _, _, _, _, _, _, _, _, _]) N3 rfl rfl rfl rfl rfl rfl rfl rfl <| VO.nil ?_)
          refine VE.seqN ?_
          refine VC.seq ?_
          refine VC.seq ?_
          refine VC.reg (VO.l (LO.as (.r rfl)) rfl <| VO.nil ?_)
          refine VE.seqN ?_
          refine VC.block ?_
          refine VC.perm [4, 0, 1, 2, 3, 5, 6, 7, 8, 9, 10] rfl ?_
          refine VC.loopK (α := Nat × Int × Int) 1 (fun gx => [(17, .int .i64 (gx.1 : Nat))]) [(3, _), (4, _), (6, _), (11, _), (14, _), (16, _)] (fun gx => [blk b18 (.cells #[.int .i64 gx.2.1, .int .i64 (pow0 r l).lo, .int .i64 (pow0 r l).hi, .int .i64 0, .int .i64 0, .int .i64 0, .int .i64 0, .int .i64 gx.2.2, .int .i64 (ratioS (pow0 r l) (pow1 r l)).lo, .int .i64 (ratioS (pow0 r l) (pow1 r l)).hi, .int .i64 (mtchS r l).lo, .int .i64 (mtchS r l).hi, .int .i64 0, .int .i64 0] 32)]) (fun gx => (gx.1 = 0 ∧ kP gx.2.1 true ∧ gx.2.2 = 0) ∨ (gx.1 = 1 ∧ kP gx.2.1 (togV (stL t.kind l 0) r.phase) ∧ gx.2.2 = (max 0 (wid (stL t.kind l 0)))) ∨ (gx.1 = 2 ∧ kP gx.2.1 ((togV (stL t.kind l 0) r.phase) && (togV (stL t.kind l 1) r.phase)) ∧ gx.2.2 = (max (max 0 (wid (stL t.kind l 0))) (wid (stL t.kind l 1))))) (fun gx => 2 - gx.1) (0, 3, 0) (by exact .inl ⟨rfl, .inl ⟨rfl, rfl⟩, rfl⟩) (.cons rfl (.cons rfl (.cons rfl (.cons rfl (.cons rfl (.cons rfl (.cons rfl .nil))))))) (fun _ h => h) ?_
          rintro ⟨i, kd, spr⟩ hI
          show VC _ _ _ _ _ ([(17, .int .i64 (i : Nat))] ++ _) ([blk b18 (.cells #[.int .i64 kd, .int .i64 (pow0 r l).lo, .int .i64 (pow0 r l).hi, .int .i64 0, .int .i64 0, .int .i64 0, .int .i64 0, .int .i64 spr, .int .i64 (ratioS (pow0 r l) (pow1 r l)).lo, .int .i64 (ratioS (pow0 r l) (pow1 r l)).hi, .int .i64 (mtchS r l).lo, .int .i64 (mtchS r l).hi, .int .i64 0, .int .i64 0] 32)] ++ _) _ _
          dsimp only at hI
          refine VC.seq ?_
          refine VC.seq ?_
          refine VC.reg (VO.l (LO.mv (.r rfl)) rfl <| VO.l (LO.lt (.r rfl) (.r rfl)) rfl <| VO.nil ?_)
          refine VE.seqN ?_
          refine VC.cond rfl (fun h6 => ?_) (fun h6 => ?_)
          ·
            refine VC.skip (VE.seqN ?_)
            refine VC.seq ?_
            refine VC.block ?_
            refine VC.seq ?_
            refine VC.seq ?_
            rcases hI with ⟨rfl, hk, rfl⟩ | ⟨rfl, hk, rfl⟩ | ⟨q, _⟩
            ·
              refine VC.reg (VO.l (LO.mv (.r rfl)) rfl <| VO.l (LO.ixa (j := 0) (r := 0) Try.underlying105 N55 (.r rfl) (.r rfl) rfl (by decide) rfl) rfl <| VO.l (LO.ld O55 (.r rfl) (fun _ hw => cells_at hw 1 rfl ⟨_, rfl⟩)) rfl <| VO.l (LO.len S55 (.r rfl) rfl) rfl <| VO.l (LO.eq (.r rfl) (.r rfl)) rfl <| VO.nil ?_)
              refine VE.seqN ?_
              refine VC.cond rfl (fun h135 => ?_) (fun h135 => ?_)
              ·
                refine VC.exit (VE.thenX (VE.inX (VE.seqN ?_)))
                refine VC.reg (VO.l (LO.mv (.r rfl)) rfl <| VO.l (LO.add (.r rfl) (.r rfl) (wi (by omega) (by omega))) rfl <| VO.l (LO.as (.r rfl)) rfl <| VO.nil ?_)
                refine VE.thenN fun a w ha hw => ⟨((0 + 1), _, _), (by dsimp only; exact .inr (.inl ⟨rfl, kkA hk h135⟩)), (by dsimp only; omega), ha.sub (.cons rfl (.cons rfl (.cons rfl (.cons rfl (.cons rfl (.cons rfl (.cons rfl .nil))))))), hw⟩
              ·
                refine VC.skip (VE.seqN ?_)
                refine VC.seq ?_
                refine VC.reg (VO.l (LO.mv (.r rfl)) rfl <| VO.l (LO.ixa (j := 0) (r := 0) Try.underlying105 N55 (.r rfl) (.r rfl) rfl (by decide) rfl) rfl <| VO.l (LO.ld O55 (.r rfl) (fun _ hw => cells_at hw 1 rfl ⟨_, rfl⟩)) rfl <| VO.l (LO.call (xs := [_]) (vs := [_]) C24 ⟨(.r rfl), trivial⟩ (fun w hw => rArc_c (stL t.kind l 0) _ _ w (by omega) (RO.of_own hw 2 rfl))) rfl <| VO.l (LO.mv (.r rfl)) rfl <| VO.l (LO.ex (.r rfl) rfl) rfl <| VO.l (LO.ex (.r rfl) rfl) rfl <| VO.l (LO.ex (.r rfl) rfl) rfl <| VO.l (LO.as (.r rfl)) rfl <| VO.l (LO.as (.r rfl)) rfl <| VO.l (LO.as (.r rfl)) rfl <| VO.nil ?_)
                refine VE.seqN ?_
                refine VC.seq ?_
                refine VC.reg (VO.l (LO.fa (r := 7) F32_3 (.r rfl) rfl) rfl <| VO.l (LO.ld O3 (.r rfl) (fun _ hw => cells_at hw 0 rfl ⟨_, rfl⟩)) rfl <| VO.l (LO.mv (.r rfl)) rfl <| VO.l (LO.max (.r rfl) (.r rfl)) rfl <| VO.l (LO.fa (r := 7) F32_3 (.r rfl) rfl) rfl <| VO.h0 <| HO.st 0 (vs := [_]) (C' := [_, _, _, _, _, _, _, _, _, _, _, _, _, _]) (L' := [_, _, _, _, _, _, _, _, _, _, _]) N3 rfl rfl rfl rfl rfl rfl rfl rfl <| VO.nil ?_)
                refine VE.seqN ?_
                refine VC.seq ?_
                refine VC.draw mixed (LL.l (LO.mv (.r rfl)) rfl <| LL.l (LO.ixa (j := 0) (r := 0) Try.underlying105 N55 (.r rfl) (.r rfl) rfl (by decide) rfl) rfl <| LL.l (LO.ld O55 (.r rfl) (fun _ hw => cells_at hw 1 rfl ⟨_, rfl⟩)) rfl <| LL.l (LO.fa (r := 1) F38_1 (.r rfl) rfl) rfl <| LL.l (LO.ld O3 (.r rfl) (fun _ hw => cells_at hw 9 rfl ⟨_, rfl⟩)) rfl <| LL.l (LO.call (xs := [_, _]) (vs := [_, _]) C55 ⟨(.r rfl), (.r rfl), trivial⟩ (fun w hw => rTog_c (stL t.kind l 0) _ _ _ w (by omega) (RO.of_own hw 2 rfl) (by omega) (by omega))) rfl <| LL.l (LO.not (.r rfl)) rfl <| LL.nil) (by kernel_rfl) ?_
                refine VE.seqN ?_
                refine VC.cond rfl (fun h155 => ?_) (fun h155 => ?_)
                ·
                  refine VC.reg (VO.l (LO.fa (r := 0) F32_0 (.r rfl) rfl) rfl <| VO.h0 <| HO.st 0 (vs := [_]) (C' := [_, _, _, _, _, _, _, _, _, _, _, _, _, _]) (L' := [_, _, _, _, _, _, _, _, _, _, _]) N3 rfl rfl rfl rfl rfl rfl rfl rfl <| VO.nil ?_)
                  refine VE.inN (VE.seqN ?_)
                  refine VC.reg (VO.l (LO.mv (.r rfl)) rfl <| VO.l (LO.add (.r rfl) (.r rfl) (wi (by omega) (by omega))) rfl <| VO.l (LO.as (.r rfl)) rfl <| VO.nil ?_)
                  refine VE.thenN fun a w ha hw => ⟨((0 + 1), _, _), (by dsimp only; exact .inr (.inl ⟨rfl, kkC h135 hs0T h155⟩)), (by dsimp only; omega), ha.sub (.cons rfl (.cons rfl (.cons rfl (.cons rfl (.cons rfl (.cons rfl (.cons rfl .nil))))))), hw⟩
                ·
                  refine VC.skip (VE.inN (VE.seqN ?_))
                  refine VC.reg (VO.l (LO.mv (.r rfl)) rfl <| VO.l (LO.add (.r rfl) (.r rfl) (wi (by omega) (by omega))) rfl <| VO.l (LO.as (.r rfl)) rfl <| VO.nil ?_)
                  refine VE.thenN fun a w ha hw => ⟨((0 + 1), _, _), (by dsimp only; exact .inr (.inl ⟨rfl, kkB hk h135 hs0T h155⟩)), (by dsimp only; omega), ha.sub (.cons rfl (.cons rfl (.cons rfl (.cons rfl (.cons rfl (.cons rfl (.cons rfl .nil))))))), hw⟩
            ·
              refine VC.reg (VO.l (LO.mv (.r rfl)) rfl <| VO.l (LO.ixa (j := 1) (r := 1) Try.underlying105 N55 (.r rfl) (.r rfl) rfl (by decide) rfl) rfl <| VO.l (LO.ld O55 (.r rfl) (fun _ hw => cells_at hw 1 rfl ⟨_, rfl⟩)) rfl <| VO.l (LO.len S55 (.r rfl) rfl) rfl <| VO.l (LO.eq (.r rfl) (.r rfl)) rfl <| VO.nil ?_)
              refine VE.seqN ?_
              refine VC.cond rfl (fun h135 => ?_) (fun h135 => ?_)
              ·
                refine VC.exit (VE.thenX (VE.inX (VE.seqN ?_)))
                refine VC.reg (VO.l (LO.mv (.r rfl)) rfl <| VO.l (LO.add (.r rfl) (.r rfl) (wi (by omega) (by omega))) rfl <| VO.l (LO.as (.r rfl)) rfl <| VO.nil ?_)
                refine VE.thenN fun a w ha hw => ⟨((1 + 1), _, _), (by dsimp only; exact .inr (.inr ⟨rfl, kkA2 hk h135⟩)), (by dsimp only; omega), ha.sub (.cons rfl (.cons rfl (.cons rfl (.cons rfl (.cons rfl (.cons rfl (.cons rfl .nil))))))), hw⟩
              ·
                refine VC.skip (VE.seqN ?_)
                refine VC.seq ?_
                refine VC.reg (VO.l (LO.mv (.r rfl)) rfl <| VO.l (LO.ixa (j := 1) (r := 1) Try.underlying105 N55 (.r rfl) (.r rfl) rfl (by decide) rfl) rfl <| VO.l (LO.ld O55 (.r rfl) (fun _ hw => cells_at hw 1 rfl ⟨_, rfl⟩)) rfl <| VO.l (LO.call (xs := [_]) (vs := [_]) C24 ⟨(.r rfl), trivial⟩ (fun w hw => rArc_c (stL t.kind l 1) _ _ w (by omega) (RO.of_own hw 3 rfl))) rfl <| VO.l (LO.mv (.r rfl)) rfl <| VO.l (LO.ex (.r rfl) rfl) rfl <| VO.l (LO.ex (.r rfl) rfl) rfl <| VO.l (LO.ex (.r rfl) rfl) rfl <| VO.l (LO.as (.r rfl)) rfl <| VO.l (LO.as (.r rfl)) rfl <| VO.l (LO.as (.r rfl)) rfl <| VO.nil ?_)
                refine VE.seqN ?_
                refine VC.seq ?_
                refine VC.reg (VO.l (LO.fa (r := 7) F32_3 (.r rfl) rfl) rfl <| VO.l (LO.ld O3 (.r rfl) (fun _ hw => cells_at hw 0 rfl ⟨_, rfl⟩)) rfl <| VO.l (LO.mv (.r rfl)) rfl <| VO.l (LO.max (.r rfl) (.r rfl)) rfl <| VO.l (LO.fa (r := 7) F32_3 (.r rfl) rfl) rfl <| VO.h0 <| HO.st 0 (vs := [_]) (C' := [_, _, _, _, _, _, _, _, _, _, _, _, _, _]) (L' := [_, _, _, _, _, _, _, _, _, _, _]) N3 rfl rfl rfl rfl rfl rfl rfl rfl <| VO.nil ?_)
                refine VE.seqN ?_
                refine VC.seq ?_
                refine VC.draw mixed (LL.l (LO.mv (.r rfl)) rfl <| LL.l (LO.ixa (j := 1) (r := 1) Try.underlying105 N55 (.r rfl) (.r rfl) rfl (by decide) rfl) rfl <| LL.l (LO.ld O55 (.r rfl) (fun _ hw => cells_at hw 1 rfl ⟨_, rfl⟩)) rfl <| LL.l (LO.fa (r := 1) F38_1 (.r rfl) rfl) rfl <| LL.l (LO.ld O3 (.r rfl) (fun _ hw => cells_at hw 9 rfl ⟨_, rfl⟩)) rfl <| LL.l (LO.call (xs := [_, _]) (vs := [_, _]) C55 ⟨(.r rfl), (.r rfl), trivial⟩ (fun w hw => rTog_c (stL t.kind l 1) _ _ _ w (by omega) (RO.of_own hw 3 rfl) (by omega) (by omega))) rfl <| LL.l (LO.not (.r rfl)) rfl <| LL.nil) (by kernel_rfl) ?_
                refine VE.seqN ?_
                refine VC.cond rfl (fun h155 => ?_) (fun h155 => ?_)
                ·
                  refine VC.reg (VO.l (LO.fa (r := 0) F32_0 (.r rfl) rfl) rfl <| VO.h0 <| HO.st 0 (vs := [_]) (C' := [_, _, _, _, _, _, _, _, _, _, _, _, _, _]) (L' := [_, _, _, _, _, _, _, _, _, _, _]) N3 rfl rfl rfl rfl rfl rfl rfl rfl <| VO.nil ?_)
                  refine VE.inN (VE.seqN ?_)
                  refine VC.reg (VO.l (LO.mv (.r rfl)) rfl <| VO.l (LO.add (.r rfl) (.r rfl) (wi (by omega) (by omega))) rfl <| VO.l (LO.as (.r rfl)) rfl <| VO.nil ?_)
                  refine VE.thenN fun a w ha hw => ⟨((1 + 1), _, _), (by dsimp only; exact .inr (.inr ⟨rfl, kkC2 h135 hs1T h155⟩)), (by dsimp only; omega), ha.sub (.cons rfl (.cons rfl (.cons rfl (.cons rfl (.cons rfl (.cons rfl (.cons rfl .nil))))))), hw⟩
                ·
                  refine VC.skip (VE.inN (VE.seqN ?_))
                  refine VC.reg (VO.l (LO.mv (.r rfl)) rfl <| VO.l (LO.add (.r rfl) (.r rfl) (wi (by omega) (by omega))) rfl <| VO.l (LO.as (.r rfl)) rfl <| VO.nil ?_)
                  refine VE.thenN fun a w ha hw => ⟨((1 + 1), _, _), (by dsimp only; exact .inr (.inr ⟨rfl, kkB2 hk h135 hs1T h155⟩)), (by dsimp only; omega), ha.sub (.cons rfl (.cons rfl (.cons rfl (.cons rfl (.cons rfl (.cons rfl (.cons rfl .nil))))))), hw⟩
            ·
              (exfalso; omega)
          ·
            refine VC.exit (VE.thenX (VE.thenX (VE.inX (VE.seqN ?_))))
            refine VC.seq ?_
            refine VC.seq ?_
            rcases hI with ⟨q, _⟩ | ⟨q, _⟩ | ⟨rfl, hk, rfl⟩
            · omega
            · omega
            refine VC.reg (VO.l (LO.mv (.r rfl)) rfl <| VO.l (LO.fa (r := 1) F38_1 (.r rfl) rfl) rfl <| VO.l (LO.ld O3 (.r rfl) (fun _ hw => cells_at hw 9 rfl ⟨_, rfl⟩)) rfl <| VO.l (LO.call (xs := [_, _]) (vs := [_, _]) C55 ⟨(.r rfl), (.r rfl), trivial⟩ (fun w hw => rTog_c (turnL l) _ _ _ w (by omega) (RO.of_own hw 7 rfl) (by omega) (by omega))) rfl <| VO.l (LO.not (.r rfl)) rfl <| VO.nil ?_)
            refine VE.seqN ?_
            refine VC.cond rfl (fun h161 => ?_) (fun h161 => ?_)
            ·
              refine VC.reg (VO.l (LO.fa (r := 0) F32_0 (.r rfl) rfl) rfl <| VO.h0 <| HO.st 0 (vs := [_]) (C' := [_, _, _, _, _, _, _, _, _, _, _, _, _, _]) (L' := [_, _, _, _, _, _, _, _, _, _, _]) N3 rfl rfl rfl rfl rfl rfl rfl rfl <| VO.nil ?_)
              refine VE.seqN ?_
              refine VC.seq ?_
              refine VC.seq ?_
              refine VC.reg (VO.l (LO.fa (r := 0) F32_0 (.r rfl) rfl) rfl <| VO.l (LO.ld O3 (.r rfl) (fun _ hw => cells_at hw 0 rfl ⟨_, rfl⟩)) rfl <| VO.l (LO.eq (.r rfl) (.r rfl)) rfl <| VO.nil ?_)
              refine VE.seqN ?_
              refine VC.cond rfl (fun h165 => ?_) (fun h165 => ?_)
              ·
                refine VC.seq ?_
                refine VC.reg (VO.l (LO.lda (vs := [_, _, _, _, _, _, _, _, _, _, _, _, _, _]) A32 (.r rfl) (fun _ hw => cells_at hw 0 rfl ⟨_, rfl⟩) rfl) rfl <| VO.h0 <| HO.st 8 (vs := [_, _, _, _, _, _, _, _, _, _, _, _, _, _]) (C' := [_, _, _, _, _, _, _, _, _, _, _, _, _, _]) (L' := [_, _, _, _, _, _, _, _, _, _, _]) N32 rfl rfl rfl rfl rfl rfl rfl rfl <| VO.l (LO.as (.r rfl)) rfl <| VO.nil ?_)
                refine VE.seqN ?_
                refine VC.ret (VE.thenR (VE.res (vs := [_, _]) rfl ⟨RV.agg (vs := [_, _, _, _, _, _, _, _, _, _, _, _, _, _]) A32 rfl (cells_blk 8 rfl ⟨_, rfl⟩) rfl, rfl, trivial⟩ (fun w hw => ?_)))
                refine ⟨?_, hw.nil⟩
                simp only [resV]
                first | exact rh_err h27 | exact hX (hE3 (nz hb0.1) (nzr hr) h34) (by decide) | exact hX (hE4 (nz hb0.1) (nzr hr) h34 (j := j) (by omega) (by unfold smpOk; omega)) (by decide) | exact rh_1 hb0.1 hr h34 hs hz | exact rh_2a hb0.1 hr h34 hs hz hln.1 h161 | exact rh_2b hb0.1 hr h34 hs hz hk h165 | exact rh_3 hb0.1 hr h34 hs hz hln.1 h161 hk h165
              ·
                (exfalso; omega)
            ·
              refine VC.skip (VE.seqN ?_)
              refine VC.seq ?_
              refine VC.seq ?_
              refine VC.reg (VO.l (LO.fa (r := 0) F32_0 (.r rfl) rfl) rfl <| VO.l (LO.ld O3 (.r rfl) (fun _ hw => cells_at hw 0 rfl ⟨_, rfl⟩)) rfl <| VO.l (LO.eq (.r rfl) (.r rfl)) rfl <| VO.nil ?_)
              refine VE.seqN ?_
              refine VC.cond rfl (fun h165 => ?_) (fun h165 => ?_)
              ·
                refine VC.seq ?_
                refine VC.reg (VO.l (LO.lda (vs := [_, _, _, _, _, _, _, _, _, _, _, _, _, _]) A32 (.r rfl) (fun _ hw => cells_at hw 0 rfl ⟨_, rfl⟩) rfl) rfl <| VO.h0 <| HO.st 8 (vs := [_, _, _, _, _, _, _, _, _, _, _, _, _, _]) (C' := [_, _, _, _, _, _, _, _, _, _, _, _, _, _]) (L' := [_, _, _, _, _, _, _, _, _, _, _]) N32 rfl rfl rfl rfl rfl rfl rfl rfl <| VO.l (LO.as (.r rfl)) rfl <| VO.nil ?_)
                refine VE.seqN ?_
                refine VC.ret (VE.thenR (VE.res (vs := [_, _]) rfl ⟨RV.agg (vs := [_, _, _, _, _, _, _, _, _, _, _, _, _, _]) A32 rfl (cells_blk 8 rfl ⟨_, rfl⟩) rfl, rfl, trivial⟩ (fun w hw => ?_)))
                refine ⟨?_, hw.nil⟩
                simp only [resV]
                first | exact rh_err h27 | exact hX (hE3 (nz hb0.1) (nzr hr) h34) (by decide) | exact hX (hE4 (nz hb0.1) (nzr hr) h34 (j := j) (by omega) (by unfold smpOk; omega)) (by decide) | exact rh_1 hb0.1 hr h34 hs hz | exact rh_2a hb0.1 hr h34 hs hz hln.1 h161 | exact rh_2b hb0.1 hr h34 hs hz hk h165 | exact rh_3 hb0.1 hr h34 hs hz hln.1 h161 hk h165
              ·
                refine VC.skip (VE.seqN ?_)
                refine VC.seq ?_
                refine VC.seq ?_
                refine VC.reg (VO.l (LO.as (.r rfl)) rfl <| VO.nil ?_)
                refine VE.seqN ?_
                refine VC.block ?_
                refine VC.loopK (α := Nat × Int × Int × Int × Int) 1 (fun gx => [(21, .int .i64 (gx.1 : Nat))]) [(3, _), (4, _), (6, _), (11, _), (14, _), (16, _)] (fun gx => [blk b18 (.cells #[.int .i64 kd, .int .i64 (pow0 r l).lo, .int .i64 (pow0 r l).hi, .int .i64 gx.2.1, .int .i64 gx.2.2.1, .int .i64 gx.2.2.2.1, .int .i64 gx.2.2.2.2, .int .i64 (max (max 0 (wid (stL t.kind l 0))) (wid (stL t.kind l 1))), .int .i64 (ratioS (pow0 r l) (pow1 r l)).lo, .int .i64 (ratioS (pow0 r l) (pow1 r l)).hi, .int .i64 (mtchS r l).lo, .int .i64 (mtchS r l).hi, .int .i64 0, .int .i64 0] 32)]) (fun gx => (gx.1 = 0 ∧ gx.2.1 = 0 ∧ gx.2.2.1 = 0 ∧ gx.2.2.2.1 = 0 ∧ gx.2.2.2.2 = 0) ∨ (gx.1 = 1 ∧ gx.2.1 = (meanS (stL t.kind l 0) (slk t r (stL t.kind l 0))).lo ∧ gx.2.2.1 = (meanS (stL t.kind l 0) (slk t r (stL t.kind l 0))).hi ∧ gx.2.2.2.1 = 0 ∧ gx.2.2.2.2 = 0) ∨ (gx.1 = 2 ∧ gx.2.1 = (meanS (stL t.kind l 0) (slk t r (stL t.kind l 0))).lo ∧ gx.2.2.1 = (meanS (stL t.kind l 0) (slk t r (stL t.kind l 0))).hi ∧ gx.2.2.2.1 = (meanS (stL t.kind l 1) (slk t r (stL t.kind l 1))).lo ∧ gx.2.2.2.2 = (meanS (stL t.kind l 1) (slk t r (stL t.kind l 1))).hi)) (fun gx => 2 - gx.1) (0, 0, 0, 0, 0) (by exact .inl ⟨rfl, rfl, rfl, rfl, rfl⟩) (.cons rfl (.cons rfl (.cons rfl (.cons rfl (.cons rfl (.cons rfl (.cons rfl .nil))))))) (fun _ h => h) ?_
                rintro ⟨i, y0, y1, y2, y3⟩ hI
                show VC _ _ _ _ _ ([(21, .int .i64 (i : Nat))] ++ _) ([blk b18 (.cells #[.int .i64 kd, .int .i64 (pow0 r l).lo, .int .i64 (pow0 r l).hi, .int .i64 y0, .int .i64 y1, .int .i64 y2, .int .i64 y3, .int .i64 (max (max 0 (wid (stL t.kind l 0))) (wid (stL t.kind l 1))), .int .i64 (ratioS (pow0 r l) (pow1 r l)).lo, .int .i64 (ratioS (pow0 r l) (pow1 r l)).hi, .int .i64 (mtchS r l).lo, .int .i64 (mtchS r l).hi, .int .i64 0, .int .i64 0] 32)] ++ _) _ _
                dsimp only at hI
                refine VC.seq ?_
                refine VC.seq ?_
                refine VC.reg (VO.l (LO.mv (.r rfl)) rfl <| VO.l (LO.lt (.r rfl) (.r rfl)) rfl <| VO.nil ?_)
                refine VE.seqN ?_
                refine VC.cond rfl (fun h14 => ?_) (fun h14 => ?_)
                ·
                  refine VC.skip (VE.seqN ?_)
                  refine VC.seq ?_
                  refine VC.block ?_
                  refine VC.seq ?_
                  refine VC.seq ?_
                  rcases hI with ⟨rfl, rfl, rfl, rfl, rfl⟩ | ⟨rfl, rfl, rfl, rfl, rfl⟩ | ⟨q, _⟩
                  ·
                    refine VC.reg (VO.l (LO.mv (.r rfl)) rfl <| VO.l (LO.ixa (j := 0) (r := 0) Try.underlying105 N55 (.r rfl) (.r rfl) rfl (by decide) rfl) rfl <| VO.l (LO.ld O55 (.r rfl) (fun _ hw => cells_at hw 1 rfl ⟨_, rfl⟩)) rfl <| VO.l (LO.len S55 (.r rfl) rfl) rfl <| VO.l (LO.eq (.r rfl) (.r rfl)) rfl <| VO.nil ?_)
                    refine VE.seqN ?_
                    refine VC.cond rfl (fun h175 => ?_) (fun h175 => ?_)
                    ·
                      refine VC.exit (VE.thenX (VE.inX (VE.seqN ?_)))
                      refine VC.reg (VO.l (LO.mv (.r rfl)) rfl <| VO.l (LO.add (.r rfl) (.r rfl) (wi (by omega) (by omega))) rfl <| VO.l (LO.as (.r rfl)) rfl <| VO.nil ?_)
                      refine VE.thenN fun a w ha hw => ⟨((0 + 1), _, _, _, _), (by dsimp only; exact .inr (.inl ⟨rfl, mn0 h175 ⟨rfl, rfl⟩⟩)), (by dsimp only; omega), ha.sub (.cons rfl (.cons rfl (.cons rfl (.cons rfl (.cons rfl (.cons rfl (.cons rfl .nil))))))), hw⟩
                    ·
                      refine VC.skip (VE.seqN ?_)
                      refine VC.seq ?_
                      refine VC.reg (VO.l (LO.as (.r rfl)) rfl <| VO.nil ?_)
                      refine VE.seqN ?_
                      refine VC.seq ?_
                      refine VC.seq ?_
                      refine VC.reg (VO.l (LO.fa (r := 1) F37_1 (.r rfl) rfl) rfl <| VO.l (LO.ld O3 (.r rfl) (fun _ hw => cells_at hw 10 rfl ⟨_, rfl⟩)) rfl <| VO.l (LO.eq (.r rfl) (.r rfl)) rfl <| VO.nil ?_)
                      refine VE.seqN ?_
                      refine VC.cond rfl (fun h178 => ?_) (fun h178 => ?_)
                      ·
                        refine VC.reg (VO.l (LO.mv (.r rfl)) rfl <| VO.l (LO.ixa (j := 0) (r := 0) Try.underlying105 N55 (.r rfl) (.r rfl) rfl (by decide) rfl) rfl <| VO.l (LO.ld O55 (.r rfl) (fun _ hw => cells_at hw 1 rfl ⟨_, rfl⟩)) rfl <| VO.l (LO.len S55 (.r rfl) rfl) rfl <| VO.l (LO.as (.r rfl)) rfl <| VO.nil ?_)
                        refine VE.seqN ?_
                        refine VC.drawH [[0, 1, 2, 3, 4, 5, 6, 7, 8, 9, 10], [1, 2, 3, 4, 5, 6, 7, 8, 9, 10]] [some 0, some 0, some 0, some 0, some 0, some 0, some 0, some 0, some 0, some 0, some 0, some 0, none] mixed (by kernel_rfl) rfl (LX.l (fun _ hJ => LO.mv (.r rfl)) rfl <| LX.l (fun _ hJ => LO.mv (.r rfl)) rfl <| LX.l (fun _ hJ => LO.ixa (j := 0) (r := 0) Try.underlying105 N55 (.r rfl) (.r rfl) rfl (by decide) rfl) rfl <| LX.l (fun _ hJ => LO.ld O55 (.r rfl) (fun _ hw => cells_at (hJ _ hw) 1 rfl ⟨_, rfl⟩)) rfl <| LX.l (fun _ hJ => LO.mv (.r rfl)) rfl <| LX.l (fun _ hJ => LO.mul (.r rfl) (.r rfl) (wi (by omega) (by omega))) rfl <| LX.l (fun _ hJ => LO.fa (r := 1) F38_1 (.r rfl) rfl) rfl <| LX.l (fun _ hJ => LO.ld O3 (.r rfl) (fun _ hw => cells_at (hJ _ hw) 9 rfl ⟨_, rfl⟩)) rfl <| LX.l (fun _ hJ => LO.mul (.r rfl) (.r rfl) (wi (by omega) (by omega))) rfl <| LX.l (fun _ hJ => LO.call (xs := [_, _]) (vs := [_, _]) C56 ⟨(.r rfl), (.r rfl), trivial⟩ (fun w hw => rMean_c (stL t.kind l 0) _ _ _ w (by omega) (by omega) (RO.of_own (hJ _ hw) 2 rfl) hs0T (by omega) (by omega))) rfl <| LX.l (fun _ hJ => LO.fa (r := 3) F32_2 (.r rfl) rfl) rfl <| LX.l (fun _ hJ => LO.ixa (j := 0) (r := 3) Try.underlying30 N25 (.r rfl) (.r rfl) rfl (by decide) rfl) rfl <| LX.s <| LX.nil) (HX.s <| HX.s <| HX.s <| HX.s <| HX.s <| HX.s <| HX.s <| HX.s <| HX.s <| HX.s <| HX.s <| HX.s <| HX.h0 <| HO.st 0 (vs := [_, _]) (C' := [_, _, _, _, _, _, _, _, _, _, _, _, _, _]) (L' := [_, _, _, _, _, _, _, _, _, _, _]) N25 rfl rfl rfl rfl rfl rfl rfl rfl <| ⟨selJ (L1 := [_, _, _, _, _, _, _, _, _, _]) [1, 2, 3, 4, 5, 6, 7, 8, 9, 10] rfl rfl rfl, HX.nil ?_⟩)
                        refine VE.inN (VE.seqN ?_)
                        refine VC.reg (VO.l (LO.mv (.r rfl)) rfl <| VO.l (LO.add (.r rfl) (.r rfl) (wi (by omega) (by omega))) rfl <| VO.l (LO.as (.r rfl)) rfl <| VO.nil ?_)
                        refine VE.thenN fun a w ha hw => ⟨((0 + 1), _, _, _, _), (by dsimp only; exact .inr (.inl ⟨rfl, mnA h178 ⟨rfl, rfl⟩⟩)), (by dsimp only; omega), ha.sub (.cons rfl (.cons rfl (.cons rfl (.cons rfl (.cons rfl (.cons rfl (.cons rfl .nil))))))), hw⟩
                      ·
                        refine VC.skip (VE.seqN ?_)
                        refine VC.drawH [[0, 1, 2, 3, 4, 5, 6, 7, 8, 9, 10], [1, 2, 3, 4, 5, 6, 7, 8, 9, 10]] [some 0, some 0, some 0, some 0, some 0, some 0, some 0, some 0, some 0, some 0, some 0, some 0, none] mixed (by kernel_rfl) rfl (LX.l (fun _ hJ => LO.mv (.r rfl)) rfl <| LX.l (fun _ hJ => LO.mv (.r rfl)) rfl <| LX.l (fun _ hJ => LO.ixa (j := 0) (r := 0) Try.underlying105 N55 (.r rfl) (.r rfl) rfl (by decide) rfl) rfl <| LX.l (fun _ hJ => LO.ld O55 (.r rfl) (fun _ hw => cells_at (hJ _ hw) 1 rfl ⟨_, rfl⟩)) rfl <| LX.l (fun _ hJ => LO.mv (.r rfl)) rfl <| LX.l (fun _ hJ => LO.mul (.r rfl) (.r rfl) (wi (by omega) (by omega))) rfl <| LX.l (fun _ hJ => LO.fa (r := 1) F38_1 (.r rfl) rfl) rfl <| LX.l (fun _ hJ => LO.ld O3 (.r rfl) (fun _ hw => cells_at (hJ _ hw) 9 rfl ⟨_, rfl⟩)) rfl <| LX.l (fun _ hJ => LO.mul (.r rfl) (.r rfl) (wi (by omega) (by omega))) rfl <| LX.l (fun _ hJ => LO.call (xs := [_, _]) (vs := [_, _]) C56 ⟨(.r rfl), (.r rfl), trivial⟩ (fun w hw => rMean_c (stL t.kind l 0) _ _ _ w (by omega) (by omega) (RO.of_own (hJ _ hw) 2 rfl) hs0T (by omega) (by omega))) rfl <| LX.l (fun _ hJ => LO.fa (r := 3) F32_2 (.r rfl) rfl) rfl <| LX.l (fun _ hJ => LO.ixa (j := 0) (r := 3) Try.underlying30 N25 (.r rfl) (.r rfl) rfl (by decide) rfl) rfl <| LX.s <| LX.nil) (HX.s <| HX.s <| HX.s <| HX.s <| HX.s <| HX.s <| HX.s <| HX.s <| HX.s <| HX.s <| HX.s <| HX.s <| HX.h0 <| HO.st 0 (vs := [_, _]) (C' := [_, _, _, _, _, _, _, _, _, _, _, _, _, _]) (L' := [_, _, _, _, _, _, _, _, _, _, _]) N25 rfl rfl rfl rfl rfl rfl rfl rfl <| ⟨selJ (L1 := [_, _, _, _, _, _, _, _, _, _]) [1, 2, 3, 4, 5, 6, 7, 8, 9, 10] rfl rfl rfl, HX.nil ?_⟩)
                        refine VE.inN (VE.seqN ?_)
                        refine VC.reg (VO.l (LO.mv (.r rfl)) rfl <| VO.l (LO.add (.r rfl) (.r rfl) (wi (by omega) (by omega))) rfl <| VO.l (LO.as (.r rfl)) rfl <| VO.nil ?_)
                        refine VE.thenN fun a w ha hw => ⟨((0 + 1), _, _, _, _), (by dsimp only; exact .inr (.inl ⟨rfl, mnB h178 ⟨rfl, rfl⟩⟩)), (by dsimp only; omega), ha.sub (.cons rfl (.cons rfl (.cons rfl (.cons rfl (.cons rfl (.cons rfl (.cons rfl .nil))))))), hw⟩
                  ·
                    refine VC.reg (VO.l (LO.mv (.r rfl)) rfl <| VO.l (LO.ixa (j := 1) (r := 1) Try.underlying105 N55 (.r rfl) (.r rfl) rfl (by decide) rfl) rfl <| VO.l (LO.ld O55 (.r rfl) (fun _ hw => cells_at hw 1 rfl ⟨_, rfl⟩)) rfl <| VO.l (LO.len S55 (.r rfl) rfl) rfl <| VO.l (LO.eq (.r rfl) (.r rfl)) rfl <| VO.nil ?_)
                    refine VE.seqN ?_
                    refine VC.cond rfl (fun h175 => ?_) (fun h175 => ?_)
                    ·
                      refine VC.exit (VE.thenX (VE.inX (VE.seqN ?_)))
                      refine VC.reg (VO.l (LO.mv (.r rfl)) rfl <| VO.l (LO.add (.r rfl) (.r rfl) (wi (by omega) (by omega))) rfl <| VO.l (LO.as (.r rfl)) rfl <| VO.nil ?_)
                      refine VE.thenN fun a w ha hw => ⟨((1 + 1), _, _, _, _), (by dsimp only; exact .inr (.inr ⟨rfl, rfl, rfl, mn02 h175⟩)), (by dsimp only; omega), ha.sub (.cons rfl (.cons rfl (.cons rfl (.cons rfl (.cons rfl (.cons rfl (.cons rfl .nil))))))), hw⟩
                    ·
                      refine VC.skip (VE.seqN ?_)
                      refine VC.seq ?_
                      refine VC.reg (VO.l (LO.as (.r rfl)) rfl <| VO.nil ?_)
                      refine VE.seqN ?_
                      refine VC.seq ?_
                      refine VC.seq ?_
                      refine VC.reg (VO.l (LO.fa (r := 1) F37_1 (.r rfl) rfl) rfl <| VO.l (LO.ld O3 (.r rfl) (fun _ hw => cells_at hw 10 rfl ⟨_, rfl⟩)) rfl <| VO.l (LO.eq (.r rfl) (.r rfl)) rfl <| VO.nil ?_)
                      refine VE.seqN ?_
                      refine VC.cond rfl (fun h178 => ?_) (fun h178 => ?_)
                      ·
                        refine VC.reg (VO.l (LO.mv (.r rfl)) rfl <| VO.l (LO.ixa (j := 1) (r := 1) Try.underlying105 N55 (.r rfl) (.r rfl) rfl (by decide) rfl) rfl <| VO.l (LO.ld O55 (.r rfl) (fun _ hw => cells_at hw 1 rfl ⟨_, rfl⟩)) rfl <| VO.l (LO.len S55 (.r rfl) rfl) rfl <| VO.l (LO.as (.r rfl)) rfl <| VO.nil ?_)
                        refine VE.seqN ?_
                        refine VC.drawH [[0, 1, 2, 3, 4, 5, 6, 7, 8, 9, 10], [1, 2, 3, 4, 5, 6, 7, 8, 9, 10]] [some 0, some 0, some 0, some 0, some 0, some 0, some 0, some 0, some 0, some 0, some 0, some 0, none] mixed (by kernel_rfl) rfl (LX.l (fun _ hJ => LO.mv (.r rfl)) rfl <| LX.l (fun _ hJ => LO.mv (.r rfl)) rfl <| LX.l (fun _ hJ => LO.ixa (j := 1) (r := 1) Try.underlying105 N55 (.r rfl) (.r rfl) rfl (by decide) rfl) rfl <| LX.l (fun _ hJ => LO.ld O55 (.r rfl) (fun _ hw => cells_at (hJ _ hw) 1 rfl ⟨_, rfl⟩)) rfl <| LX.l (fun _ hJ => LO.mv (.r rfl)) rfl <| LX.l (fun _ hJ => LO.mul (.r rfl) (.r rfl) (wi (by omega) (by omega))) rfl <| LX.l (fun _ hJ => LO.fa (r := 1) F38_1 (.r rfl) rfl) rfl <| LX.l (fun _ hJ => LO.ld O3 (.r rfl) (fun _ hw => cells_at (hJ _ hw) 9 rfl ⟨_, rfl⟩)) rfl <| LX.l (fun _ hJ => LO.mul (.r rfl) (.r rfl) (wi (by omega) (by omega))) rfl <| LX.l (fun _ hJ => LO.call (xs := [_, _]) (vs := [_, _]) C56 ⟨(.r rfl), (.r rfl), trivial⟩ (fun w hw => rMean_c (stL t.kind l 1) _ _ _ w (by omega) (by omega) (RO.of_own (hJ _ hw) 3 rfl) hs1T (by omega) (by omega))) rfl <| LX.l (fun _ hJ => LO.fa (r := 3) F32_2 (.r rfl) rfl) rfl <| LX.l (fun _ hJ => LO.ixa (j := 1) (r := 5) Try.underlying30 N25 (.r rfl) (.r rfl) rfl (by decide) rfl) rfl <| LX.s <| LX.nil) (HX.s <| HX.s <| HX.s <| HX.s <| HX.s <| HX.s <| HX.s <| HX.s <| HX.s <| HX.s <| HX.s <| HX.s <| HX.h0 <| HO.st 0 (vs := [_, _]) (C' := [_, _, _, _, _, _, _, _, _, _, _, _, _, _]) (L' := [_, _, _, _, _, _, _, _, _, _, _]) N25 rfl rfl rfl rfl rfl rfl rfl rfl <| ⟨selJ (L1 := [_, _, _, _, _, _, _, _, _, _]) [1, 2, 3, 4, 5, 6, 7, 8, 9, 10] rfl rfl rfl, HX.nil ?_⟩)
                        refine VE.inN (VE.seqN ?_)
                        refine VC.reg (VO.l (LO.mv (.r rfl)) rfl <| VO.l (LO.add (.r rfl) (.r rfl) (wi (by omega) (by omega))) rfl <| VO.l (LO.as (.r rfl)) rfl <| VO.nil ?_)
                        refine VE.thenN fun a w ha hw => ⟨((1 + 1), _, _, _, _), (by dsimp only; exact .inr (.inr ⟨rfl, rfl, rfl, mnA2 h178⟩)), (by dsimp only; omega), ha.sub (.cons rfl (.cons rfl (.cons rfl (.cons rfl (.cons rfl (.cons rfl (.cons rfl .nil))))))), hw⟩
                      ·
                        refine VC.skip (VE.seqN ?_)
                        refine VC.drawH [[0, 1, 2, 3, 4, 5, 6, 7, 8, 9, 10], [1, 2, 3, 4, 5, 6, 7, 8, 9, 10]] [some 0, some 0, some 0, some 0, some 0, some 0, some 0, some 0, some 0, some 0, some 0, some 0, none] mixed (by kernel_rfl) rfl (LX.l (fun _ hJ => LO.mv (.r rfl)) rfl <| LX.l (fun _ hJ => LO.mv (.r rfl)) rfl <| LX.l (fun _ hJ => LO.ixa (j := 1) (r := 1) Try.underlying105 N55 (.r rfl) (.r rfl) rfl (by decide) rfl) rfl <| LX.l (fun _ hJ => LO.ld O55 (.r rfl) (fun _ hw => cells_at (hJ _ hw) 1 rfl ⟨_, rfl⟩)) rfl <| LX.l (fun _ hJ => LO.mv (.r rfl)) rfl <| LX.l (fun _ hJ => LO.mul (.r rfl) (.r rfl) (wi (by omega) (by omega))) rfl <| LX.l (fun _ hJ => LO.fa (r := 1) F38_1 (.r rfl) rfl) rfl <| LX.l (fun _ hJ => LO.ld O3 (.r rfl) (fun _ hw => cells_at (hJ _ hw) 9 rfl ⟨_, rfl⟩)) rfl <| LX.l (fun _ hJ => LO.mul (.r rfl) (.r rfl) (wi (by omega) (by omega))) rfl <| LX.l (fun _ hJ => LO.call (xs := [_, _]) (vs := [_, _]) C56 ⟨(.r rfl), (.r rfl), trivial⟩ (fun w hw => rMean_c (stL t.kind l 1) _ _ _ w (by omega) (by omega) (RO.of_own (hJ _ hw) 3 rfl) hs1T (by omega) (by omega))) rfl <| LX.l (fun _ hJ => LO.fa (r := 3) F32_2 (.r rfl) rfl) rfl <| LX.l (fun _ hJ => LO.ixa (j := 1) (r := 5) Try.underlying30 N25 (.r rfl) (.r rfl) rfl (by decide) rfl) rfl <| LX.s <| LX.nil) (HX.s <| HX.s <| HX.s <| HX.s <| HX.s <| HX.s <| HX.s <| HX.s <| HX.s <| HX.s <| HX.s <| HX.s <| HX.h0 <| HO.st 0 (vs := [_, _]) (C' := [_, _, _, _, _, _, _, _, _, _, _, _, _, _]) (L' := [_, _, _, _, _, _, _, _, _, _, _]) N25 rfl rfl rfl rfl rfl rfl rfl rfl <| ⟨selJ (L1 := [_, _, _, _, _, _, _, _, _, _]) [1, 2, 3, 4, 5, 6, 7, 8, 9, 10] rfl rfl rfl, HX.nil ?_⟩)
                        refine VE.inN (VE.seqN ?_)
                        refine VC.reg (VO.l (LO.mv (.r rfl)) rfl <| VO.l (LO.add (.r rfl) (.r rfl) (wi (by omega) (by omega))) rfl <| VO.l (LO.as (.r rfl)) rfl <| VO.nil ?_)
                        refine VE.thenN fun a w ha hw => ⟨((1 + 1), _, _, _, _), (by dsimp only; exact .inr (.inr ⟨rfl, rfl, rfl, mnB2 h178⟩)), (by dsimp only; omega), ha.sub (.cons rfl (.cons rfl (.cons rfl (.cons rfl (.cons rfl (.cons rfl (.cons rfl .nil))))))), hw⟩
                  ·
                    (exfalso; omega)
                ·
                  refine VC.exit (VE.thenX (VE.thenX (VE.inX (VE.seqN ?_))))
                  refine VC.seq ?_
                  rcases hI with ⟨q, _⟩ | ⟨q, _⟩ | ⟨rfl, rfl, rfl, rfl, rfl⟩
                  · omega
                  · omega
                  refine VC.reg (VO.l (LO.mv (.r rfl)) rfl <| VO.l (LO.mv (.r rfl)) rfl <| VO.l (LO.len S55 (.r rfl) rfl) rfl <| VO.l (LO.mul (.r rfl) (.r rfl) (wi (by omega) (by omega))) rfl <| VO.l (LO.fa (r := 1) F38_1 (.r rfl) rfl) rfl <| VO.l (LO.ld O3 (.r rfl) (fun _ hw => cells_at hw 9 rfl ⟨_, rfl⟩)) rfl <| VO.l (LO.mul (.r rfl) (.r rfl) (wi (by omega) (by omega))) rfl <| VO.l (LO.call (xs := [_, _]) (vs := [_, _]) C56 ⟨(.r rfl), (.r rfl), trivial⟩ (fun w hw => rMean_c (turnL l) _ _ _ w (by omega) (by omega) (RO.of_own hw 7 rfl) tT (by omega) (by omega))) rfl <| VO.l (LO.fa (r := 12) F32_6 (.r rfl) rfl) rfl <| VO.h0 <| HO.st 0 (vs := [_, _]) (C' := [_, _, _, _, _, _, _, _, _, _, _, _, _, _]) (L' := [_, _, _, _, _, _, _, _, _, _, _]) N25 rfl rfl rfl rfl rfl rfl rfl rfl <| VO.nil ?_)
                  refine VE.seqN ?_
                  refine VC.seq ?_
                  refine VC.reg (VO.l (LO.lda (vs := [_, _, _, _, _, _, _, _, _, _, _, _, _, _]) A32 (.r rfl) (fun _ hw => cells_at hw 0 rfl ⟨_, rfl⟩) rfl) rfl <| VO.h0 <| HO.st 8 (vs := [_, _, _, _, _, _, _, _, _, _, _, _, _, _]) (C' := [_, _, _, _, _, _, _, _, _, _, _, _, _, _]) (L' := [_, _, _, _, _, _, _, _, _, _, _]) N32 rfl rfl rfl rfl rfl rfl rfl rfl <| VO.l (LO.as (.r rfl)) rfl <| VO.nil ?_)
                  refine VE.seqN ?_
                  refine VC.ret (VE.res (vs := [_, _]) rfl ⟨RV.agg (vs := [_, _, _, _, _, _, _, _, _, _, _, _, _, _]) A32 rfl (cells_blk 8 rfl ⟨_, rfl⟩) rfl, rfl, trivial⟩ (fun w hw => ?_))
                  refine ⟨?_, hw.nil⟩
                  simp only [resV]
                  first | exact rh_err h27 | exact hX (hE3 (nz hb0.1) (nzr hr) h34) (by decide) | exact hX (hE4 (nz hb0.1) (nzr hr) h34 (j := j) (by omega) (by unfold smpOk; omega)) (by decide) | exact rh_1 hb0.1 hr h34 hs hz | exact rh_2a hb0.1 hr h34 hs hz hln.1 h161 | exact rh_2b hb0.1 hr h34 hs hz hk h165 | exact rh_3 hb0.1 hr h34 hs hz hln.1 h161 hk h165

end Go.Proofs.Ytcnlhifkablmkaa
