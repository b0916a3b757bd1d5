/-
  The program hears.
-/
import Derived.Test.YtcnlhifkablmkaaW6
namespace Go.Proofs.Ytcnlhifkablmkaa
open Go.SL Go.Proofs Go.Pulse
set_option linter.unusedVariables false

theorem Z32 : ZeroOf Try.prog 32 (.agg #[.int .i64 0, .int .i64 0, .int .i64 0, .int .i64 0, .int .i64 0, .int .i64 0, .int .i64 0, .int .i64 0, .int .i64 0, .int .i64 0, .int .i64 0, .int .i64 0, .int .i64 0, .int .i64 0]) := by unfold ZeroOf; kernel_rfl
theorem Z122 : ZeroOf Try.prog 122 (.agg #[.int .i64 0, .int .i64 0, .int .i64 0]) := by unfold ZeroOf; kernel_rfl
theorem C74 : IsFn Try.prog 74 := ⟨_, Try.func74, by decide, rfl⟩
theorem Z124 : ZeroOf Try.prog 124 (.agg #[.int .i64 0, .int .i64 0, .int .i64 0, .int .i64 0]) := by unfold ZeroOf; kernel_rfl
theorem N32 : (Try.prog.info? 32).map (·.size) = some 14 := by kernel_rfl
theorem A124 : IsAgg Try.prog 124 4 := ⟨⟨_, Try.underlying124, rfl⟩, by kernel_rfl⟩
theorem B124 : BuildsA Try.prog 124 [(0, 2), (2, 2)] [.int .i64 0, .int .i64 0, .int .i64 0, .int .i64 0] := BuildsA.mk (z := 2) (n := 2) (fun _ => by kernel_rfl) rfl
theorem EA124 : FlatA Try.prog 124 4 := ⟨⟨_, Try.underlying124, rfl⟩, by kernel_rfl, by kernel_rfl⟩
theorem C75 : IsFn Try.prog 75 := ⟨_, Try.func75, by decide, rfl⟩
theorem Z105 : ZeroOf Try.prog 105 (.agg #[.slice none 0 0, .slice none 0 0]) := by unfold ZeroOf; kernel_rfl
theorem A23 : IsAgg Try.prog 23 5 := ⟨⟨_, Try.underlying23, rfl⟩, by kernel_rfl⟩
theorem C76 : IsFn Try.prog 76 := ⟨_, Try.func76, by decide, rfl⟩
theorem F44_3 : FieldAt Try.prog 44 3 3 := ⟨_, _, Try.underlying44, rfl, rfl, 0, by kernel_rfl⟩
theorem Z129 : ZeroOf Try.prog 129 (.agg #[.int .i64 0, .int .i64 0, .int .i64 0, .int .i64 0, .int .i64 0, .int .i64 0, .int .i64 0, .int .i64 0]) := by unfold ZeroOf; kernel_rfl
theorem C77 : IsFn Try.prog 77 := ⟨_, Try.func77, by decide, rfl⟩
theorem A105 : IsAgg Try.prog 105 2 := ⟨⟨_, Try.underlying105, rfl⟩, by kernel_rfl⟩
theorem C78 : IsFn Try.prog 78 := ⟨_, Try.func78, by decide, rfl⟩
theorem A129 : IsAgg Try.prog 129 8 := ⟨⟨_, Try.underlying129, rfl⟩, by kernel_rfl⟩


theorem LO.ixg {P : Program} {β : Bs} {env : Env} {L : List Res} {d : Option Nat} {ty : TypeId} {pos : String} {aft : Array Edge} {g : Option (Nat × Bool)} {x i : Operand} {T E n z : Nat} {C : Array Value} {j : Nat} {k : IntKind} {e : Int} {vs : List Value} (hT : P.underlying T = some (.array n E)) (hE : IsAgg P E z) (hx : OV env x (.agg C)) (hi : OV env i (.int k e)) (he : e = (j : Int)) (hj : j < n) (hv : (C.extract (j * z) (j * z + z)).toList = vs) :
    LO P β env L ⟨d, .index T x i, ty, pos, aft, g⟩ (.agg vs.toArray) :=
  .of_run fun a w h hw => ⟨w, by
    subst he
    have he' : C.extract (j * z) (j * z + z) = vs.toArray := by rw [← hv]
    simp [execOp, h x (by simp [Op.operands]) _ hx, h i (by simp [Op.operands]) _ hi, Instr.index, asIntOf, run_underlying hT, run_size hE.2, hj, part, run_isAgg hE, he'], hw⟩
theorem cells_inv {w : World} {b : Nat} {C : Array Value} {E : TypeId} (h : (blk b (.cells C E)).inv w) : Cells w ⟨b, 0, none⟩ C.toList := by
  intro j v hj
  have e : (⟨b, 0, none⟩ : Addr).add j = ⟨b, j, none⟩ := by unfold Addr.add; split <;> simp_all
  rw [e]
  have hb : w.heap[b]? = some (.cells C E) := h
  simp only [World.cell?, hb, Option.isSome_none, Bool.false_eq_true, if_false]
  simpa using hj
theorem _root_.Go.SL.St.eqL {β : Bs} {L L' : List Res} {w : World} (h : St β L w) (e : L = L') : St β L' w := e ▸ h
theorem quo_nn {m n : Int} (hm : 0 ≤ m) (hn : 0 < n) (h2 : m ≤ 9223372036854775807) : IntKind.wrap .i64 (m.tdiv n) = m / n := by
  rw [Int.tdiv_eq_ediv_of_nonneg hm]
  have := Int.ediv_nonneg hm (by omega : 0 ≤ n)
  have := Int.ediv_le_self n hm
  exact wi (by omega) (by omega)
theorem share_bd {a : Int} (h1 : 0 ≤ a) (h2 : a ≤ 94000000) : 0 ≤ 1000 * a * a ∧ 1000 * a * a ≤ 9000000000000000000 := by
  have := prod_bd (x := 1000 * a) (y := a) (A := 94000000000) (B := 94000000) (by omega) (by omega) h1 h2
  omega
theorem ro_block {α : Type} {z : Nat} {f : α → List Value} {w : World} {p : Option Addr} {l : List α} (h : RO z f w p l) (d : α) (hf : ∀ x, f x ≠ []) (hl : l ≠ []) : pb p < w.heap.size := by
  have h0 := h.here d (j := 0) (by cases l with | nil => exact absurd rfl hl | cons => simp)
  cases q : f (l.getD 0 d) with
  | nil => exact absurd q (hf _)
  | cons v r =>
    have := h0 0 v (by rw [q]; rfl)
    simp only [Addr.add, if_true] at this
    rcases Nat.lt_or_ge (pb p) w.heap.size with e | e
    · exact e
    · simp [World.cell?, Array.getElem?_eq_none e] at this
theorem of_h {w0 w : World} {L : List Res} {b : Nat} (i : Nat) (hw : St (bs w0) L w) (hi : L[i]? = some (blk b (.cells #[.int .i64 0, .int .i64 0, .int .i64 0] 122))) {l : List Sample} {p : Option Addr} {c : Nat} {m : Int} (hl : Smps w0 p l) (hm1 : -64 ≤ m) (hm2 : m ≤ 64) (hn : l.length ≤ 64) (hs : ∀ x ∈ l, smpOk x) :
    Calls Try.prog 74 #[.pointer (some ⟨b, 0, none⟩), .slice p l.length c, .int .i64 m] w fun e w' => ∃ x : Unit, True ∧ e = .returned (.tuple #[]) ∧ St ⟨w, (blk b (.cells #[.int .i64 0, .int .i64 0, .int .i64 0] 122)).fp⟩ [blk b (.cells #[.int .i64 (sumH m l), .int .i64 (sumV m l), .int .i64 (sumX m l)] 122)] w' := by
  have hr := hw.rng i _ hi b rfl
  refine (of_c b l p c m w hm1 hm2 hn hs (hl.keep w hw) (fun h1 h2 => ?_) (hw.inv i _ hi) (fun k hk => (hw.rng i _ hi k hk).2)).mono fun e w' h => ⟨(), trivial, h.1, h.2⟩
  have := ro_block hl zSm (fun x q => by cases q) h1
  rcases hr.1 with q | q
  · exact q
  · have : w0.heap.size ≤ b := q
    omega
def stS (q : List (Int × Int)) (w : Int) : List Int := (q.filter fun x => decide (x.1 = w)).map (·.2)
theorem pair_of {q : List (Int × Int)} {n : Nat} {vs : List Value} (h : (q.map pairC)[n]? = some vs) : ∃ v, vs = [.int .i64 v.1, .int .i64 v.2] ∧ q[n]? = some v := by
  rw [List.getElem?_map] at h
  cases e : q[n]? with
  | none => rw [e] at h; cases h
  | some v => rw [e] at h; cases h; exact ⟨v, rfl, rfl⟩
theorem stQ_01 {k : Int} {l : List Sample} {m n : Nat} {v : Int × Int} (hk : kndOk k) (hv : (stQ k l m)[n]? = some v) : v.1 = 0 ∨ v.1 = 1 := by
  have h := List.mem_of_getElem? hv
  unfold stQ at h
  obtain ⟨i, hi, rfl⟩ := List.mem_map.1 h
  have h2 := of_decide_eq_true (List.mem_filter.1 hi).2
  unfold kndOk at hk
  dsimp only
  unfold stW at *
  split
  · exact .inl rfl
  · split
    · split
      · rename_i a b c; simp [a, b, c] at h2
      · split
        · exact .inr rfl
        · exact .inl rfl
    · omega
theorem stQ_len (k : Int) (l : List Sample) (m : Nat) : (stQ k l m).length ≤ m := by
  unfold stQ; rw [List.length_map]
  have := List.length_filter_le (fun i => decide (stW k l.length i ≠ 2)) (List.range m)
  simpa using this
theorem stS_len {q : List (Int × Int)} {m n : Nat} (h : q.length ≤ m) : (stS (q.take n) 0).length ≤ m ∧ (stS (q.take n) 1).length ≤ m := by
  have key : ∀ w, (stS (q.take n) w).length ≤ m := fun w => by
    unfold stS; rw [List.length_map]
    have := List.length_filter_le (fun x : Int × Int => decide (x.1 = w)) (q.take n)
    rw [List.length_take] at this; omega
  exact ⟨key 0, key 1⟩
theorem stS_yes {q : List (Int × Int)} {n : Nat} {v : Int × Int} {w : Int} (hv : q[n]? = some v) (h : v.1 = w) : stS (q.take (n + 1)) w = stS (q.take n) w ++ [v.2] := by
  unfold stS; rw [take_at hv, List.filter_append, List.map_append]; simp [h]
theorem stS_no {q : List (Int × Int)} {n : Nat} {v : Int × Int} {w : Int} (hv : q[n]? = some v) (h : v.1 ≠ w) : stS (q.take (n + 1)) w = stS (q.take n) w := by
  unfold stS; rw [take_at hv, List.filter_append, List.map_append]; simp [h]
theorem stS_all {k : Int} {l : List Sample} (w : Int) (h : w ≠ 2) : stS (stQ k l (l.length - 1)) w = stL k l w := by
  unfold stS stQ stL stP
  rw [List.filter_map, List.map_map, List.filter_filter]
  congr 1
  refine List.filter_congr fun i _ => ?_
  simp only [Function.comp]
  by_cases e : stW k l.length i = w
  · simp [e, h]
  · simp [e]
theorem stL_len (k : Int) (l : List Sample) (w : Int) : (stL k l w).length ≤ l.length - 1 := by
  unfold stL stP; rw [List.length_map]
  have := List.length_filter_le (fun i => decide (stW k l.length i = w)) (List.range (l.length - 1))
  simpa using this
theorem stL_inT (k : Int) (l : List Sample) (w : Int) : ∀ x ∈ stL k l w, inT x := fun x hx => by
  unfold stL stP at hx
  obtain ⟨i, _, rfl⟩ := List.mem_map.1 hx
  exact wr_bd _
theorem turnL_inT (l : List Sample) : ∀ x ∈ turnL l, inT x := fun x hx => by
  unfold turnL at hx
  obtain ⟨i, _, rfl⟩ := List.mem_map.1 hx
  exact wr_bd _
theorem wid_bd {l : List Int} (h : ∀ x ∈ l, inT x) : 0 ≤ wid l ∧ wid l ≤ 65535 := by
  unfold wid
  by_cases e : l = []
  · rw [if_pos e]; decide
  · rw [if_neg e]
    obtain ⟨_, h2, _⟩ := arcR_is e
    rw [h2]; exact arcW_bd _ _
theorem turn_step {l : List Sample} {j : Nat} (hj : j < l.length) : turnL (l.take (j + 1)) = turnL (l.take j) ++ [wr ((l.getD j zSm).q - (l.getD j zSm).p)] := by
  unfold turnL; rw [take_at (getD_some (d := zSm) hj), List.map_append]; rfl
def togV (s : List Int) (ph : Int) : Bool := decide ((s.length : Int) = 0) || decide (wid s + 4 * ph < 32768)
def togT (s : List Int) (ph : Int) : Bool := decide ((s.length : Int) = 0) || decide ((arcR s).2 + 4 * ph < 32768)
theorem togT_iff {s : List Int} {ph : Int} : togT s ph = true ↔ tog s ph := by
  unfold togT tog
  rw [Bool.or_eq_true, decide_eq_true_iff, decide_eq_true_iff, len0]
theorem togV_iff {s : List Int} {ph : Int} : togV s ph = true ↔ tog s ph := by
  unfold togV tog wid
  rw [Bool.or_eq_true, decide_eq_true_iff, decide_eq_true_iff, len0]
  by_cases h : s = []
  · simp [h]
  · simp [h]
theorem good_iff {t : Train} {r : Recv} {l : List Sample} : goodT t r l ↔ ((togT (turnL l) r.phase = true ∧ togV (stL t.kind l 0) r.phase = true) ∧ togV (stL t.kind l 1) r.phase = true) := by
  unfold goodT; rw [togT_iff, togV_iff, togV_iff, and_assoc]
theorem meanS_eq {s : List Int} {sl : Int} : meanS s sl = meanR (arcSum s) (s.length : Int) sl := by
  unfold meanS meanR
  by_cases h : s = []
  · rw [if_pos h, if_pos (len0.2 h)]
  · rw [if_neg h, if_neg (fun q => h (len0.1 q))]
section
variable {s : List Int} {ph : Int} {g : Bool}
theorem wid_pos (h : 0 < (s.length : Int)) : wid s = (arcR s).2 := if_neg (fun q => by rw [q] at h; simp at h)
theorem nil_of (h : ¬ 0 < (s.length : Int)) : s = [] := len0.1 (by omega)
theorem wid_neg (h : ¬ 0 < (s.length : Int)) : wid s = 0 := if_pos (nil_of h)
theorem arc_neg (h : ¬ 0 < (s.length : Int)) : (arcR s).1 = 0 := by rw [nil_of h]; rfl
theorem sum_neg (h : ¬ 0 < (s.length : Int)) : arcSum s = 0 := by rw [nil_of h]; rfl
theorem len_neg (h : ¬ 0 < (s.length : Int)) : (s.length : Int) = 0 := by omega
theorem tgA (h : 0 < (s.length : Int)) : some (Value.bool (g && (decide ((s.length : Int) = 0) || decide ((arcR s).2 + 4 * ph < 32768)))) = some (Value.bool (g && togV s ph)) := by
  unfold togV; rw [wid_pos h]
theorem tgB (h : ¬ 0 < (s.length : Int)) : some (Value.bool (g && (decide ((0 : Int) = 0) || decide (0 + 4 * ph < 32768)))) = some (Value.bool (g && togV s ph)) := by
  unfold togV; rw [wid_neg h, len_neg h]
end
theorem slk_3 {t : Train} {r : Recv} {s : List Int} (h : t.kind = 3) : slk t r s = 2 * r.phase * (s.length : Int) := if_pos h
theorem slk_n {t : Train} {r : Recv} {s : List Int} (h : ¬ t.kind = 3) : slk t r s = 2 * r.phase := if_neg h
theorem sum_le {α : Type} {f g : α → Int} : ∀ {l : List α}, (∀ x ∈ l, f x ≤ g x) → (l.map f).sum ≤ (l.map g).sum
  | [], _ => by simp
  | x :: l, h => by
    have h1 := h x (by simp)
    have h2 := sum_le (f := f) (g := g) (l := l) (fun y hy => h y (by simp [hy]))
    simp only [List.map_cons, List.sum_cons]
    omega
theorem sq_le {a m n : Int} (h : m ≤ n) : sq m a ≤ sq n a := by
  have h1 : max 0 (a + m) ≤ max 0 (a + n) := by omega
  have h0 : 0 ≤ max 0 (a + m) := by omega
  exact Int.mul_le_mul h1 h1 h0 (by omega)
theorem div_up {a b n : Int} (hn : 0 < n) (h : a ≤ b) : a / n ≤ up b n := by
  unfold up
  have h1 : a / n ≤ b / n := Int.ediv_le_ediv hn h
  have h2 := Int.mul_ediv_add_emod b n
  have h3 := Int.emod_nonneg b (by omega : n ≠ 0)
  have h4 := Int.mul_ediv_add_emod (-b) n
  have h5 := Int.emod_nonneg (-b) (by omega : n ≠ 0)
  have h6 : n * (b / n) ≤ n * (-(-b / n)) := by rw [Int.mul_neg]; omega
  have := Int.le_of_mul_le_mul_left h6 hn
  omega
theorem pow_bd {r : Recv} {l : List Sample} (hr : recvOk r) (hn : 0 < (l.length : Int)) (hs : ∀ x ∈ l, smpOk x) : 0 ≤ (pow0 r l).lo ∧ (pow0 r l).lo ≤ (pow0 r l).hi ∧ 0 ≤ (pow1 r l).lo ∧ (pow1 r l).lo ≤ (pow1 r l).hi ∧ (pow0 r l).hi ≤ 2000000 ∧ (pow1 r l).hi ≤ 2000000 := by
  unfold recvOk at hr
  have hH : sumH (-r.level) l ≤ sumH r.level l := sum_le (fun x _ => sq_le (by omega))
  have hV : sumV (-r.level) l ≤ sumV r.level l := sum_le (fun x _ => sq_le (by omega))
  have a1 := sumH_bd (m := r.level) (l := l) (by omega) (by omega) hs
  have a2 := sumV_bd (m := r.level) (l := l) (by omega) (by omega) hs
  have b1 := div_up hn hH
  have b2 := div_up hn hV
  have c1 : up (sumH r.level l) l.length ≤ 1181569 := by
    unfold up
    have := Int.le_ediv_of_mul_le (c := (l.length : Int)) (a := -1181569) (b := -sumH r.level l) hn (by rw [Int.neg_mul]; omega)
    omega
  have c2 : up (sumV r.level l) l.length ≤ 1181569 := by
    unfold up
    have := Int.le_ediv_of_mul_le (c := (l.length : Int)) (a := -1181569) (b := -sumV r.level l) hn (by rw [Int.neg_mul]; omega)
    omega
  unfold pow0 pow1 powS
  dsimp only
  omega

set_option maxRecDepth 20000 in
set_option maxHeartbeats 4000000 in
theorem heard_c (t : Train) (r : Recv) (l : List Sample) (p : Option Addr) (c : Nat) (w : World) (htk : kndOk t.kind) (ht : trainOk t) (hr : recvOk r) (hlen : (l.length : Int) = t.count) (hs : ∀ x ∈ l, smpOk x) (hc : l.length ≤ c) (hl : Smps w p l) :
  Calls Try.prog 47 #[trainV t, recvV r, .slice p l.length c] w fun e w' => e = .returned (echoV (hearX t r l)) ∧ St (bs w) [] w' := by
  have hr' := hr
  unfold recvOk at hr'
  have ht' := ht
  unfold trainOk at ht'
  have hln : 2 ≤ l.length ∧ l.length ≤ 64 := by omega
  have a0 := sumH_bd (m := -r.level) (l := l) (by omega) (by omega) hs
  have a1 := sumV_bd (m := -r.level) (l := l) (by omega) (by omega) hs
  have a2 := sumX_bd (m := -r.level) (l := l) (by omega) (by omega) hs
  have a3 := sumH_bd (m := r.level) (l := l) (by omega) (by omega) hs
  have a4 := sumV_bd (m := r.level) (l := l) (by omega) (by omega) hs
  have a5 := sumX_bd (m := r.level) (l := l) (by omega) (by omega) hs
  have d0 := ediv_abs (a := sumH (-r.level) l) (n := (l.length : Int)) (B := 100000000) (by omega) (by omega) (by omega) (by omega)
  have d1 := ediv_abs (a := sumV (-r.level) l) (n := (l.length : Int)) (B := 100000000) (by omega) (by omega) (by omega) (by omega)
  have d2 := ediv_abs (a := -(sumH r.level l)) (n := (l.length : Int)) (B := 100000000) (by omega) (by omega) (by omega) (by omega)
  have d3 := ediv_abs (a := -(sumV r.level l)) (n := (l.length : Int)) (B := 100000000) (by omega) (by omega) (by omega) (by omega)
  refine enter (vs := [_, _, _]) (env := [(0, _), (1, _), (2, _)]) Try.func47 rfl rfl rfl rfl ?_
  refine VC.seq ?_
  refine VC.reg (VO.h rfl <| HO.box (C := #[_, _, _, _, _]) rfl rfl fun b1 => VO.h rfl <| HO.box (C := #[_, _, _, _]) rfl rfl fun b2 => VO.h rfl <| HO.alloc (C := #[_, _, _, _, _, _, _, _, _, _, _, _, _, _]) Z32 rfl fun b3 => VO.nil ?_)
  refine VE.seqN ?_
  refine VC.seq ?_
  refine VC.reg (VO.h rfl <| HO.alloc (C := #[_, _, _]) Z122 rfl fun b4 => VO.h rfl <| HO.alloc (C := #[_, _, _]) Z122 rfl fun b5 => VO.nil ?_)
  refine VE.seqN ?_
  refine VC.seq ?_
  refine VC.reg (VO.l (LO.mv (.r rfl)) rfl <| VO.l (LO.fa (r := 0) F27_0 (.r rfl) rfl) rfl <| VO.l (LO.ld O3 (.r rfl) (fun _ hw => cells_at hw 3 rfl ⟨_, rfl⟩)) rfl <| VO.l (LO.neg (.r rfl) (wi (by omega) (by omega))) rfl <| VO.h rfl <| HO.callh (first := []) (cap := []) (xs := [_, _, _]) (vs := [_, _, _]) 1 (fun R => [_, R, _, _, _]) rfl (.r rfl) C74 ⟨(.r rfl), (.r rfl), (.r rfl), trivial⟩ (fun _ => rfl) (fun w hw => of_h 1 hw rfl hl (m := -r.level) (by omega) (by omega) hln.2 hs) fun _ _ => VO.nil ?_)
  refine VE.seqN ?_
  refine VC.seq ?_
  refine VC.reg (VO.l (LO.mv (.r rfl)) rfl <| VO.l (LO.fa (r := 0) F27_0 (.r rfl) rfl) rfl <| VO.l (LO.ld O3 (.r rfl) (fun _ hw => cells_at hw 3 rfl ⟨_, rfl⟩)) rfl <| VO.h rfl <| HO.callh (first := []) (cap := []) (xs := [_, _, _]) (vs := [_, _, _]) 0 (fun R => [R, _, _, _, _]) rfl (.r rfl) C74 ⟨(.r rfl), (.r rfl), (.r rfl), trivial⟩ (fun _ => rfl) (fun w hw => of_h 0 hw rfl hl (m := r.level) (by omega) (by omega) hln.2 hs) fun _ _ => VO.nil ?_)
  refine VE.seqN ?_
  refine VC.seq ?_
  refine VC.reg (VO.h rfl <| HO.alloc (C := #[_, _, _, _]) Z124 rfl fun b8 => VO.nil ?_)
  refine VE.seqN ?_
  refine VC.seq ?_
  refine VC.seq ?_
  refine VC.reg (VO.l (LO.mv (.r rfl)) rfl <| VO.nil ?_)
  refine VE.seqN ?_
  refine VC.block ?_
  refine VC.loopK (α := Nat × Int × Int × Int × Int) 1 (fun gx => [(35, .int .i64 (gx.1 : Nat))]) [(2, _), (3, _), (4, _), (6, _), (7, _), (8, _), (9, _)] (fun gx => [blk b8 (.cells #[.int .i64 gx.2.1, .int .i64 gx.2.2.1, .int .i64 gx.2.2.2.1, .int .i64 gx.2.2.2.2] 124)]) (fun gx => gx.1 ≤ 2 ∧ (1 ≤ gx.1 → gx.2.1 = (pow0 r l).lo ∧ gx.2.2.1 = (pow0 r l).hi) ∧ (2 ≤ gx.1 → gx.2.2.2.1 = (pow1 r l).lo ∧ gx.2.2.2.2 = (pow1 r l).hi)) (fun gx => 2 - gx.1) (0, 0, 0, 0, 0) (by exact ⟨by omega, fun q => absurd q (by decide), fun q => absurd q (by decide)⟩) (.cons rfl (.cons rfl (.cons rfl (.cons rfl (.cons rfl (.cons rfl (.cons rfl (.cons rfl .nil)))))))) (fun _ h => h) ?_
  rintro ⟨i, v0, v1, v2, v3⟩ ⟨hi, hI1, hI2⟩
  show VC _ _ _ _ _ ([(35, .int .i64 (i : Nat))] ++ _) ([blk b8 (.cells #[.int .i64 v0, .int .i64 v1, .int .i64 v2, .int .i64 v3] 124)] ++ _) _ _
  dsimp only at hi hI1 hI2
  refine VC.seq ?_
  refine VC.reg (VO.l (LO.lt (.r rfl) (.r rfl)) rfl <| VO.nil ?_)
  refine VE.seqN ?_
  refine VC.seq ?_
  refine VC.cond rfl (fun h1 => ?_) (fun h1 => ?_)
  ·
    refine VC.skip (VE.seqN ?_)
    refine VC.seq ?_
    refine VC.block ?_
    refine VC.seq ?_
    rcases (show i = 0 ∨ i = 1 by omega) with rfl | rfl
    ·
      refine VC.reg (VO.l (LO.mv (.r rfl)) rfl <| VO.l (LO.as (.r rfl)) rfl <| VO.nil ?_)
      refine VE.seqN ?_
      refine VC.drawH [[0, 1, 2, 3, 4, 5], [1, 2, 3, 4, 5]] [some 0, some 0, some 0, some 0, some 0, some 0, some 0, some 0, some 0, some 0, some 0, some 0, some 0, some 0, some 0, some 0, some 0, some 0, some 0, some 0, some 0, some 0, some 0, some 0, some 0, none] mixed (by kernel_rfl) rfl (LX.l (fun _ hJ => LO.mv (.r rfl)) rfl <| LX.l (fun _ hJ => LO.mv (.r rfl)) rfl <| LX.l (fun _ hJ => LO.ixa (j := 0) (r := 0) Try.underlying122 N3 (.r rfl) (.r rfl) rfl (by decide) rfl) rfl <| LX.l (fun _ hJ => LO.ld O3 (.r rfl) (fun _ hw => cells_at (hJ _ hw) 2 rfl ⟨_, rfl⟩)) rfl <| LX.l (fun _ hJ => LO.mv (.r rfl)) rfl <| LX.l (fun _ hJ => LO.len S28 (.r rfl) rfl) rfl <| LX.l (fun _ hJ => LO.call (xs := [_, _]) (vs := [_, _]) C68 ⟨(.r rfl), (.r rfl), trivial⟩ (fun w _ => down_c _ _ (by omega) (by omega) (by omega) w)) rfl <| LX.l (fun _ hJ => LO.fa (r := 2) F27_2 (.r rfl) rfl) rfl <| LX.l (fun _ hJ => LO.fa (r := 3) F25_1 (.r rfl) rfl) rfl <| LX.l (fun _ hJ => LO.ld O3 (.r rfl) (fun _ hw => cells_at (hJ _ hw) 4 rfl ⟨_, rfl⟩)) rfl <| LX.l (fun _ hJ => LO.sub (.r rfl) (.r rfl) (wi (by omega) (by omega))) rfl <| LX.l (fun _ hJ => LO.max (.r rfl) (.r rfl)) rfl <| LX.l (fun _ hJ => LO.mv (.r rfl)) rfl <| LX.l (fun _ hJ => LO.ixa (j := 0) (r := 0) Try.underlying122 N3 (.r rfl) (.r rfl) rfl (by decide) rfl) rfl <| LX.l (fun _ hJ => LO.ld O3 (.r rfl) (fun _ hw => cells_at (hJ _ hw) 1 rfl ⟨_, rfl⟩)) rfl <| LX.l (fun _ hJ => LO.mv (.r rfl)) rfl <| LX.l (fun _ hJ => LO.len S28 (.r rfl) rfl) rfl <| LX.l (fun _ hJ => LO.call (xs := [_, _]) (vs := [_, _]) C69 ⟨(.r rfl), (.r rfl), trivial⟩ (fun w _ => up_c _ _ (by omega) (by omega) (by omega) w)) rfl <| LX.l (fun _ hJ => LO.fa (r := 2) F27_2 (.r rfl) rfl) rfl <| LX.l (fun _ hJ => LO.fa (r := 2) F25_0 (.r rfl) rfl) rfl <| LX.l (fun _ hJ => LO.ld O3 (.r rfl) (fun _ hw => cells_at (hJ _ hw) 4 rfl ⟨_, rfl⟩)) rfl <| LX.l (fun _ hJ => LO.sub (.r rfl) (.r rfl) (wi (by unfold up; omega) (by unfold up; omega))) rfl <| LX.l (fun _ hJ => LO.max (.r rfl) (.r rfl)) rfl <| LX.l (fun _ hJ => LO.bd (ps := [(_, _), (_, _)]) (vs := [(_, _), (_, _)]) (C := [_, _]) B25  ⟨(.r rfl), (.r rfl), trivial⟩ rfl ⟨_, [_], [_, _], rfl, rfl, rfl, rfl, ⟨_, [_], [_, _], rfl, rfl, rfl, rfl, rfl⟩⟩) rfl <| LX.l (fun _ hJ => LO.ixa (j := 0) (r := 0) Try.underlying124 N25 (.r rfl) (.r rfl) rfl (by decide) rfl) rfl <| LX.s <| LX.nil) (HX.s <| HX.s <| HX.s <| HX.s <| HX.s <| HX.s <| HX.s <| HX.s <| HX.s <| HX.s <| HX.s <| HX.s <| HX.s <| HX.s <| HX.s <| HX.s <| HX.s <| HX.s <| HX.s <| HX.s <| HX.s <| HX.s <| HX.s <| HX.s <| HX.s <| HX.h0 <| HO.st 0 (vs := [_, _]) (C' := [_, _, _, _]) (L' := [_, _, _, _, _, _]) N25 rfl rfl rfl rfl rfl rfl rfl rfl <| ⟨fun _ hw => hw.sel [1, 2, 3, 4, 5] rfl, HX.nil ?_⟩)
      refine VE.inN (VE.seqN ?_)
      refine VC.reg (VO.l (LO.add (.r rfl) (.r rfl) (wi (by omega) (by omega))) rfl <| VO.l (LO.mv (.r rfl)) rfl <| VO.nil ?_)
      refine VE.thenN fun a w ha hw => ⟨((0 + 1), _, _, _, _), (by first | exact ⟨by omega, fun _ => ⟨rfl, rfl⟩, fun q => absurd q (by omega)⟩ | exact ⟨by omega, fun _ => hI1 (by omega), fun _ => ⟨rfl, rfl⟩⟩), (by dsimp only; omega), ha.sub (.cons rfl (.cons rfl (.cons rfl (.cons rfl (.cons rfl (.cons rfl (.cons rfl (.cons rfl .nil)))))))), hw⟩
    ·
      refine VC.reg (VO.l (LO.mv (.r rfl)) rfl <| VO.l (LO.as (.r rfl)) rfl <| VO.nil ?_)
      refine VE.seqN ?_
      refine VC.drawH [[0, 1, 2, 3, 4, 5], [1, 2, 3, 4, 5]] [some 0, some 0, some 0, some 0, some 0, some 0, some 0, some 0, some 0, some 0, some 0, some 0, some 0, some 0, some 0, some 0, some 0, some 0, some 0, some 0, some 0, some 0, some 0, some 0, some 0, none] mixed (by kernel_rfl) rfl (LX.l (fun _ hJ => LO.mv (.r rfl)) rfl <| LX.l (fun _ hJ => LO.mv (.r rfl)) rfl <| LX.l (fun _ hJ => LO.ixa (j := 1) (r := 1) Try.underlying122 N3 (.r rfl) (.r rfl) rfl (by decide) rfl) rfl <| LX.l (fun _ hJ => LO.ld O3 (.r rfl) (fun _ hw => cells_at (hJ _ hw) 2 rfl ⟨_, rfl⟩)) rfl <| LX.l (fun _ hJ => LO.mv (.r rfl)) rfl <| LX.l (fun _ hJ => LO.len S28 (.r rfl) rfl) rfl <| LX.l (fun _ hJ => LO.call (xs := [_, _]) (vs := [_, _]) C68 ⟨(.r rfl), (.r rfl), trivial⟩ (fun w _ => down_c _ _ (by omega) (by omega) (by omega) w)) rfl <| LX.l (fun _ hJ => LO.fa (r := 2) F27_2 (.r rfl) rfl) rfl <| LX.l (fun _ hJ => LO.fa (r := 3) F25_1 (.r rfl) rfl) rfl <| LX.l (fun _ hJ => LO.ld O3 (.r rfl) (fun _ hw => cells_at (hJ _ hw) 4 rfl ⟨_, rfl⟩)) rfl <| LX.l (fun _ hJ => LO.sub (.r rfl) (.r rfl) (wi (by omega) (by omega))) rfl <| LX.l (fun _ hJ => LO.max (.r rfl) (.r rfl)) rfl <| LX.l (fun _ hJ => LO.mv (.r rfl)) rfl <| LX.l (fun _ hJ => LO.ixa (j := 1) (r := 1) Try.underlying122 N3 (.r rfl) (.r rfl) rfl (by decide) rfl) rfl <| LX.l (fun _ hJ => LO.ld O3 (.r rfl) (fun _ hw => cells_at (hJ _ hw) 1 rfl ⟨_, rfl⟩)) rfl <| LX.l (fun _ hJ => LO.mv (.r rfl)) rfl <| LX.l (fun _ hJ => LO.len S28 (.r rfl) rfl) rfl <| LX.l (fun _ hJ => LO.call (xs := [_, _]) (vs := [_, _]) C69 ⟨(.r rfl), (.r rfl), trivial⟩ (fun w _ => up_c _ _ (by omega) (by omega) (by omega) w)) rfl <| LX.l (fun _ hJ => LO.fa (r := 2) F27_2 (.r rfl) rfl) rfl <| LX.l (fun _ hJ => LO.fa (r := 2) F25_0 (.r rfl) rfl) rfl <| LX.l (fun _ hJ => LO.ld O3 (.r rfl) (fun _ hw => cells_at (hJ _ hw) 4 rfl ⟨_, rfl⟩)) rfl <| LX.l (fun _ hJ => LO.sub (.r rfl) (.r rfl) (wi (by unfold up; omega) (by unfold up; omega))) rfl <| LX.l (fun _ hJ => LO.max (.r rfl) (.r rfl)) rfl <| LX.l (fun _ hJ => LO.bd (ps := [(_, _), (_, _)]) (vs := [(_, _), (_, _)]) (C := [_, _]) B25  ⟨(.r rfl), (.r rfl), trivial⟩ rfl ⟨_, [_], [_, _], rfl, rfl, rfl, rfl, ⟨_, [_], [_, _], rfl, rfl, rfl, rfl, rfl⟩⟩) rfl <| LX.l (fun _ hJ => LO.ixa (j := 1) (r := 2) Try.underlying124 N25 (.r rfl) (.r rfl) rfl (by decide) rfl) rfl <| LX.s <| LX.nil) (HX.s <| HX.s <| HX.s <| HX.s <| HX.s <| HX.s <| HX.s <| HX.s <| HX.s <| HX.s <| HX.s <| HX.s <| HX.s <| HX.s <| HX.s <| HX.s <| HX.s <| HX.s <| HX.s <| HX.s <| HX.s <| HX.s <| HX.s <| HX.s <| HX.s <| HX.h0 <| HO.st 0 (vs := [_, _]) (C' := [_, _, _, _]) (L' := [_, _, _, _, _, _]) N25 rfl rfl rfl rfl rfl rfl rfl rfl <| ⟨fun _ hw => hw.sel [1, 2, 3, 4, 5] rfl, HX.nil ?_⟩)
      refine VE.inN (VE.seqN ?_)
      refine VC.reg (VO.l (LO.add (.r rfl) (.r rfl) (wi (by omega) (by omega))) rfl <| VO.l (LO.mv (.r rfl)) rfl <| VO.nil ?_)
      refine VE.thenN fun a w ha hw => ⟨((1 + 1), _, _, _, _), (by first | exact ⟨by omega, fun _ => ⟨rfl, rfl⟩, fun q => absurd q (by omega)⟩ | exact ⟨by omega, fun _ => hI1 (by omega), fun _ => ⟨rfl, rfl⟩⟩), (by dsimp only; omega), ha.sub (.cons rfl (.cons rfl (.cons rfl (.cons rfl (.cons rfl (.cons rfl (.cons rfl (.cons rfl .nil)))))))), hw⟩
  ·
    refine VC.exit (VE.thenX (VE.thenX (VE.inX (VE.seqN ?_))))
    refine VC.seq ?_
    have hi2 : i = 2 := by omega
    subst hi2
    obtain ⟨rfl, rfl⟩ := hI1 (by omega)
    obtain ⟨rfl, rfl⟩ := hI2 (by omega)
    refine VC.reg (VO.l (LO.ixa (j := 0) (r := 0) Try.underlying124 N25 (.r rfl) (.r rfl) rfl (by decide) rfl) rfl <| VO.l (LO.lda (vs := [_, _]) A25 (.r rfl) (fun _ hw => cells_at hw 0 rfl ⟨_, rfl⟩) rfl) rfl <| VO.l (LO.bd (ps := [(_, _), (_, _)]) (vs := [(_, _), (_, _)]) (C := [_, _, _, _, _, _, _, _, _, _, _, _, _, _]) B32  ⟨(.r rfl), (.r rfl), trivial⟩ rfl ⟨_, [_], [_, _, _, _, _, _, _, _, _, _, _, _, _, _], rfl, rfl, rfl, rfl, ⟨_, [_, _], [_, _, _, _, _, _, _, _, _, _, _, _, _, _], rfl, rfl, rfl, rfl, rfl⟩⟩) rfl <| VO.h rfl <| HO.alloc (C := #[_, _, _, _, _, _, _, _, _, _, _, _, _, _]) Z32 rfl fun b13 => VO.h0 <| HO.st 0 (vs := [_, _, _, _, _, _, _, _, _, _, _, _, _, _]) (C' := [_, _, _, _, _, _, _, _, _, _, _, _, _, _]) (L' := [_, _, _, _, _, _, _]) N32 rfl rfl rfl rfl rfl rfl rfl rfl <| VO.nil ?_)
    refine VE.seqN ?_
    refine VC.seq ?_
    refine VC.seq ?_
    refine VC.reg (VO.l (LO.lda (vs := [_, _, _, _]) A124 (.r rfl) (fun _ hw => cells_at hw 1 rfl ⟨_, rfl⟩) rfl) rfl <| VO.l (LO.ixa (j := 0) (r := 0) Try.underlying124 N25 (.r rfl) (.r rfl) rfl (by decide) rfl) rfl <| VO.l (LO.fa (r := 1) F25_1 (.r rfl) rfl) rfl <| VO.l (LO.ld O3 (.r rfl) (fun _ hw => cells_at hw 1 rfl ⟨_, rfl⟩)) rfl <| VO.l (LO.bd (ps := [(_, _)]) (vs := [(_, _)]) (C := [_, _]) B25  ⟨(.r rfl), trivial⟩ rfl ⟨_, [_], [_, _], rfl, rfl, rfl, rfl, rfl⟩) rfl <| VO.l (LO.ixa (j := 1) (r := 2) Try.underlying124 N25 (.r rfl) (.r rfl) rfl (by decide) rfl) rfl <| VO.l (LO.lda (vs := [_, _]) A25 (.r rfl) (fun _ hw => cells_at hw 1 rfl ⟨_, rfl⟩) rfl) rfl <| VO.l (LO.bda (ps := [(_, _), (_, _)]) (vs := [(_, _), (_, _)]) (C := [_, _, _, _]) B124 rfl ⟨(.r rfl), (.r rfl), trivial⟩ rfl ⟨_, [_, _], [_, _, _, _], rfl, rfl, rfl, rfl, ⟨_, [_, _], [_, _, _, _], rfl, rfl, rfl, rfl, rfl⟩⟩) rfl <| VO.l (LO.eqA («as» := [_, _, _, _]) (bs := [_, _, _, _]) EA124 (.r rfl) (.r rfl) rfl rfl) rfl <| VO.nil ?_)
    refine VE.seqN ?_
    refine VC.cond rfl (fun h75 => ?_) (fun h75 => ?_)
    ·
      have hz : (pow0 r l).lo = 0 := by simpa using h75
      refine VC.seq ?_
      refine VC.reg (VO.l (LO.lda (vs := [_, _, _, _, _, _, _, _, _, _, _, _, _, _]) A32 (.r rfl) (fun _ hw => cells_at hw 0 rfl ⟨_, rfl⟩) rfl) rfl <| VO.h0 <| HO.st 4 (vs := [_, _, _, _, _, _, _, _, _, _, _, _, _, _]) (C' := [_, _, _, _, _, _, _, _, _, _, _, _, _, _]) (L' := [_, _, _, _, _, _, _]) N32 rfl rfl rfl rfl rfl rfl rfl rfl <| VO.nil ?_)
      refine VE.seqN ?_
      refine VC.ret (VE.thenR (VE.res (vs := [_]) rfl ⟨RV.agg (vs := [_, _, _, _, _, _, _, _, _, _, _, _, _, _]) A32 rfl (cells_blk 4 rfl ⟨_, rfl⟩) rfl, trivial⟩ (fun w hw => ?_)))
      refine ⟨?_, hw.nil⟩
      simp only [resV]
      first | (rw [hearX, if_pos hz]; rfl) | (rw [hearX, if_neg hz, if_pos (fun q => h182 (good_iff.1 q))]; rfl) | (rw [hearX, if_neg hz, if_neg (fun q => q (good_iff.2 (Classical.not_not.1 h182))), meanS_eq, meanS_eq, meanS_eq, ← tlen]; rfl)
    ·
      have hz : ¬ (pow0 r l).lo = 0 := fun q => h75 (by rw [q])
      have hpw := pow_bd (r := r) (l := l) hr (by omega) hs
      have x1 := share_bd (a := sumX (-r.level) l) (by omega) (by omega)
      have x2 := share_bd (a := sumX r.level l) (by omega) (by omega)
      have y1 := prod_bd (A := 80000000) (B := 80000000) (x := sumH r.level l) (y := sumV r.level l) (by omega) (by omega) (by omega) (by omega)
      have y2 := prod_bd (A := 80000000) (B := 80000000) (x := sumH (-r.level) l) (y := sumV (-r.level) l) (by omega) (by omega) (by omega) (by omega)
      refine VC.skip (VE.seqN ?_)
      refine VC.seq ?_
      refine VC.drawH [[0, 1, 2, 3, 4, 5, 6], [1, 2, 3, 4, 5, 6]] [some 0, some 0, some 0, some 0, some 0, some 0, some 0, some 0, some 0, some 0, some 0, some 0, some 0, some 0, some 0, some 0, some 0, some 0, some 0, some 0, none] mixed (by kernel_rfl) rfl (LX.l (fun _ hJ => LO.ixa (j := 1) (r := 2) Try.underlying124 N25 (.r rfl) (.r rfl) rfl (by decide) rfl) rfl <| LX.l (fun _ hJ => LO.fa (r := 2) F25_0 (.r rfl) rfl) rfl <| LX.l (fun _ hJ => LO.ld O3 (.r rfl) (fun _ hw => cells_at (hJ _ hw) 1 rfl ⟨_, rfl⟩)) rfl <| LX.l (fun _ hJ => LO.mul (.r rfl) (.r rfl) (wi (by omega) (by omega))) rfl <| LX.l (fun _ hJ => LO.ixa (j := 0) (r := 0) Try.underlying124 N25 (.r rfl) (.r rfl) rfl (by decide) rfl) rfl <| LX.l (fun _ hJ => LO.fa (r := 1) F25_1 (.r rfl) rfl) rfl <| LX.l (fun _ hJ => LO.ld O3 (.r rfl) (fun _ hw => cells_at (hJ _ hw) 1 rfl ⟨_, rfl⟩)) rfl <| LX.l (fun _ hJ => LO.quo (.r rfl) (.r rfl) (by omega) (quo_nn (by omega) (by omega) (by omega))) rfl <| LX.l (fun _ hJ => LO.min (.r rfl) (.r rfl)) rfl <| LX.l (fun _ hJ => LO.ixa (j := 1) (r := 2) Try.underlying124 N25 (.r rfl) (.r rfl) rfl (by decide) rfl) rfl <| LX.l (fun _ hJ => LO.fa (r := 3) F25_1 (.r rfl) rfl) rfl <| LX.l (fun _ hJ => LO.ld O3 (.r rfl) (fun _ hw => cells_at (hJ _ hw) 1 rfl ⟨_, rfl⟩)) rfl <| LX.l (fun _ hJ => LO.mul (.r rfl) (.r rfl) (wi (by omega) (by omega))) rfl <| LX.l (fun _ hJ => LO.ixa (j := 0) (r := 0) Try.underlying124 N25 (.r rfl) (.r rfl) rfl (by decide) rfl) rfl <| LX.l (fun _ hJ => LO.fa (r := 0) F25_0 (.r rfl) rfl) rfl <| LX.l (fun _ hJ => LO.ld O3 (.r rfl) (fun _ hw => cells_at (hJ _ hw) 1 rfl ⟨_, rfl⟩)) rfl <| LX.l (fun _ hJ => LO.call (xs := [_, _]) (vs := [_, _]) C69 ⟨(.r rfl), (.r rfl), trivial⟩ (fun w _ => up_c _ _ (by omega) (by omega) (by omega) w)) rfl <| LX.l (fun _ hJ => LO.min (.r rfl) (.r rfl)) rfl <| LX.l (fun _ hJ => LO.bd (ps := [(_, _), (_, _)]) (vs := [(_, _), (_, _)]) (C := [_, _]) B25  ⟨(.r rfl), (.r rfl), trivial⟩ rfl ⟨_, [_], [_, _], rfl, rfl, rfl, rfl, ⟨_, [_], [_, _], rfl, rfl, rfl, rfl, rfl⟩⟩) rfl <| LX.l (fun _ hJ => LO.fa (r := 8) F32_4 (.r rfl) rfl) rfl <| LX.s <| LX.nil) (HX.s <| HX.s <| HX.s <| HX.s <| HX.s <| HX.s <| HX.s <| HX.s <| HX.s <| HX.s <| HX.s <| HX.s <| HX.s <| HX.s <| HX.s <| HX.s <| HX.s <| HX.s <| HX.s <| HX.s <| HX.h0 <| HO.st 0 (vs := [_, _]) (C' := [_, _, _, _, _, _, _, _, _, _, _, _, _, _]) (L' := [_, _, _, _, _, _, _]) N25 rfl rfl rfl rfl rfl rfl rfl rfl <| ⟨fun _ hw => hw.sel [1, 2, 3, 4, 5, 6] rfl, HX.nil ?_⟩)
      refine VE.seqN ?_
      refine VC.seq ?_
      refine VC.drawH [[0, 1, 2, 3, 4, 5, 6], [1, 2, 3, 4, 5, 6]] [some 0, some 0, some 0, some 0, some 0, some 0, some 0, some 0, some 0, some 0, some 0, some 0, some 0, some 0, some 0, some 0, some 0, some 0, none] mixed (by kernel_rfl) rfl (LX.l (fun _ hJ => LO.ixa (j := 2) (r := 2) Try.underlying122 N3 (.r rfl) (.r rfl) rfl (by decide) rfl) rfl <| LX.l (fun _ hJ => LO.ld O3 (.r rfl) (fun _ hw => cells_at (hJ _ hw) 3 rfl ⟨_, rfl⟩)) rfl <| LX.l (fun _ hJ => LO.ixa (j := 0) (r := 0) Try.underlying122 N3 (.r rfl) (.r rfl) rfl (by decide) rfl) rfl <| LX.l (fun _ hJ => LO.ld O3 (.r rfl) (fun _ hw => cells_at (hJ _ hw) 2 rfl ⟨_, rfl⟩)) rfl <| LX.l (fun _ hJ => LO.ixa (j := 1) (r := 1) Try.underlying122 N3 (.r rfl) (.r rfl) rfl (by decide) rfl) rfl <| LX.l (fun _ hJ => LO.ld O3 (.r rfl) (fun _ hw => cells_at (hJ _ hw) 2 rfl ⟨_, rfl⟩)) rfl <| LX.l (fun _ hJ => LO.mul (.r rfl) (.r rfl) (wi (by omega) (by omega))) rfl <| LX.l (fun _ hJ => LO.call (xs := [_, _, _, _]) (vs := [_, _, _, _]) C75 ⟨(.r rfl), (.r rfl), (.r rfl), (.r rfl), trivial⟩ (fun w _ => shareD_c _ _ w (by omega) (by omega) (share_bd (by omega) (by omega)).2 (share_bd (by omega) (by omega)).1 (by omega))) rfl <| LX.l (fun _ hJ => LO.ixa (j := 2) (r := 2) Try.underlying122 N3 (.r rfl) (.r rfl) rfl (by decide) rfl) rfl <| LX.l (fun _ hJ => LO.ld O3 (.r rfl) (fun _ hw => cells_at (hJ _ hw) 2 rfl ⟨_, rfl⟩)) rfl <| LX.l (fun _ hJ => LO.ixa (j := 0) (r := 0) Try.underlying122 N3 (.r rfl) (.r rfl) rfl (by decide) rfl) rfl <| LX.l (fun _ hJ => LO.ld O3 (.r rfl) (fun _ hw => cells_at (hJ _ hw) 3 rfl ⟨_, rfl⟩)) rfl <| LX.l (fun _ hJ => LO.ixa (j := 1) (r := 1) Try.underlying122 N3 (.r rfl) (.r rfl) rfl (by decide) rfl) rfl <| LX.l (fun _ hJ => LO.ld O3 (.r rfl) (fun _ hw => cells_at (hJ _ hw) 3 rfl ⟨_, rfl⟩)) rfl <| LX.l (fun _ hJ => LO.mul (.r rfl) (.r rfl) (wi (by omega) (by omega))) rfl <| LX.l (fun _ hJ => LO.call (xs := [_, _, _, _]) (vs := [_, _, _, _]) C75 ⟨(.r rfl), (.r rfl), (.r rfl), (.r rfl), trivial⟩ (fun w _ => shareU_c _ _ w (by omega) (by omega) (share_bd (by omega) (by omega)).2 (share_bd (by omega) (by omega)).1 (by omega))) rfl <| LX.l (fun _ hJ => LO.bd (ps := [(_, _), (_, _)]) (vs := [(_, _), (_, _)]) (C := [_, _]) B25  ⟨(.r rfl), (.r rfl), trivial⟩ rfl ⟨_, [_], [_, _], rfl, rfl, rfl, rfl, ⟨_, [_], [_, _], rfl, rfl, rfl, rfl, rfl⟩⟩) rfl <| LX.l (fun _ hJ => LO.fa (r := 10) F32_5 (.r rfl) rfl) rfl <| LX.s <| LX.nil) (HX.s <| HX.s <| HX.s <| HX.s <| HX.s <| HX.s <| HX.s <| HX.s <| HX.s <| HX.s <| HX.s <| HX.s <| HX.s <| HX.s <| HX.s <| HX.s <| HX.s <| HX.s <| HX.h0 <| HO.st 0 (vs := [_, _]) (C' := [_, _, _, _, _, _, _, _, _, _, _, _, _, _]) (L' := [_, _, _, _, _, _, _]) N25 rfl rfl rfl rfl rfl rfl rfl rfl <| ⟨fun _ hw => hw.sel [1, 2, 3, 4, 5, 6] rfl, HX.nil ?_⟩)
      refine VE.seqN ?_
      refine VC.seq ?_
      refine VC.reg (VO.h rfl <| HO.alloc (C := #[_, _]) Z105 rfl fun b20 => VO.nil ?_)
      refine VE.seqN ?_
      refine VC.weak (env' := [(2, _), (3, _), (4, _), (6, _), (11, _), (12, _)]) (.cons rfl (.cons rfl (.cons rfl (.cons rfl (.cons rfl (.cons rfl .nil)))))) (fun _ h => h) ?_
      refine VC.seq ?_
      refine VC.seq ?_
      refine VC.reg (VO.l (LO.lda (vs := [_, _, _, _, _]) A23 (.r rfl) (fun _ hw => cells_at hw 7 rfl ⟨_, rfl⟩) rfl) rfl <| VO.l (LO.mv (.r rfl)) rfl <| VO.h rfl <| HO.callx (xs := [_, _]) (vs := [_, _]) C76 ⟨(.r rfl), (.r rfl), trivial⟩ (fun w _ => steps_c t l p c w) fun q _ => VO.nil ?_)
      refine VE.seqN ?_
      refine VC.block ?_
      refine VC.rangeFuncF (α := Nat × (Option Addr × Nat) × (Option Addr × Nat)) (fun x => [own 3 1 x.2.1.1 x.2.1.2 ((stS ((stQ t.kind l (l.length - 1)).take x.1) 0).map intC), own 3 1 x.2.2.1 x.2.2.2 ((stS ((stQ t.kind l (l.length - 1)).take x.1) 1).map intC), blk b20 (.cells #[.slice x.2.1.1 (stS ((stQ t.kind l (l.length - 1)).take x.1) 0).length x.2.1.2, .slice x.2.2.1 (stS ((stQ t.kind l (l.length - 1)).take x.1) 1).length x.2.2.2] 105), blk q.1 (.cells #[.slice p l.length c] 28), blk q.2 (.cells #[.int .i64 t.lam, .int .i64 t.kind, .int .i64 t.first, .int .i64 t.second, .int .i64 t.count] 23), blk b13 (.cells #[.int .i64 1, .int .i64 (pow0 r l).lo, .int .i64 (pow0 r l).hi, .int .i64 0, .int .i64 0, .int .i64 0, .int .i64 0, .int .i64 0, .int .i64 (ratioS (pow0 r l) (pow1 r l)).lo, .int .i64 (ratioS (pow0 r l) (pow1 r l)).hi, .int .i64 (mtchS r l).lo, .int .i64 (mtchS r l).hi, .int .i64 0, .int .i64 0] 32), blk b3 (.cells #[.int .i64 0, .int .i64 0, .int .i64 0, .int .i64 0, .int .i64 0, .int .i64 0, .int .i64 0, .int .i64 0, .int .i64 0, .int .i64 0, .int .i64 0, .int .i64 0, .int .i64 0, .int .i64 0] 32), blk b2 (.cells #[.int .i64 r.level, .int .i64 r.phase, .int .i64 r.nlo, .int .i64 r.nhi] 27), blk b1 (.cells #[.int .i64 t.lam, .int .i64 t.kind, .int .i64 t.first, .int .i64 t.second, .int .i64 t.count] 23)]) (fun n x => x.1 = n ∧ n ≤ (stQ t.kind l (l.length - 1)).length) (fun c n x => False) (0, (none, 0), (none, 0)) (fun vs => [(13, vs.getD 0 (.bool false)), (14, vs.getD 1 (.bool false)), (12, .pointer (some ⟨b20, 0, none⟩))]) rfl C88 (steps_seq t l p c q.1 q.2 hln.2 (by omega) hc htk hs) (fun _ h => ((h.sel [2, 0, 1, 3, 7, 8, 9] rfl).ownNil 3 1).ownNil 3 1) (⟨rfl, Nat.zero_le _⟩) (fun vs hv => by obtain ⟨n, _, rfl⟩ := List.mem_map.1 hv; rfl) (by decide) (fun n x w2 _ h hfr => ⟨cells_inv (h 3 _ rfl), cells_inv (h 4 _ rfl), ro_fr (fun k hk => hfr k hk (fun q => q)) hl⟩) ?_ ?_ ?_ ?_
      ·
        intro n x vs lY T w1 hI hxs hst
        obtain ⟨v, rfl, hv⟩ := pair_of hxs
        obtain ⟨xn, ⟨xp, xc⟩, xq, xd⟩ := x
        obtain ⟨hxn, hle⟩ := hI
        dsimp only at hxn
        subst hxn
        have hlt : xn < (stQ t.kind l (l.length - 1)).length := (List.getElem?_eq_some_iff.1 hv).1
        have hv01 := stQ_01 htk hv
        have hsl := stS_len (stQ_len t.kind l (l.length - 1)) (n := xn)
        refine VC.seq ?_
        refine VC.reg (VO.l (LO.as (.r rfl)) rfl <| VO.nil ?_)
        refine VE.seqN ?_
        refine VC.reg (VO.l (LO.as (.r rfl)) rfl <| VO.nil ?_)
        exact fun a w ha hw => ⟨rfl, ha.sub (.cons rfl (.cons rfl (.cons rfl .nil))), hw⟩
      ·
        intro n x vs lY T w1 hI hxs hst
        obtain ⟨v, rfl, hv⟩ := pair_of hxs
        obtain ⟨xn, ⟨xp, xc⟩, xq, xd⟩ := x
        obtain ⟨hxn, hle⟩ := hI
        dsimp only at hxn
        subst hxn
        have hlt : xn < (stQ t.kind l (l.length - 1)).length := (List.getElem?_eq_some_iff.1 hv).1
        have hv01 := stQ_01 htk hv
        have hsl := stS_len (stQ_len t.kind l (l.length - 1)) (n := xn)
        refine VC.block ?_
        rcases hv01 with hv0 | hv0
        ·
          refine VC.reg (VO.l (LO.mv (.r rfl)) rfl <| VO.l (LO.mv (.r rfl)) rfl <| VO.l (LO.ixa (j := 0) (r := 0) Try.underlying105 N55 (.r rfl) (.r rfl) hv0 (by decide) rfl) rfl <| VO.l (LO.ld O55 (.r rfl) (fun _ hw => cells_at hw 2 rfl ⟨_, rfl⟩)) rfl <| VO.l (LO.mv (.r rfl)) rfl <| VO.h rfl <| HO.bs (ps := [(_, _)]) (vs := [(_, _)]) (Z := [_]) (C := [_]) S55 Z3 N3 ⟨(.r rfl), trivial⟩ rfl rfl rfl rfl ⟨_, [_], [_], rfl, rfl, rfl, rfl, rfl⟩ fun b71 => VO.h rfl <| HO.appT (v.2) 1 0 (fun R => [_, R, _, _, _, _, _, _, _, _] ++ T) S55 S55 I3 (.r rfl) (.r rfl) rfl rfl rfl rfl rfl rfl rfl (fun _ => rfl) rfl (by dsimp only; omega) fun p6 c6 => VO.l (LO.ixa (j := 0) (r := 0) Try.underlying105 N55 (.r rfl) (.r rfl) hv0 (by decide) rfl) rfl <| VO.h0 <| HO.st 3 (vs := [_]) (C' := [_, _]) N55 rfl rfl rfl rfl rfl rfl rfl rfl <| VO.nil ?_)
          refine VE.inN ?_
          first
          | exact fun a w ha hw => ⟨(xn + 1, (p6, c6), (xq, xd)), ⟨rfl, by omega⟩, hw.tl.eqL (by dsimp only; rw [stS_yes hv hv0, stS_no (w := 1) hv (by omega)]; rfl)⟩
          | exact fun a w ha hw => ⟨(xn + 1, (xp, xc), (p6, c6)), ⟨rfl, by omega⟩, hw.tl.eqL (by dsimp only; rw [stS_yes hv hv0, stS_no (w := 0) hv (by omega)]; rfl)⟩
        ·
          refine VC.reg (VO.l (LO.mv (.r rfl)) rfl <| VO.l (LO.mv (.r rfl)) rfl <| VO.l (LO.ixa (j := 1) (r := 1) Try.underlying105 N55 (.r rfl) (.r rfl) hv0 (by decide) rfl) rfl <| VO.l (LO.ld O55 (.r rfl) (fun _ hw => cells_at hw 2 rfl ⟨_, rfl⟩)) rfl <| VO.l (LO.mv (.r rfl)) rfl <| VO.h rfl <| HO.bs (ps := [(_, _)]) (vs := [(_, _)]) (Z := [_]) (C := [_]) S55 Z3 N3 ⟨(.r rfl), trivial⟩ rfl rfl rfl rfl ⟨_, [_], [_], rfl, rfl, rfl, rfl, rfl⟩ fun b73 => VO.h rfl <| HO.appT (v.2) 2 0 (fun R => [_, _, R, _, _, _, _, _, _, _] ++ T) S55 S55 I3 (.r rfl) (.r rfl) rfl rfl rfl rfl rfl rfl rfl (fun _ => rfl) rfl (by dsimp only; omega) fun p6 c6 => VO.l (LO.ixa (j := 1) (r := 1) Try.underlying105 N55 (.r rfl) (.r rfl) hv0 (by decide) rfl) rfl <| VO.h0 <| HO.st 3 (vs := [_]) (C' := [_, _]) N55 rfl rfl rfl rfl rfl rfl rfl rfl <| VO.nil ?_)
          refine VE.inN ?_
          first
          | exact fun a w ha hw => ⟨(xn + 1, (p6, c6), (xq, xd)), ⟨rfl, by omega⟩, hw.tl.eqL (by dsimp only; rw [stS_yes hv hv0, stS_no (w := 1) hv (by omega)]; rfl)⟩
          | exact fun a w ha hw => ⟨(xn + 1, (xp, xc), (p6, c6)), ⟨rfl, by omega⟩, hw.tl.eqL (by dsimp only; rw [stS_yes hv hv0, stS_no (w := 0) hv (by omega)]; rfl)⟩
      ·
        intro D x hI
        obtain ⟨xn, ⟨xp, xc⟩, xq, xd⟩ := x
        obtain ⟨hxn, hle⟩ := hI
        have hxn : xn = (stQ t.kind l (l.length - 1)).length := by simpa [List.length_map] using hxn
        subst hxn
        dsimp only
        rw [List.take_length, stS_all 0 (by decide), stS_all 1 (by decide)]
        have l0 := stL_len t.kind l 0
        have l1 := stL_len t.kind l 1
        have s0T := stL_inT t.kind l 0
        have s1T := stL_inT t.kind l 1
        have w0 := wid_bd s0T
        have w1 := wid_bd s1T
        have e0 := arcR_bd s0T
        have e1 := arcR_bd s1T
        have tT := turnL_inT l
        have eT := arcR_bd tT
        have tlen : (turnL l).length = l.length := List.length_map ..
        have m0 : 0 ≤ arcSum (stL t.kind l 0) ∧ arcSum (stL t.kind l 0) ≤ 131070 * ((stL t.kind l 0).length : Int) := arcT_bd _ (by omega) (by omega)
        have m1 : 0 ≤ arcSum (stL t.kind l 1) ∧ arcSum (stL t.kind l 1) ≤ 131070 * ((stL t.kind l 1).length : Int) := arcT_bd _ (by omega) (by omega)
        have mT : 0 ≤ arcSum (turnL l) ∧ arcSum (turnL l) ≤ 131070 * ((turnL l).length : Int) := arcT_bd _ (by omega) (by omega)
        skip
        refine VE.inN (VE.seqN ?_)
        refine VC.seq ?_
        refine VC.reg (VO.l (LO.as (.r rfl)) rfl <| VO.nil ?_)
        refine VE.seqN ?_
        refine VC.seq ?_
        refine VC.seq ?_
        refine VC.reg (VO.l (LO.mv (.r rfl)) rfl <| VO.l (LO.len S28 (.r rfl) rfl) rfl <| VO.l (LO.mv (.r rfl)) rfl <| VO.nil ?_)
        refine VE.seqN ?_
        refine VC.block ?_
        refine VC.loopK (α := Nat × (List Int) × (Option Addr) × Nat) 0 (fun gx => [(15, .slice gx.2.2.1 gx.2.1.length gx.2.2.2), (130, .int .i64 (gx.1 : Nat))]) [(3, _), (4, _), (6, _), (11, _), (12, _), (128, _), (129, _)] (fun gx => [own 3 1 gx.2.2.1 gx.2.2.2 (gx.2.1.map intC)]) (fun gx => gx.1 ≤ l.length ∧ gx.2.1 = turnL (l.take gx.1)) (fun gx => l.length - gx.1) (0, [], none, 0) (by exact ⟨Nat.zero_le _, rfl⟩) (.cons rfl (.cons rfl (.cons rfl (.cons rfl (.cons rfl (.cons rfl (.cons rfl (.cons rfl (.cons rfl .nil))))))))) (fun _ h => (h.ownNil 3 1)) ?_
        rintro ⟨j, tl, pt, ct⟩ ⟨hj, hTl⟩
        show VC _ _ _ _ _ ([(15, .slice pt tl.length ct), (130, .int .i64 (j : Nat))] ++ _) ([own 3 1 pt ct (tl.map intC)] ++ _) _ _
        dsimp only at hj hTl
        have htl : tl.length = j := by rw [hTl]; simp [turnL]; omega
        refine VC.seq ?_
        refine VC.reg (VO.l (LO.lt (.r rfl) (.r rfl)) rfl <| VO.nil ?_)
        refine VE.seqN ?_
        refine VC.seq ?_
        refine VC.cond rfl (fun h3 => ?_) (fun h3 => ?_)
        ·
          refine VC.skip (VE.seqN ?_)
          refine VC.seq ?_
          refine VC.block ?_
          refine VC.seq ?_
          refine VC.reg (VO.l (LO.ixs S28 N44 hl.sm (.r rfl) (.r rfl) rfl (by omega)) rfl <| VO.l (LO.lda (vs := [_, _, _, _]) A44 (.r rfl) (fun w hw => cells_part (off := 0) ((hl.at zSm (j := j) (by omega)) w hw) ⟨_, rfl⟩) rfl) rfl <| VO.h rfl <| HO.alloc (C := #[_, _, _, _]) Z44 rfl fun b100 => VO.h0 <| HO.st 0 (vs := [_, _, _, _]) (C' := [_, _, _, _]) N44 rfl rfl rfl rfl rfl rfl rfl rfl <| VO.nil ?_)
          refine VE.seqN ?_
          have q1 := hs _ (getD_mem (d := zSm) (show j < l.length by omega))
          unfold smpOk at q1
          refine VC.reg (VO.l (LO.mv (.r rfl)) rfl <| VO.l (LO.fa (r := 3) F44_3 (.r rfl) rfl) rfl <| VO.l (LO.ld O3 (.r rfl) (fun _ hw => cells_at hw 0 rfl ⟨_, rfl⟩)) rfl <| VO.l (LO.fa (r := 1) F44_1 (.r rfl) rfl) rfl <| VO.l (LO.ld O3 (.r rfl) (fun _ hw => cells_at hw 0 rfl ⟨_, rfl⟩)) rfl <| VO.l (LO.sub (.r rfl) (.r rfl) (wi (by omega) (by omega))) rfl <| VO.l (LO.call (xs := [_]) (vs := [_]) C46 ⟨(.r rfl), trivial⟩ (fun w _ => wrap_c _ w)) rfl <| VO.h rfl <| HO.bs (ps := [(_, _)]) (vs := [(_, _)]) (Z := [_]) (C := [_]) S55 Z3 N3 ⟨(.r rfl), trivial⟩ rfl rfl rfl rfl ⟨_, [_], [_], rfl, rfl, rfl, rfl, rfl⟩ fun b102 => VO.h rfl <| HO.appT ((wr ((l.getD j zSm).q - (l.getD j zSm).p))) 2 0 (fun R => [_, _, R, _, _, _, _, _, _, _, _, _, _]) S55 S55 I3 (.r rfl) (.r rfl) rfl rfl rfl rfl rfl rfl rfl (fun _ => rfl) rfl (by omega) fun p8 c8 => VO.h rfl <| HO.lo (LO.as (.r rfl)) <| VO.nil ?_)
          refine VE.inN (VE.seqN ?_)
          refine VC.reg (VO.l (LO.add (.r rfl) (.r rfl) (wi (by omega) (by omega))) rfl <| VO.l (LO.mv (.r rfl)) rfl <| VO.nil ?_)
          refine VE.thenN fun a w ha hw => ⟨(j + 1, tl ++ [wr ((l.getD j zSm).q - (l.getD j zSm).p)], p8, c8), ⟨by dsimp only; omega, by dsimp only; rw [turn_step (by omega), hTl]⟩, (by dsimp only; omega), ha.sub (.cons rfl (.cons rfl (.cons rfl (.cons rfl (.cons rfl (.cons rfl (.cons rfl (.cons rfl (.cons rfl .nil))))))))), hw.sel [2, 3, 4, 5, 6, 7, 8, 9, 10, 11, 12] rfl⟩
        ·
          refine VC.exit (VE.thenX (VE.thenX (VE.inX (VE.seqN ?_))))
          refine VC.seq ?_
          have hj2 : j = l.length := by omega
          subst hj2
          rw [List.take_length] at hTl
          subst hTl
          refine VC.reg (VO.l (LO.fa (r := 0) F32_0 (.r rfl) rfl) rfl <| VO.h0 <| HO.st 6 (vs := [_]) (C' := [_, _, _, _, _, _, _, _, _, _, _, _, _, _]) N3 rfl rfl rfl rfl rfl rfl rfl rfl <| VO.nil ?_)
          refine VE.seqN ?_
          refine VC.seq ?_
          refine VC.reg (VO.h rfl <| HO.alloc (C := #[_, _, _, _, _, _, _, _]) Z129 rfl fun b104 => VO.nil ?_)
          refine VE.seqN ?_
          refine VC.seq ?_
          refine VC.reg (VO.l (LO.mv (.r rfl)) rfl <| VO.l (LO.call (xs := [_]) (vs := [_]) C60 ⟨(.r rfl), trivial⟩ (fun w hw => arcOf_c (turnL l) _ _ w (by omega) (RO.of_own hw 1 rfl) tT)) rfl <| VO.h rfl <| HO.alloc (C := #[_, _, _, _]) Z112 rfl fun b105 => VO.h0 <| HO.st 0 (vs := [_, _, _, _]) (C' := [_, _, _, _]) N112 rfl rfl rfl rfl rfl rfl rfl rfl <| VO.nil ?_)
          refine VE.seqN ?_
          refine VC.seq ?_
          refine VC.reg (VO.l (LO.lda (vs := [_, _, _, _]) A112 (.r rfl) (fun _ hw => cells_at hw 0 rfl ⟨_, rfl⟩) rfl) rfl <| VO.l (LO.fa (r := 1) F27_1 (.r rfl) rfl) rfl <| VO.l (LO.ld O3 (.r rfl) (fun _ hw => cells_at hw 10 rfl ⟨_, rfl⟩)) rfl <| VO.l (LO.call (xs := [_, _]) (vs := [_, _]) C77 ⟨(.r rfl), (.r rfl), trivial⟩ (fun w _ => tog_c _ _ _ _ _ w (by omega) (by omega) (by omega) (by omega))) rfl <| VO.l (LO.as (.r rfl)) rfl <| VO.nil ?_)
          refine VE.seqN ?_
          refine VC.seq ?_
          refine VC.seq ?_
          refine VC.reg (VO.l (LO.lda (vs := [_, _]) A105 (.r rfl) (fun _ hw => cells_at hw 5 rfl ⟨_, rfl⟩) rfl) rfl <| VO.l (LO.mv (.r rfl)) rfl <| VO.nil ?_)
          refine VE.seqN ?_
          refine VC.block ?_
          refine VC.perm [1, 8, 0, 2, 3, 4, 5, 6, 7, 9, 10, 11, 12] rfl ?_
          refine VC.loopK (α := Nat × Bool × Int × Int × Int × Int × Int × Int × Int × Int × Int) 2 (fun gx => [(20, .bool gx.2.1), (152, .int .i64 (gx.1 : Nat))]) [(3, _), (4, _), (6, _), (11, _), (18, _), (19, _), (151, _)] (fun gx => [blk b104 (.cells #[.int .i64 gx.2.2.2.1, .int .i64 gx.2.2.2.2.1, .int .i64 gx.2.2.2.2.2.1, .int .i64 gx.2.2.2.2.2.2.1, .int .i64 gx.2.2.2.2.2.2.2.1, .int .i64 gx.2.2.2.2.2.2.2.2.1, .int .i64 gx.2.2.2.2.2.2.2.2.2.1, .int .i64 gx.2.2.2.2.2.2.2.2.2.2] 129), blk b13 (.cells #[.int .i64 2, .int .i64 (pow0 r l).lo, .int .i64 (pow0 r l).hi, .int .i64 0, .int .i64 0, .int .i64 0, .int .i64 0, .int .i64 gx.2.2.1, .int .i64 (ratioS (pow0 r l) (pow1 r l)).lo, .int .i64 (ratioS (pow0 r l) (pow1 r l)).hi, .int .i64 (mtchS r l).lo, .int .i64 (mtchS r l).hi, .int .i64 0, .int .i64 0] 32)]) (fun gx => (gx.1 = 0 ∧ gx.2.1 = (togT (turnL l) r.phase) ∧ gx.2.2.1 = 0 ∧ gx.2.2.2.1 = 0 ∧ gx.2.2.2.2.1 = 0 ∧ gx.2.2.2.2.2.1 = 0 ∧ gx.2.2.2.2.2.2.1 = 0 ∧ gx.2.2.2.2.2.2.2.1 = 0 ∧ gx.2.2.2.2.2.2.2.2.1 = 0 ∧ gx.2.2.2.2.2.2.2.2.2.1 = 0 ∧ gx.2.2.2.2.2.2.2.2.2.2 = 0) ∨ (gx.1 = 1 ∧ gx.2.1 = ((togT (turnL l) r.phase) && (togV (stL t.kind l 0) r.phase)) ∧ gx.2.2.1 = (max 0 (wid (stL t.kind l 0))) ∧ gx.2.2.2.1 = (arcR (stL t.kind l 0)).1 ∧ gx.2.2.2.2.1 = (wid (stL t.kind l 0)) ∧ gx.2.2.2.2.2.1 = (arcSum (stL t.kind l 0)) ∧ gx.2.2.2.2.2.2.1 = ((stL t.kind l 0).length : Int) ∧ gx.2.2.2.2.2.2.2.1 = 0 ∧ gx.2.2.2.2.2.2.2.2.1 = 0 ∧ gx.2.2.2.2.2.2.2.2.2.1 = 0 ∧ gx.2.2.2.2.2.2.2.2.2.2 = 0) ∨ (gx.1 = 2 ∧ gx.2.1 = (((togT (turnL l) r.phase) && (togV (stL t.kind l 0) r.phase)) && (togV (stL t.kind l 1) r.phase)) ∧ gx.2.2.1 = (max (max 0 (wid (stL t.kind l 0))) (wid (stL t.kind l 1))) ∧ gx.2.2.2.1 = (arcR (stL t.kind l 0)).1 ∧ gx.2.2.2.2.1 = (wid (stL t.kind l 0)) ∧ gx.2.2.2.2.2.1 = (arcSum (stL t.kind l 0)) ∧ gx.2.2.2.2.2.2.1 = ((stL t.kind l 0).length : Int) ∧ gx.2.2.2.2.2.2.2.1 = (arcR (stL t.kind l 1)).1 ∧ gx.2.2.2.2.2.2.2.2.1 = (wid (stL t.kind l 1)) ∧ gx.2.2.2.2.2.2.2.2.2.1 = (arcSum (stL t.kind l 1)) ∧ gx.2.2.2.2.2.2.2.2.2.2 = ((stL t.kind l 1).length : Int))) (fun gx => 2 - gx.1) (0, (togT (turnL l) r.phase), 0, 0, 0, 0, 0, 0, 0, 0, 0) (by exact .inl ⟨rfl, rfl, rfl, rfl, rfl, rfl, rfl, rfl, rfl, rfl, rfl⟩) (.cons rfl (.cons rfl (.cons rfl (.cons rfl (.cons rfl (.cons rfl (.cons rfl (.cons rfl (.cons rfl .nil))))))))) (fun _ h => h) ?_
          rintro ⟨i, gd, spr, x00, x01, x02, x03, x10, x11, x12, x13⟩ hI
          show VC _ _ _ _ _ ([(20, .bool gd), (152, .int .i64 (i : Nat))] ++ _) ([blk b104 (.cells #[.int .i64 x00, .int .i64 x01, .int .i64 x02, .int .i64 x03, .int .i64 x10, .int .i64 x11, .int .i64 x12, .int .i64 x13] 129), blk b13 (.cells #[.int .i64 2, .int .i64 (pow0 r l).lo, .int .i64 (pow0 r l).hi, .int .i64 0, .int .i64 0, .int .i64 0, .int .i64 0, .int .i64 spr, .int .i64 (ratioS (pow0 r l) (pow1 r l)).lo, .int .i64 (ratioS (pow0 r l) (pow1 r l)).hi, .int .i64 (mtchS r l).lo, .int .i64 (mtchS r l).hi, .int .i64 0, .int .i64 0] 32)] ++ _) _ _
          dsimp only at hI
          refine VC.seq ?_
          refine VC.reg (VO.l (LO.lt (.r rfl) (.r rfl)) rfl <| VO.nil ?_)
          refine VE.seqN ?_
          refine VC.seq ?_
          refine VC.cond rfl (fun h4 => ?_) (fun h4 => ?_)
          ·
            refine VC.skip (VE.seqN ?_)
            refine VC.seq ?_
            refine VC.block ?_
            refine VC.seq ?_
            rcases hI with ⟨rfl, rfl, rfl, rfl, rfl, rfl, rfl, rfl, rfl, rfl, rfl⟩ | ⟨rfl, rfl, rfl, rfl, rfl, rfl, rfl, rfl, rfl, rfl, rfl⟩ | ⟨q, _⟩
            ·
              refine VC.reg (VO.l (LO.mv (.r rfl)) rfl <| VO.l (LO.ixv (j := 0) Try.underlying105 O55 (.r rfl) (.r rfl) rfl (by decide) rfl) rfl <| VO.l (LO.as (.r rfl)) rfl <| VO.l (LO.as (.r rfl)) rfl <| VO.nil ?_)
              refine VE.seqN ?_
              refine VC.seq ?_
              refine VC.seq ?_
              refine VC.reg (VO.l (LO.mv (.r rfl)) rfl <| VO.l (LO.len S55 (.r rfl) rfl) rfl <| VO.l (LO.gt (.r rfl) (.r rfl)) rfl <| VO.nil ?_)
              refine VE.seqN ?_
              refine VC.cond rfl (fun h158 => ?_) (fun h158 => ?_)
              ·
                refine VC.reg (VO.l (LO.mv (.r rfl)) rfl <| VO.l (LO.mv (.r rfl)) rfl <| VO.l (LO.call (xs := [_]) (vs := [_]) C60 ⟨(.r rfl), trivial⟩ (fun w hw => arcOf_c (stL t.kind l 0) _ _ w (by omega) (RO.of_own hw 4 rfl) s0T)) rfl <| VO.l (LO.ixa (j := 0) (r := 0) Try.underlying129 N112 (.r rfl) (.r rfl) rfl (by decide) rfl) rfl <| VO.h0 <| HO.st 0 (vs := [_, _, _, _]) (C' := [_, _, _, _, _, _, _, _]) N112 rfl rfl rfl rfl rfl rfl rfl rfl <| VO.nil ?_)
                refine VE.seqN ?_
                refine VC.seq ?_
                refine VC.drawH [[0, 1, 2, 3, 4, 5, 6, 7, 8, 9, 10, 11, 12], [0, 2, 3, 4, 5, 6, 7, 8, 9, 10, 11, 12]] [some 0, some 0, some 0, some 0, some 0, some 0, some 0, some 0, none] mixed (by kernel_rfl) rfl (LX.l (fun _ hJ => LO.fa (r := 7) F32_3 (.r rfl) rfl) rfl <| LX.l (fun _ hJ => LO.ld O3 (.r rfl) (fun _ hw => cells_at (hJ _ hw) 1 rfl ⟨_, rfl⟩)) rfl <| LX.l (fun _ hJ => LO.mv (.r rfl)) rfl <| LX.l (fun _ hJ => LO.ixa (j := 0) (r := 0) Try.underlying129 N112 (.r rfl) (.r rfl) rfl (by decide) rfl) rfl <| LX.l (fun _ hJ => LO.fa (r := 1) F112_1 (.r rfl) rfl) rfl <| LX.l (fun _ hJ => LO.ld O3 (.r rfl) (fun _ hw => cells_at (hJ _ hw) 0 rfl ⟨_, rfl⟩)) rfl <| LX.l (fun _ hJ => LO.max (.r rfl) (.r rfl)) rfl <| LX.l (fun _ hJ => LO.fa (r := 7) F32_3 (.r rfl) rfl) rfl <| LX.s <| LX.nil) (HX.s <| HX.s <| HX.s <| HX.s <| HX.s <| HX.s <| HX.s <| HX.s <| HX.h0 <| HO.st 1 (vs := [_]) (C' := [_, _, _, _, _, _, _, _, _, _, _, _, _, _]) N3 rfl rfl rfl rfl rfl rfl rfl rfl <| ⟨selJ (L1 := [_, _, _, _, _, _, _, _, _, _, _, _]) [0, 2, 3, 4, 5, 6, 7, 8, 9, 10, 11, 12] rfl rfl rfl, HX.nil ?_⟩)
                refine VE.seqN ?_
                refine VC.draw mixed (LL.l (LO.mv (.r rfl)) rfl <| LL.l (LO.mv (.r rfl)) rfl <| LL.lg rfl rfl (GD.t _) (fun hg => LO.mv (.r rfl)) rfl <| LL.lg rfl rfl (GD.t _) (fun hg => LO.ixa (j := 0) (r := 0) Try.underlying129 N112 (.r rfl) (.g hg rfl) rfl (by decide) rfl) rfl <| LL.lg rfl rfl (GD.t _) (fun hg => LO.lda (vs := [_, _, _, _]) A112 (.g hg rfl) (fun _ hw => cells_at hw 0 rfl ⟨_, rfl⟩) rfl) rfl <| LL.lg rfl rfl (GD.t _) (fun hg => LO.fa (r := 1) F27_1 (.r rfl) rfl) rfl <| LL.lg rfl rfl (GD.t _) (fun hg => LO.ld O3 (.g hg rfl) (fun _ hw => cells_at hw 10 rfl ⟨_, rfl⟩)) rfl <| LL.lg rfl rfl (GD.t _) (fun hg => LO.call (xs := [_, _]) (vs := [_, _]) C77 ⟨(.g hg rfl), (.g hg rfl), trivial⟩ (fun w _ => tog_c _ _ _ _ _ w (by omega) (by omega) (by omega) (by omega))) rfl <| LL.l (LO.pkA (.r rfl) rfl rfl (.r rfl)) rfl <| LL.l (LO.as (.r rfl)) rfl <| LL.nil) (by kernel_rfl) ?_
                refine VE.inN (VE.seqN ?_)
                refine VC.reg (VO.l (LO.add (.r rfl) (.r rfl) (wi (by omega) (by omega))) rfl <| VO.l (LO.mv (.r rfl)) rfl <| VO.nil ?_)
                refine VE.thenN fun a w ha hw => ⟨((0 + 1), ((togT (turnL l) r.phase) && (togV (stL t.kind l 0) r.phase)), (max 0 (wid (stL t.kind l 0))), (arcR (stL t.kind l 0)).1, (wid (stL t.kind l 0)), (arcSum (stL t.kind l 0)), ((stL t.kind l 0).length : Int), 0, 0, 0, 0), (by first | exact .inr (.inl ⟨rfl, rfl, rfl, rfl, rfl, rfl, rfl, rfl, rfl, rfl, rfl⟩) | exact .inr (.inr ⟨rfl, rfl, rfl, rfl, rfl, rfl, rfl, rfl, rfl, rfl, rfl⟩)), (by dsimp only; omega), ha.sub (.cons (by first | exact tgA h158 | exact tgB h158) (.cons rfl (.cons rfl (.cons rfl (.cons rfl (.cons rfl (.cons rfl (.cons rfl (.cons rfl .nil))))))))), (hw).eqL (by dsimp only; first | (rw [wid_pos h158]; rfl) | (rw [wid_neg h158, arc_neg h158, sum_neg h158, len_neg h158]; rfl))⟩
              ·
                refine VC.skip (VE.seqN ?_)
                refine VC.seq ?_
                refine VC.drawH [[0, 1, 2, 3, 4, 5, 6, 7, 8, 9, 10, 11, 12], [0, 2, 3, 4, 5, 6, 7, 8, 9, 10, 11, 12]] [some 0, some 0, some 0, some 0, some 0, some 0, some 0, some 0, none] mixed (by kernel_rfl) rfl (LX.l (fun _ hJ => LO.fa (r := 7) F32_3 (.r rfl) rfl) rfl <| LX.l (fun _ hJ => LO.ld O3 (.r rfl) (fun _ hw => cells_at (hJ _ hw) 1 rfl ⟨_, rfl⟩)) rfl <| LX.l (fun _ hJ => LO.mv (.r rfl)) rfl <| LX.l (fun _ hJ => LO.ixa (j := 0) (r := 0) Try.underlying129 N112 (.r rfl) (.r rfl) rfl (by decide) rfl) rfl <| LX.l (fun _ hJ => LO.fa (r := 1) F112_1 (.r rfl) rfl) rfl <| LX.l (fun _ hJ => LO.ld O3 (.r rfl) (fun _ hw => cells_at (hJ _ hw) 0 rfl ⟨_, rfl⟩)) rfl <| LX.l (fun _ hJ => LO.max (.r rfl) (.r rfl)) rfl <| LX.l (fun _ hJ => LO.fa (r := 7) F32_3 (.r rfl) rfl) rfl <| LX.s <| LX.nil) (HX.s <| HX.s <| HX.s <| HX.s <| HX.s <| HX.s <| HX.s <| HX.s <| HX.h0 <| HO.st 1 (vs := [_]) (C' := [_, _, _, _, _, _, _, _, _, _, _, _, _, _]) N3 rfl rfl rfl rfl rfl rfl rfl rfl <| ⟨selJ (L1 := [_, _, _, _, _, _, _, _, _, _, _, _]) [0, 2, 3, 4, 5, 6, 7, 8, 9, 10, 11, 12] rfl rfl rfl, HX.nil ?_⟩)
                refine VE.seqN ?_
                refine VC.draw mixed (LL.l (LO.mv (.r rfl)) rfl <| LL.l (LO.mv (.r rfl)) rfl <| LL.lg rfl rfl (GD.t _) (fun hg => LO.mv (.r rfl)) rfl <| LL.lg rfl rfl (GD.t _) (fun hg => LO.ixa (j := 0) (r := 0) Try.underlying129 N112 (.r rfl) (.g hg rfl) rfl (by decide) rfl) rfl <| LL.lg rfl rfl (GD.t _) (fun hg => LO.lda (vs := [_, _, _, _]) A112 (.g hg rfl) (fun _ hw => cells_at hw 0 rfl ⟨_, rfl⟩) rfl) rfl <| LL.lg rfl rfl (GD.t _) (fun hg => LO.fa (r := 1) F27_1 (.r rfl) rfl) rfl <| LL.lg rfl rfl (GD.t _) (fun hg => LO.ld O3 (.g hg rfl) (fun _ hw => cells_at hw 10 rfl ⟨_, rfl⟩)) rfl <| LL.lg rfl rfl (GD.t _) (fun hg => LO.call (xs := [_, _]) (vs := [_, _]) C77 ⟨(.g hg rfl), (.g hg rfl), trivial⟩ (fun w _ => tog_c _ _ _ _ _ w (by omega) (by omega) (by omega) (by omega))) rfl <| LL.l (LO.pkA (.r rfl) rfl rfl (.r rfl)) rfl <| LL.l (LO.as (.r rfl)) rfl <| LL.nil) (by kernel_rfl) ?_
                refine VE.inN (VE.seqN ?_)
                refine VC.reg (VO.l (LO.add (.r rfl) (.r rfl) (wi (by omega) (by omega))) rfl <| VO.l (LO.mv (.r rfl)) rfl <| VO.nil ?_)
                refine VE.thenN fun a w ha hw => ⟨((0 + 1), ((togT (turnL l) r.phase) && (togV (stL t.kind l 0) r.phase)), (max 0 (wid (stL t.kind l 0))), (arcR (stL t.kind l 0)).1, (wid (stL t.kind l 0)), (arcSum (stL t.kind l 0)), ((stL t.kind l 0).length : Int), 0, 0, 0, 0), (by first | exact .inr (.inl ⟨rfl, rfl, rfl, rfl, rfl, rfl, rfl, rfl, rfl, rfl, rfl⟩) | exact .inr (.inr ⟨rfl, rfl, rfl, rfl, rfl, rfl, rfl, rfl, rfl, rfl, rfl⟩)), (by dsimp only; omega), ha.sub (.cons (by first | exact tgA h158 | exact tgB h158) (.cons rfl (.cons rfl (.cons rfl (.cons rfl (.cons rfl (.cons rfl (.cons rfl (.cons rfl .nil))))))))), (hw).eqL (by dsimp only; first | (rw [wid_pos h158]; rfl) | (rw [wid_neg h158, arc_neg h158, sum_neg h158, len_neg h158]; rfl))⟩
            ·
              refine VC.reg (VO.l (LO.mv (.r rfl)) rfl <| VO.l (LO.ixv (j := 1) Try.underlying105 O55 (.r rfl) (.r rfl) rfl (by decide) rfl) rfl <| VO.l (LO.as (.r rfl)) rfl <| VO.l (LO.as (.r rfl)) rfl <| VO.nil ?_)
              refine VE.seqN ?_
              refine VC.seq ?_
              refine VC.seq ?_
              refine VC.reg (VO.l (LO.mv (.r rfl)) rfl <| VO.l (LO.len S55 (.r rfl) rfl) rfl <| VO.l (LO.gt (.r rfl) (.r rfl)) rfl <| VO.nil ?_)
              refine VE.seqN ?_
              refine VC.cond rfl (fun h158 => ?_) (fun h158 => ?_)
              ·
                refine VC.reg (VO.l (LO.mv (.r rfl)) rfl <| VO.l (LO.mv (.r rfl)) rfl <| VO.l (LO.call (xs := [_]) (vs := [_]) C60 ⟨(.r rfl), trivial⟩ (fun w hw => arcOf_c (stL t.kind l 1) _ _ w (by omega) (RO.of_own hw 5 rfl) s1T)) rfl <| VO.l (LO.ixa (j := 1) (r := 4) Try.underlying129 N112 (.r rfl) (.r rfl) rfl (by decide) rfl) rfl <| VO.h0 <| HO.st 0 (vs := [_, _, _, _]) (C' := [_, _, _, _, _, _, _, _]) N112 rfl rfl rfl rfl rfl rfl rfl rfl <| VO.nil ?_)
                refine VE.seqN ?_
                refine VC.seq ?_
                refine VC.drawH [[0, 1, 2, 3, 4, 5, 6, 7, 8, 9, 10, 11, 12], [0, 2, 3, 4, 5, 6, 7, 8, 9, 10, 11, 12]] [some 0, some 0, some 0, some 0, some 0, some 0, some 0, some 0, none] mixed (by kernel_rfl) rfl (LX.l (fun _ hJ => LO.fa (r := 7) F32_3 (.r rfl) rfl) rfl <| LX.l (fun _ hJ => LO.ld O3 (.r rfl) (fun _ hw => cells_at (hJ _ hw) 1 rfl ⟨_, rfl⟩)) rfl <| LX.l (fun _ hJ => LO.mv (.r rfl)) rfl <| LX.l (fun _ hJ => LO.ixa (j := 1) (r := 4) Try.underlying129 N112 (.r rfl) (.r rfl) rfl (by decide) rfl) rfl <| LX.l (fun _ hJ => LO.fa (r := 5) F112_1 (.r rfl) rfl) rfl <| LX.l (fun _ hJ => LO.ld O3 (.r rfl) (fun _ hw => cells_at (hJ _ hw) 0 rfl ⟨_, rfl⟩)) rfl <| LX.l (fun _ hJ => LO.max (.r rfl) (.r rfl)) rfl <| LX.l (fun _ hJ => LO.fa (r := 7) F32_3 (.r rfl) rfl) rfl <| LX.s <| LX.nil) (HX.s <| HX.s <| HX.s <| HX.s <| HX.s <| HX.s <| HX.s <| HX.s <| HX.h0 <| HO.st 1 (vs := [_]) (C' := [_, _, _, _, _, _, _, _, _, _, _, _, _, _]) N3 rfl rfl rfl rfl rfl rfl rfl rfl <| ⟨selJ (L1 := [_, _, _, _, _, _, _, _, _, _, _, _]) [0, 2, 3, 4, 5, 6, 7, 8, 9, 10, 11, 12] rfl rfl rfl, HX.nil ?_⟩)
                refine VE.seqN ?_
                refine VC.draw mixed (LL.l (LO.mv (.r rfl)) rfl <| LL.l (LO.mv (.r rfl)) rfl <| LL.lg rfl rfl (GD.t _) (fun hg => LO.mv (.r rfl)) rfl <| LL.lg rfl rfl (GD.t _) (fun hg => LO.ixa (j := 1) (r := 4) Try.underlying129 N112 (.r rfl) (.g hg rfl) rfl (by decide) rfl) rfl <| LL.lg rfl rfl (GD.t _) (fun hg => LO.lda (vs := [_, _, _, _]) A112 (.g hg rfl) (fun _ hw => cells_at hw 0 rfl ⟨_, rfl⟩) rfl) rfl <| LL.lg rfl rfl (GD.t _) (fun hg => LO.fa (r := 1) F27_1 (.r rfl) rfl) rfl <| LL.lg rfl rfl (GD.t _) (fun hg => LO.ld O3 (.g hg rfl) (fun _ hw => cells_at hw 10 rfl ⟨_, rfl⟩)) rfl <| LL.lg rfl rfl (GD.t _) (fun hg => LO.call (xs := [_, _]) (vs := [_, _]) C77 ⟨(.g hg rfl), (.g hg rfl), trivial⟩ (fun w _ => tog_c _ _ _ _ _ w (by omega) (by omega) (by omega) (by omega))) rfl <| LL.l (LO.pkA (.r rfl) rfl rfl (.r rfl)) rfl <| LL.l (LO.as (.r rfl)) rfl <| LL.nil) (by kernel_rfl) ?_
                refine VE.inN (VE.seqN ?_)
                refine VC.reg (VO.l (LO.add (.r rfl) (.r rfl) (wi (by omega) (by omega))) rfl <| VO.l (LO.mv (.r rfl)) rfl <| VO.nil ?_)
                refine VE.thenN fun a w ha hw => ⟨((1 + 1), (((togT (turnL l) r.phase) && (togV (stL t.kind l 0) r.phase)) && (togV (stL t.kind l 1) r.phase)), (max (max 0 (wid (stL t.kind l 0))) (wid (stL t.kind l 1))), (arcR (stL t.kind l 0)).1, (wid (stL t.kind l 0)), (arcSum (stL t.kind l 0)), ((stL t.kind l 0).length : Int), (arcR (stL t.kind l 1)).1, (wid (stL t.kind l 1)), (arcSum (stL t.kind l 1)), ((stL t.kind l 1).length : Int)), (by first | exact .inr (.inl ⟨rfl, rfl, rfl, rfl, rfl, rfl, rfl, rfl, rfl, rfl, rfl⟩) | exact .inr (.inr ⟨rfl, rfl, rfl, rfl, rfl, rfl, rfl, rfl, rfl, rfl, rfl⟩)), (by dsimp only; omega), ha.sub (.cons (by first | exact tgA h158 | exact tgB h158) (.cons rfl (.cons rfl (.cons rfl (.cons rfl (.cons rfl (.cons rfl (.cons rfl (.cons rfl .nil))))))))), (hw).eqL (by dsimp only; first | (rw [wid_pos h158]; rfl) | (rw [wid_neg h158, arc_neg h158, sum_neg h158, len_neg h158]; rfl))⟩
              ·
                refine VC.skip (VE.seqN ?_)
                refine VC.seq ?_
                refine VC.drawH [[0, 1, 2, 3, 4, 5, 6, 7, 8, 9, 10, 11, 12], [0, 2, 3, 4, 5, 6, 7, 8, 9, 10, 11, 12]] [some 0, some 0, some 0, some 0, some 0, some 0, some 0, some 0, none] mixed (by kernel_rfl) rfl (LX.l (fun _ hJ => LO.fa (r := 7) F32_3 (.r rfl) rfl) rfl <| LX.l (fun _ hJ => LO.ld O3 (.r rfl) (fun _ hw => cells_at (hJ _ hw) 1 rfl ⟨_, rfl⟩)) rfl <| LX.l (fun _ hJ => LO.mv (.r rfl)) rfl <| LX.l (fun _ hJ => LO.ixa (j := 1) (r := 4) Try.underlying129 N112 (.r rfl) (.r rfl) rfl (by decide) rfl) rfl <| LX.l (fun _ hJ => LO.fa (r := 5) F112_1 (.r rfl) rfl) rfl <| LX.l (fun _ hJ => LO.ld O3 (.r rfl) (fun _ hw => cells_at (hJ _ hw) 0 rfl ⟨_, rfl⟩)) rfl <| LX.l (fun _ hJ => LO.max (.r rfl) (.r rfl)) rfl <| LX.l (fun _ hJ => LO.fa (r := 7) F32_3 (.r rfl) rfl) rfl <| LX.s <| LX.nil) (HX.s <| HX.s <| HX.s <| HX.s <| HX.s <| HX.s <| HX.s <| HX.s <| HX.h0 <| HO.st 1 (vs := [_]) (C' := [_, _, _, _, _, _, _, _, _, _, _, _, _, _]) N3 rfl rfl rfl rfl rfl rfl rfl rfl <| ⟨selJ (L1 := [_, _, _, _, _, _, _, _, _, _, _, _]) [0, 2, 3, 4, 5, 6, 7, 8, 9, 10, 11, 12] rfl rfl rfl, HX.nil ?_⟩)
                refine VE.seqN ?_
                refine VC.draw mixed (LL.l (LO.mv (.r rfl)) rfl <| LL.l (LO.mv (.r rfl)) rfl <| LL.lg rfl rfl (GD.t _) (fun hg => LO.mv (.r rfl)) rfl <| LL.lg rfl rfl (GD.t _) (fun hg => LO.ixa (j := 1) (r := 4) Try.underlying129 N112 (.r rfl) (.g hg rfl) rfl (by decide) rfl) rfl <| LL.lg rfl rfl (GD.t _) (fun hg => LO.lda (vs := [_, _, _, _]) A112 (.g hg rfl) (fun _ hw => cells_at hw 0 rfl ⟨_, rfl⟩) rfl) rfl <| LL.lg rfl rfl (GD.t _) (fun hg => LO.fa (r := 1) F27_1 (.r rfl) rfl) rfl <| LL.lg rfl rfl (GD.t _) (fun hg => LO.ld O3 (.g hg rfl) (fun _ hw => cells_at hw 10 rfl ⟨_, rfl⟩)) rfl <| LL.lg rfl rfl (GD.t _) (fun hg => LO.call (xs := [_, _]) (vs := [_, _]) C77 ⟨(.g hg rfl), (.g hg rfl), trivial⟩ (fun w _ => tog_c _ _ _ _ _ w (by omega) (by omega) (by omega) (by omega))) rfl <| LL.l (LO.pkA (.r rfl) rfl rfl (.r rfl)) rfl <| LL.l (LO.as (.r rfl)) rfl <| LL.nil) (by kernel_rfl) ?_
                refine VE.inN (VE.seqN ?_)
                refine VC.reg (VO.l (LO.add (.r rfl) (.r rfl) (wi (by omega) (by omega))) rfl <| VO.l (LO.mv (.r rfl)) rfl <| VO.nil ?_)
                refine VE.thenN fun a w ha hw => ⟨((1 + 1), (((togT (turnL l) r.phase) && (togV (stL t.kind l 0) r.phase)) && (togV (stL t.kind l 1) r.phase)), (max (max 0 (wid (stL t.kind l 0))) (wid (stL t.kind l 1))), (arcR (stL t.kind l 0)).1, (wid (stL t.kind l 0)), (arcSum (stL t.kind l 0)), ((stL t.kind l 0).length : Int), (arcR (stL t.kind l 1)).1, (wid (stL t.kind l 1)), (arcSum (stL t.kind l 1)), ((stL t.kind l 1).length : Int)), (by first | exact .inr (.inl ⟨rfl, rfl, rfl, rfl, rfl, rfl, rfl, rfl, rfl, rfl, rfl⟩) | exact .inr (.inr ⟨rfl, rfl, rfl, rfl, rfl, rfl, rfl, rfl, rfl, rfl, rfl⟩)), (by dsimp only; omega), ha.sub (.cons (by first | exact tgA h158 | exact tgB h158) (.cons rfl (.cons rfl (.cons rfl (.cons rfl (.cons rfl (.cons rfl (.cons rfl (.cons rfl .nil))))))))), (hw).eqL (by dsimp only; first | (rw [wid_pos h158]; rfl) | (rw [wid_neg h158, arc_neg h158, sum_neg h158, len_neg h158]; rfl))⟩
            ·
              (exfalso; omega)
          ·
            refine VC.exit (VE.thenX (VE.thenX (VE.inX (VE.seqN ?_))))
            refine VC.seq ?_
            refine VC.seq ?_
            rcases hI with ⟨q, _⟩ | ⟨q, _⟩ | ⟨rfl, rfl, rfl, rfl, rfl, rfl, rfl, rfl, rfl, rfl, rfl⟩
            · omega
            · omega
            refine VC.reg (VO.l (LO.mv (.r rfl)) rfl <| VO.l (LO.not (.r rfl)) rfl <| VO.nil ?_)
            refine VE.seqN ?_
            refine VC.cond rfl (fun h182 => ?_) (fun h182 => ?_)
            ·
              refine VC.seq ?_
              refine VC.reg (VO.l (LO.lda (vs := [_, _, _, _, _, _, _, _, _, _, _, _, _, _]) A32 (.r rfl) (fun _ hw => cells_at hw 1 rfl ⟨_, rfl⟩) rfl) rfl <| VO.h0 <| HO.st 9 (vs := [_, _, _, _, _, _, _, _, _, _, _, _, _, _]) (C' := [_, _, _, _, _, _, _, _, _, _, _, _, _, _]) N32 rfl rfl rfl rfl rfl rfl rfl rfl <| VO.nil ?_)
              refine VE.seqN ?_
              refine VC.ret (VE.thenR (VE.resD 12 (vs := [_]) rfl rfl rfl ⟨RV.agg (vs := [_, _, _, _, _, _, _, _, _, _, _, _, _, _]) A32 rfl (cells_blk 9 rfl ⟨_, rfl⟩) rfl, trivial⟩ (fun w hw => ?_)))
              refine ⟨?_, hw.nil⟩
              simp only [resV]
              first | (rw [hearX, if_pos hz]; rfl) | (rw [hearX, if_neg hz, if_pos (fun q => h182 (good_iff.1 q))]; rfl) | (rw [hearX, if_neg hz, if_neg (fun q => q (good_iff.2 (Classical.not_not.1 h182))), meanS_eq, meanS_eq, meanS_eq, ← tlen]; rfl)
            ·
              refine VC.skip (VE.seqN ?_)
              refine VC.seq ?_
              have z0 := prod_bd (x := 2 * r.phase) (y := ((turnL l).length : Int)) (A := 8192) (B := 64) (by omega) (by omega) (by omega) (by omega)
              have z1 := prod_bd (x := 2 * r.phase) (y := ((stL t.kind l 0).length : Int)) (A := 8192) (B := 64) (by omega) (by omega) (by omega) (by omega)
              have z2 := prod_bd (x := 2 * r.phase) (y := ((stL t.kind l 1).length : Int)) (A := 8192) (B := 64) (by omega) (by omega) (by omega) (by omega)
              refine VC.reg (VO.l (LO.fa (r := 0) F32_0 (.r rfl) rfl) rfl <| VO.h0 <| HO.st 1 (vs := [_]) (C' := [_, _, _, _, _, _, _, _, _, _, _, _, _, _]) N3 rfl rfl rfl rfl rfl rfl rfl rfl <| VO.nil ?_)
              refine VE.seqN ?_
              refine VC.seq ?_
              refine VC.reg (VO.l (LO.lda (vs := [_, _, _, _]) A112 (.r rfl) (fun _ hw => cells_at hw 2 rfl ⟨_, rfl⟩) rfl) rfl <| VO.l (LO.fa (r := 1) F27_1 (.r rfl) rfl) rfl <| VO.l (LO.ld O3 (.r rfl) (fun _ hw => cells_at hw 10 rfl ⟨_, rfl⟩)) rfl <| VO.l (LO.mul (.r rfl) (.r rfl) (wi (by omega) (by omega))) rfl <| VO.l (LO.fa (r := 3) F112_3 (.r rfl) rfl) rfl <| VO.l (LO.ld O3 (.r rfl) (fun _ hw => cells_at hw 2 rfl ⟨_, rfl⟩)) rfl <| VO.l (LO.mul (.r rfl) (.r rfl) (wi (by omega) (by omega))) rfl <| VO.l (LO.call (xs := [_, _]) (vs := [_, _]) C78 ⟨(.r rfl), (.r rfl), trivial⟩ (fun w _ => mean_c _ _ _ _ _ w (by omega) (by omega) (by omega) (by omega) (by omega) (by omega))) rfl <| VO.l (LO.fa (r := 12) F32_6 (.r rfl) rfl) rfl <| VO.h0 <| HO.st 1 (vs := [_, _]) (C' := [_, _, _, _, _, _, _, _, _, _, _, _, _, _]) N25 rfl rfl rfl rfl rfl rfl rfl rfl <| VO.nil ?_)
              refine VE.seqN ?_
              refine VC.seq ?_
              refine VC.seq ?_
              refine VC.reg (VO.l (LO.lda (vs := [_, _, _, _, _, _, _, _]) A129 (.r rfl) (fun _ hw => cells_at hw 0 rfl ⟨_, rfl⟩) rfl) rfl <| VO.l (LO.mv (.r rfl)) rfl <| VO.nil ?_)
              refine VE.seqN ?_
              refine VC.block ?_
              refine VC.perm [1, 0, 2, 3, 4, 5, 6, 7, 8, 9, 10, 11, 12] rfl ?_
              refine VC.loopK (α := Nat × Int × Int × Int × Int) 1 (fun gx => [(195, .int .i64 (gx.1 : Nat))]) [(3, _), (4, _), (6, _), (11, _), (194, _)] (fun gx => [blk b13 (.cells #[.int .i64 3, .int .i64 (pow0 r l).lo, .int .i64 (pow0 r l).hi, .int .i64 gx.2.1, .int .i64 gx.2.2.1, .int .i64 gx.2.2.2.1, .int .i64 gx.2.2.2.2, .int .i64 (max (max 0 (wid (stL t.kind l 0))) (wid (stL t.kind l 1))), .int .i64 (ratioS (pow0 r l) (pow1 r l)).lo, .int .i64 (ratioS (pow0 r l) (pow1 r l)).hi, .int .i64 (mtchS r l).lo, .int .i64 (mtchS r l).hi, .int .i64 (meanR (arcSum (turnL l)) ((turnL l).length : Int) (2 * r.phase * ((turnL l).length : Int))).lo, .int .i64 (meanR (arcSum (turnL l)) ((turnL l).length : Int) (2 * r.phase * ((turnL l).length : Int))).hi] 32)]) (fun gx => (gx.1 = 0 ∧ gx.2.1 = 0 ∧ gx.2.2.1 = 0 ∧ gx.2.2.2.1 = 0 ∧ gx.2.2.2.2 = 0) ∨ (gx.1 = 1 ∧ gx.2.1 = (meanR (arcSum (stL t.kind l 0)) ((stL t.kind l 0).length : Int) (slk t r (stL t.kind l 0))).lo ∧ gx.2.2.1 = (meanR (arcSum (stL t.kind l 0)) ((stL t.kind l 0).length : Int) (slk t r (stL t.kind l 0))).hi ∧ gx.2.2.2.1 = 0 ∧ gx.2.2.2.2 = 0) ∨ (gx.1 = 2 ∧ gx.2.1 = (meanR (arcSum (stL t.kind l 0)) ((stL t.kind l 0).length : Int) (slk t r (stL t.kind l 0))).lo ∧ gx.2.2.1 = (meanR (arcSum (stL t.kind l 0)) ((stL t.kind l 0).length : Int) (slk t r (stL t.kind l 0))).hi ∧ gx.2.2.2.1 = (meanR (arcSum (stL t.kind l 1)) ((stL t.kind l 1).length : Int) (slk t r (stL t.kind l 1))).lo ∧ gx.2.2.2.2 = (meanR (arcSum (stL t.kind l 1)) ((stL t.kind l 1).length : Int) (slk t r (stL t.kind l 1))).hi)) (fun gx => 2 - gx.1) (0, 0, 0, 0, 0) (by exact .inl ⟨rfl, rfl, rfl, rfl, rfl⟩) (.cons rfl (.cons rfl (.cons rfl (.cons rfl (.cons rfl (.cons rfl .nil)))))) (fun _ h => h) ?_
              rintro ⟨i, y0, y1, y2, y3⟩ hI
              show VC _ _ _ _ _ ([(195, .int .i64 (i : Nat))] ++ _) ([blk b13 (.cells #[.int .i64 3, .int .i64 (pow0 r l).lo, .int .i64 (pow0 r l).hi, .int .i64 y0, .int .i64 y1, .int .i64 y2, .int .i64 y3, .int .i64 (max (max 0 (wid (stL t.kind l 0))) (wid (stL t.kind l 1))), .int .i64 (ratioS (pow0 r l) (pow1 r l)).lo, .int .i64 (ratioS (pow0 r l) (pow1 r l)).hi, .int .i64 (mtchS r l).lo, .int .i64 (mtchS r l).hi, .int .i64 (meanR (arcSum (turnL l)) ((turnL l).length : Int) (2 * r.phase * ((turnL l).length : Int))).lo, .int .i64 (meanR (arcSum (turnL l)) ((turnL l).length : Int) (2 * r.phase * ((turnL l).length : Int))).hi] 32)] ++ _) _ _
              dsimp only at hI
              refine VC.seq ?_
              refine VC.reg (VO.l (LO.lt (.r rfl) (.r rfl)) rfl <| VO.nil ?_)
              refine VE.seqN ?_
              refine VC.seq ?_
              refine VC.cond rfl (fun h8 => ?_) (fun h8 => ?_)
              ·
                refine VC.skip (VE.seqN ?_)
                refine VC.seq ?_
                refine VC.block ?_
                refine VC.seq ?_
                rcases hI with ⟨rfl, rfl, rfl, rfl, rfl⟩ | ⟨rfl, rfl, rfl, rfl, rfl⟩ | ⟨q, _⟩
                ·
                  refine VC.reg (VO.l (LO.mv (.r rfl)) rfl <| VO.l (LO.ixg (j := 0) (vs := [_, _, _, _]) Try.underlying129 A112 (.r rfl) (.r rfl) rfl (by decide) rfl) rfl <| VO.h rfl <| HO.alloc (C := #[_, _, _, _]) Z112 rfl fun b120 => VO.l (LO.as (.r rfl)) rfl <| VO.h0 <| HO.st 0 (vs := [_, _, _, _]) (C' := [_, _, _, _]) N112 rfl rfl rfl rfl rfl rfl rfl rfl <| VO.nil ?_)
                  refine VE.seqN ?_
                  refine VC.seq ?_
                  refine VC.reg (VO.l (LO.fa (r := 1) F27_1 (.r rfl) rfl) rfl <| VO.l (LO.ld O3 (.r rfl) (fun _ hw => cells_at hw 11 rfl ⟨_, rfl⟩)) rfl <| VO.l (LO.mul (.r rfl) (.r rfl) (wi (by omega) (by omega))) rfl <| VO.l (LO.as (.r rfl)) rfl <| VO.nil ?_)
                  refine VE.seqN ?_
                  refine VC.seq ?_
                  refine VC.seq ?_
                  refine VC.reg (VO.l (LO.fa (r := 1) F23_1 (.r rfl) rfl) rfl <| VO.l (LO.ld O3 (.r rfl) (fun _ hw => cells_at hw 12 rfl ⟨_, rfl⟩)) rfl <| VO.l (LO.eq (.r rfl) (.r rfl)) rfl <| VO.nil ?_)
                  refine VE.seqN ?_
                  refine VC.cond rfl (fun h204 => ?_) (fun h204 => ?_)
                  ·
                    refine VC.reg (VO.l (LO.mv (.r rfl)) rfl <| VO.l (LO.fa (r := 3) F112_3 (.r rfl) rfl) rfl <| VO.l (LO.ld O3 (.r rfl) (fun _ hw => cells_at hw 0 rfl ⟨_, rfl⟩)) rfl <| VO.l (LO.mul (.r rfl) (.r rfl) (wi (by omega) (by omega))) rfl <| VO.l (LO.as (.r rfl)) rfl <| VO.nil ?_)
                    refine VE.seqN ?_
                    refine VC.reg (VO.l (LO.mv (.r rfl)) rfl <| VO.l (LO.lda (vs := [_, _, _, _]) A112 (.r rfl) (fun _ hw => cells_at hw 0 rfl ⟨_, rfl⟩) rfl) rfl <| VO.l (LO.mv (.r rfl)) rfl <| VO.l (LO.call (xs := [_, _]) (vs := [_, _]) C78 ⟨(.r rfl), (.r rfl), trivial⟩ (fun w _ => mean_c _ _ _ _ _ w (by omega) (by omega) (by omega) (by omega) (by omega) (by omega))) rfl <| VO.l (LO.fa (r := 3) F32_2 (.r rfl) rfl) rfl <| VO.l (LO.ixa (j := 0) (r := 3) Try.underlying30 N25 (.r rfl) (.r rfl) rfl (by decide) rfl) rfl <| VO.h0 <| HO.st 1 (vs := [_, _]) (C' := [_, _, _, _, _, _, _, _, _, _, _, _, _, _]) N25 rfl rfl rfl rfl rfl rfl rfl rfl <| VO.nil ?_)
                    refine VE.inN (VE.seqN ?_)
                    refine VC.reg (VO.l (LO.add (.r rfl) (.r rfl) (wi (by omega) (by omega))) rfl <| VO.l (LO.mv (.r rfl)) rfl <| VO.nil ?_)
                    refine VE.thenN fun a w ha hw => ⟨((0 + 1), (meanR (arcSum (stL t.kind l 0)) ((stL t.kind l 0).length : Int) (slk t r (stL t.kind l 0))).lo, (meanR (arcSum (stL t.kind l 0)) ((stL t.kind l 0).length : Int) (slk t r (stL t.kind l 0))).hi, 0, 0), (by first | exact .inr (.inl ⟨rfl, rfl, rfl, rfl, rfl⟩) | exact .inr (.inr ⟨rfl, rfl, rfl, rfl, rfl⟩)), (by dsimp only; omega), ha.sub (.cons rfl (.cons rfl (.cons rfl (.cons rfl (.cons rfl (.cons rfl .nil)))))), (hw.sel [1, 2, 3, 4, 5, 6, 7, 8, 9, 10, 11, 12, 13] rfl).eqL (by dsimp only; first | (simp only [slk_3 h204] <;> rfl) | (simp only [slk_n h204] <;> rfl))⟩
                  ·
                    refine VC.skip (VE.seqN ?_)
                    refine VC.reg (VO.l (LO.mv (.r rfl)) rfl <| VO.l (LO.lda (vs := [_, _, _, _]) A112 (.r rfl) (fun _ hw => cells_at hw 0 rfl ⟨_, rfl⟩) rfl) rfl <| VO.l (LO.mv (.r rfl)) rfl <| VO.l (LO.call (xs := [_, _]) (vs := [_, _]) C78 ⟨(.r rfl), (.r rfl), trivial⟩ (fun w _ => mean_c _ _ _ _ _ w (by omega) (by omega) (by omega) (by omega) (by omega) (by omega))) rfl <| VO.l (LO.fa (r := 3) F32_2 (.r rfl) rfl) rfl <| VO.l (LO.ixa (j := 0) (r := 3) Try.underlying30 N25 (.r rfl) (.r rfl) rfl (by decide) rfl) rfl <| VO.h0 <| HO.st 1 (vs := [_, _]) (C' := [_, _, _, _, _, _, _, _, _, _, _, _, _, _]) N25 rfl rfl rfl rfl rfl rfl rfl rfl <| VO.nil ?_)
                    refine VE.inN (VE.seqN ?_)
                    refine VC.reg (VO.l (LO.add (.r rfl) (.r rfl) (wi (by omega) (by omega))) rfl <| VO.l (LO.mv (.r rfl)) rfl <| VO.nil ?_)
                    refine VE.thenN fun a w ha hw => ⟨((0 + 1), (meanR (arcSum (stL t.kind l 0)) ((stL t.kind l 0).length : Int) (slk t r (stL t.kind l 0))).lo, (meanR (arcSum (stL t.kind l 0)) ((stL t.kind l 0).length : Int) (slk t r (stL t.kind l 0))).hi, 0, 0), (by first | exact .inr (.inl ⟨rfl, rfl, rfl, rfl, rfl⟩) | exact .inr (.inr ⟨rfl, rfl, rfl, rfl, rfl⟩)), (by dsimp only; omega), ha.sub (.cons rfl (.cons rfl (.cons rfl (.cons rfl (.cons rfl (.cons rfl .nil)))))), (hw.sel [1, 2, 3, 4, 5, 6, 7, 8, 9, 10, 11, 12, 13] rfl).eqL (by dsimp only; first | (simp only [slk_3 h204] <;> rfl) | (simp only [slk_n h204] <;> rfl))⟩
                ·
                  refine VC.reg (VO.l (LO.mv (.r rfl)) rfl <| VO.l (LO.ixg (j := 1) (vs := [_, _, _, _]) Try.underlying129 A112 (.r rfl) (.r rfl) rfl (by decide) rfl) rfl <| VO.h rfl <| HO.alloc (C := #[_, _, _, _]) Z112 rfl fun b124 => VO.l (LO.as (.r rfl)) rfl <| VO.h0 <| HO.st 0 (vs := [_, _, _, _]) (C' := [_, _, _, _]) N112 rfl rfl rfl rfl rfl rfl rfl rfl <| VO.nil ?_)
                  refine VE.seqN ?_
                  refine VC.seq ?_
                  refine VC.reg (VO.l (LO.fa (r := 1) F27_1 (.r rfl) rfl) rfl <| VO.l (LO.ld O3 (.r rfl) (fun _ hw => cells_at hw 11 rfl ⟨_, rfl⟩)) rfl <| VO.l (LO.mul (.r rfl) (.r rfl) (wi (by omega) (by omega))) rfl <| VO.l (LO.as (.r rfl)) rfl <| VO.nil ?_)
                  refine VE.seqN ?_
                  refine VC.seq ?_
                  refine VC.seq ?_
                  refine VC.reg (VO.l (LO.fa (r := 1) F23_1 (.r rfl) rfl) rfl <| VO.l (LO.ld O3 (.r rfl) (fun _ hw => cells_at hw 12 rfl ⟨_, rfl⟩)) rfl <| VO.l (LO.eq (.r rfl) (.r rfl)) rfl <| VO.nil ?_)
                  refine VE.seqN ?_
                  refine VC.cond rfl (fun h204 => ?_) (fun h204 => ?_)
                  ·
                    refine VC.reg (VO.l (LO.mv (.r rfl)) rfl <| VO.l (LO.fa (r := 3) F112_3 (.r rfl) rfl) rfl <| VO.l (LO.ld O3 (.r rfl) (fun _ hw => cells_at hw 0 rfl ⟨_, rfl⟩)) rfl <| VO.l (LO.mul (.r rfl) (.r rfl) (wi (by omega) (by omega))) rfl <| VO.l (LO.as (.r rfl)) rfl <| VO.nil ?_)
                    refine VE.seqN ?_
                    refine VC.reg (VO.l (LO.mv (.r rfl)) rfl <| VO.l (LO.lda (vs := [_, _, _, _]) A112 (.r rfl) (fun _ hw => cells_at hw 0 rfl ⟨_, rfl⟩) rfl) rfl <| VO.l (LO.mv (.r rfl)) rfl <| VO.l (LO.call (xs := [_, _]) (vs := [_, _]) C78 ⟨(.r rfl), (.r rfl), trivial⟩ (fun w _ => mean_c _ _ _ _ _ w (by omega) (by omega) (by omega) (by omega) (by omega) (by omega))) rfl <| VO.l (LO.fa (r := 3) F32_2 (.r rfl) rfl) rfl <| VO.l (LO.ixa (j := 1) (r := 5) Try.underlying30 N25 (.r rfl) (.r rfl) rfl (by decide) rfl) rfl <| VO.h0 <| HO.st 1 (vs := [_, _]) (C' := [_, _, _, _, _, _, _, _, _, _, _, _, _, _]) N25 rfl rfl rfl rfl rfl rfl rfl rfl <| VO.nil ?_)
                    refine VE.inN (VE.seqN ?_)
                    refine VC.reg (VO.l (LO.add (.r rfl) (.r rfl) (wi (by omega) (by omega))) rfl <| VO.l (LO.mv (.r rfl)) rfl <| VO.nil ?_)
                    refine VE.thenN fun a w ha hw => ⟨((1 + 1), (meanR (arcSum (stL t.kind l 0)) ((stL t.kind l 0).length : Int) (slk t r (stL t.kind l 0))).lo, (meanR (arcSum (stL t.kind l 0)) ((stL t.kind l 0).length : Int) (slk t r (stL t.kind l 0))).hi, (meanR (arcSum (stL t.kind l 1)) ((stL t.kind l 1).length : Int) (slk t r (stL t.kind l 1))).lo, (meanR (arcSum (stL t.kind l 1)) ((stL t.kind l 1).length : Int) (slk t r (stL t.kind l 1))).hi), (by first | exact .inr (.inl ⟨rfl, rfl, rfl, rfl, rfl⟩) | exact .inr (.inr ⟨rfl, rfl, rfl, rfl, rfl⟩)), (by dsimp only; omega), ha.sub (.cons rfl (.cons rfl (.cons rfl (.cons rfl (.cons rfl (.cons rfl .nil)))))), (hw.sel [1, 2, 3, 4, 5, 6, 7, 8, 9, 10, 11, 12, 13] rfl).eqL (by dsimp only; first | (simp only [slk_3 h204] <;> rfl) | (simp only [slk_n h204] <;> rfl))⟩
                  ·
                    refine VC.skip (VE.seqN ?_)
                    refine VC.reg (VO.l (LO.mv (.r rfl)) rfl <| VO.l (LO.lda (vs := [_, _, _, _]) A112 (.r rfl) (fun _ hw => cells_at hw 0 rfl ⟨_, rfl⟩) rfl) rfl <| VO.l (LO.mv (.r rfl)) rfl <| VO.l (LO.call (xs := [_, _]) (vs := [_, _]) C78 ⟨(.r rfl), (.r rfl), trivial⟩ (fun w _ => mean_c _ _ _ _ _ w (by omega) (by omega) (by omega) (by omega) (by omega) (by omega))) rfl <| VO.l (LO.fa (r := 3) F32_2 (.r rfl) rfl) rfl <| VO.l (LO.ixa (j := 1) (r := 5) Try.underlying30 N25 (.r rfl) (.r rfl) rfl (by decide) rfl) rfl <| VO.h0 <| HO.st 1 (vs := [_, _]) (C' := [_, _, _, _, _, _, _, _, _, _, _, _, _, _]) N25 rfl rfl rfl rfl rfl rfl rfl rfl <| VO.nil ?_)
                    refine VE.inN (VE.seqN ?_)
                    refine VC.reg (VO.l (LO.add (.r rfl) (.r rfl) (wi (by omega) (by omega))) rfl <| VO.l (LO.mv (.r rfl)) rfl <| VO.nil ?_)
                    refine VE.thenN fun a w ha hw => ⟨((1 + 1), (meanR (arcSum (stL t.kind l 0)) ((stL t.kind l 0).length : Int) (slk t r (stL t.kind l 0))).lo, (meanR (arcSum (stL t.kind l 0)) ((stL t.kind l 0).length : Int) (slk t r (stL t.kind l 0))).hi, (meanR (arcSum (stL t.kind l 1)) ((stL t.kind l 1).length : Int) (slk t r (stL t.kind l 1))).lo, (meanR (arcSum (stL t.kind l 1)) ((stL t.kind l 1).length : Int) (slk t r (stL t.kind l 1))).hi), (by first | exact .inr (.inl ⟨rfl, rfl, rfl, rfl, rfl⟩) | exact .inr (.inr ⟨rfl, rfl, rfl, rfl, rfl⟩)), (by dsimp only; omega), ha.sub (.cons rfl (.cons rfl (.cons rfl (.cons rfl (.cons rfl (.cons rfl .nil)))))), (hw.sel [1, 2, 3, 4, 5, 6, 7, 8, 9, 10, 11, 12, 13] rfl).eqL (by dsimp only; first | (simp only [slk_3 h204] <;> rfl) | (simp only [slk_n h204] <;> rfl))⟩
                ·
                  (exfalso; omega)
              ·
                refine VC.exit (VE.thenX (VE.thenX (VE.inX (VE.seqN ?_))))
                refine VC.seq ?_
                rcases hI with ⟨q, _⟩ | ⟨q, _⟩ | ⟨rfl, rfl, rfl, rfl, rfl⟩
                · omega
                · omega
                refine VC.reg (VO.l (LO.lda (vs := [_, _, _, _, _, _, _, _, _, _, _, _, _, _]) A32 (.r rfl) (fun _ hw => cells_at hw 0 rfl ⟨_, rfl⟩) rfl) rfl <| VO.h0 <| HO.st 9 (vs := [_, _, _, _, _, _, _, _, _, _, _, _, _, _]) (C' := [_, _, _, _, _, _, _, _, _, _, _, _, _, _]) N32 rfl rfl rfl rfl rfl rfl rfl rfl <| VO.nil ?_)
                refine VE.seqN ?_
                refine VC.ret (VE.resD 12 (vs := [_]) rfl rfl rfl ⟨RV.agg (vs := [_, _, _, _, _, _, _, _, _, _, _, _, _, _]) A32 rfl (cells_blk 9 rfl ⟨_, rfl⟩) rfl, trivial⟩ (fun w hw => ?_))
                refine ⟨?_, hw.nil⟩
                simp only [resV]
                first | (rw [hearX, if_pos hz]; rfl) | (rw [hearX, if_neg hz, if_pos (fun q => h182 (good_iff.1 q))]; rfl) | (rw [hearX, if_neg hz, if_neg (fun q => q (good_iff.2 (Classical.not_not.1 h182))), meanS_eq, meanS_eq, meanS_eq, ← tlen]; rfl)
      ·
        intro D c n x hn hI
        exact hI.elim

end Go.Proofs.Ytcnlhifkablmkaa
