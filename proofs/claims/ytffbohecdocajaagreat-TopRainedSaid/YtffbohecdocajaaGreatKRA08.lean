/-
  The program hears.
  The program hears what is valid.
  The first samples are heard.
  PulseChecks is walked.
  PulseFolds is walked.
  The document hears.
  PulseArcIs is walked.
  What a better hearing has within another: the plain part.
  Rain, the plain law: tables are monotone, and so is each step from a measured power to a rate.
  What is in the way of a beam: the plain law.
  Walks of package rain: rounding, tables.
-/
import Derived.Test.YtffbohecdocajaaGreatKRA07

set_option linter.unusedSimpArgs false
namespace Go.Proofs.YtffbohecdocajaaGreat
open Go.SL Go.Proofs Go.Pulse
set_option linter.unusedVariables false

theorem Z76 : ZeroOf Tryz.prog 76 (.agg #[.int .i64 0, .int .i64 0, .int .i64 0, .int .i64 0, .int .i64 0, .int .i64 0, .int .i64 0, .int .i64 0, .int .i64 0, .int .i64 0, .int .i64 0, .int .i64 0, .int .i64 0, .int .i64 0]) := by unfold ZeroOf; kernel_rfl
theorem Z402 : ZeroOf Tryz.prog 402 (.agg #[.int .i64 0, .int .i64 0, .int .i64 0]) := by unfold ZeroOf; kernel_rfl
theorem C178 : IsFn Tryz.prog 178 := ⟨_, Tryz.func178, by decide, rfl⟩
theorem Z404 : ZeroOf Tryz.prog 404 (.agg #[.int .i64 0, .int .i64 0, .int .i64 0, .int .i64 0]) := by unfold ZeroOf; kernel_rfl
theorem N76 : (Tryz.prog.info? 76).map (·.size) = some 14 := by kernel_rfl
theorem A404 : IsAgg Tryz.prog 404 4 := ⟨⟨_, Tryz.underlying404, rfl⟩, by kernel_rfl⟩
theorem B404 : BuildsA Tryz.prog 404 [(0,2), (2,2)] [.int .i64 0, .int .i64 0, .int .i64 0, .int .i64 0] := BuildsA.mk (z := 2) (n := 2) (fun _ => by kernel_rfl) rfl
theorem EA404 : FlatA Tryz.prog 404 4 := ⟨⟨_, Tryz.underlying404, rfl⟩, by kernel_rfl, by kernel_rfl⟩
theorem C181 : IsFn Tryz.prog 181 := ⟨_, Tryz.func181, by decide, rfl⟩
theorem Z406 : ZeroOf Tryz.prog 406 (.agg #[.slice none 0 0, .slice none 0 0]) := by unfold ZeroOf; kernel_rfl
theorem A23 : IsAgg Tryz.prog 23 5 := ⟨⟨_, Tryz.underlying23, rfl⟩, by kernel_rfl⟩
theorem C182 : IsFn Tryz.prog 182 := ⟨_, Tryz.func182, by decide, rfl⟩
theorem F50_3 : FieldAt Tryz.prog 50 3 3 := ⟨_,_, Tryz.underlying50, rfl, rfl, 0, by kernel_rfl⟩
theorem Z412 : ZeroOf Tryz.prog 412 (.agg #[.int .i64 0, .int .i64 0, .int .i64 0, .int .i64 0, .int .i64 0, .int .i64 0, .int .i64 0, .int .i64 0]) := by unfold ZeroOf; kernel_rfl
theorem C184 : IsFn Tryz.prog 184 := ⟨_, Tryz.func184, by decide, rfl⟩
theorem A406 : IsAgg Tryz.prog 406 2 := ⟨⟨_, Tryz.underlying406, rfl⟩, by kernel_rfl⟩
theorem C185 : IsFn Tryz.prog 185 := ⟨_, Tryz.func185, by decide, rfl⟩
theorem A412 : IsAgg Tryz.prog 412 8 := ⟨⟨_, Tryz.underlying412, rfl⟩, by kernel_rfl⟩


theorem LO.ixg {P : Program} {β : Bs} {env : Env} {L : List Res} {d : Option Nat} {ty : TypeId} {pos : String} {aft : Array Edge} {g : Option (Nat × Bool)} {x i : Operand} {T E n z : Nat} {C : Array Value} {j : Nat} {k : IntKind} {e : Int} {vs : List Value} (hT : P.underlying T = some (.array n E)) (hE : IsAgg P E z) (hx : OV env x (.agg C)) (hi : OV env i (.int k e)) (he : e = (j : Int)) (hj : j < n) (hv : (C.extract (j * z) (j * z + z)).toList = vs) :
    LO P β env L ⟨d, .index T x i, ty, pos, aft, g⟩ (.agg vs.toArray) :=
  .of_run fun a w h hw => ⟨w, by
    subst he
    have he' : C.extract (j * z) (j * z + z) = vs.toArray := by rw [← hv]
    simp [execOp, h x (by simp [Op.operands]) _ hx, h i (by simp [Op.operands]) _ hi, Instr.index, asIntOf, run_underlying hT, run_size hE.2, hj, part, run_isAgg hE, he'], hw⟩
theorem cells_inv {w : World} {b : Nat} {C : Array Value} {E : TypeId} (h : (blk b (.cells C E)).inv w) : Cells w ⟨b, 0, none⟩ C.toList := by
  intro j v hj
  have e : (⟨b, 0, none⟩ : Addr).add j = ⟨b, j, none⟩ := by unfold Addr.add; split <;> simp_all
  rw [e]
  have hb : w.heap[b]? = some (.cells C E) := h
  simp only [World.cell?, hb, Option.isSome_none, Bool.false_eq_true, if_false]
  simpa using hj
theorem _root_.Go.SL.St.eqL {β : Bs} {L L' : List Res} {w : World} (h : St β L w) (e : L = L') : St β L' w := e ▸ h
theorem quo_nn {m n : Int} (hm : 0 ≤ m) (hn : 0 < n) (h2 : m ≤ 9223372036854775807) : IntKind.wrap .i64 (m.tdiv n) = m / n := by
  rw [Int.tdiv_eq_ediv_of_nonneg hm]
  have := Int.ediv_nonneg hm (by omega : 0 ≤ n)
  have := Int.ediv_le_self n hm
  exact wi (by omega) (by omega)
theorem share_bd {a : Int} (h1 : 0 ≤ a) (h2 : a ≤ 94000000) : 0 ≤ 1000 * a * a ∧ 1000 * a * a ≤ 9000000000000000000 := by
  have := prod_bd (x := 1000 * a) (y := a) (A := 94000000000) (B := 94000000) (by omega) (by omega) h1 h2
  omega
theorem ro_block {α : Type} {z : Nat} {f : α → List Value} {w : World} {p : Option Addr} {l : List α} (h : RO z f w p l) (d : α) (hf : ∀ x, f x ≠ []) (hl : l ≠ []) : pb p < w.heap.size := by
  have h0 := h.here d (j := 0) (by cases l with | nil => exact absurd rfl hl | cons => simp)
  cases q : f (l.getD 0 d) with
  | nil => exact absurd q (hf _)
  | cons v r =>
    have := h0 0 v (by rw [q]; rfl)
    simp only [Addr.add, if_true] at this
    rcases Nat.lt_or_ge (pb p) w.heap.size with e | e
    · exact e
    · simp [World.cell?, Array.getElem?_eq_none e] at this
theorem of_h {w0 w : World} {L : List Res} {b : Nat} (i : Nat) (hw : St (bs w0) L w) (hi : L[i]? = some (blk b (.cells #[.int .i64 0, .int .i64 0, .int .i64 0] 402))) {l : List Sample} {p : Option Addr} {c : Nat} {m : Int} (hl : Smps w0 p l) (hm1 : -64 ≤ m) (hm2 : m ≤ 64) (hn : l.length ≤ 64) (hs : ∀ x ∈ l, smpOk x) :
    Calls Tryz.prog 178 #[.pointer (some ⟨b, 0, none⟩), .slice p l.length c, .int .i64 m] w fun e w' => ∃ x : Unit, True ∧ e = .returned (.tuple #[]) ∧ St ⟨w, (blk b (.cells #[.int .i64 0, .int .i64 0, .int .i64 0] 402)).fp⟩ [blk b (.cells #[.int .i64 (sumH m l), .int .i64 (sumV m l), .int .i64 (sumX m l)] 402)] w' := by
  have hr := hw.rng i _ hi b rfl
  refine (of_c b l p c m w hm1 hm2 hn hs (hl.keep w hw) (fun h1 h2 => ?_) (hw.inv i _ hi) (fun k hk => (hw.rng i _ hi k hk).2)).mono fun e w' h => ⟨(), trivial, h.1, h.2⟩
  have := ro_block hl zSm (fun x q => by cases q) h1
  rcases hr.1 with q | q
  · exact q
  · have : w0.heap.size ≤ b := q
    omega
def stS (q : List (Int × Int)) (w : Int) : List Int := (q.filter fun x => decide (x.1 = w)).map (·.2)
theorem pair_of {q : List (Int × Int)} {n : Nat} {vs : List Value} (h : (q.map pairC)[n]? = some vs) : ∃ v, vs = [.int .i64 v.1, .int .i64 v.2] ∧ q[n]? = some v := by
  rw [List.getElem?_map] at h
  cases e : q[n]? with
  | none => rw [e] at h; cases h
  | some v => rw [e] at h; cases h; exact ⟨v, rfl, rfl⟩
theorem stQ_01 {k : Int} {l : List Sample} {m n : Nat} {v : Int × Int} (hk : kndOk k) (hv : (stQ k l m)[n]? = some v) : v.1 = 0 ∨ v.1 = 1 := by
  have h := List.mem_of_getElem? hv
  unfold stQ at h
  obtain ⟨i, hi, rfl⟩ := List.mem_map.1 h
  have h2 := of_decide_eq_true (List.mem_filter.1 hi).2
  unfold kndOk at hk
  dsimp only
  unfold stW at *
  split
  · exact .inl rfl
  · split
    · split
      · rename_i a b c; simp [a, b, c] at h2
      · split
        · exact .inr rfl
        · exact .inl rfl
    · omega
theorem stQ_len (k : Int) (l : List Sample) (m : Nat) : (stQ k l m).length ≤ m := by
  unfold stQ; rw [List.length_map]
  have := List.length_filter_le (fun i => decide (stW k l.length i ≠ 2)) (List.range m)
  simpa using this
theorem stS_len {q : List (Int × Int)} {m n : Nat} (h : q.length ≤ m) : (stS (q.take n) 0).length ≤ m ∧ (stS (q.take n) 1).length ≤ m := by
  have key : ∀ w, (stS (q.take n) w).length ≤ m := fun w => by
    unfold stS; rw [List.length_map]
    have := List.length_filter_le (fun x : Int × Int => decide (x.1 = w)) (q.take n)
    rw [List.length_take] at this; omega
  exact ⟨key 0, key 1⟩
theorem stS_yes {q : List (Int × Int)} {n : Nat} {v : Int × Int} {w : Int} (hv : q[n]? = some v) (h : v.1 = w) : stS (q.take (n + 1)) w = stS (q.take n) w ++ [v.2] := by
  unfold stS; rw [take_at hv, List.filter_append, List.map_append]; simp [h]
theorem stS_no {q : List (Int × Int)} {n : Nat} {v : Int × Int} {w : Int} (hv : q[n]? = some v) (h : v.1 ≠ w) : stS (q.take (n + 1)) w = stS (q.take n) w := by
  unfold stS; rw [take_at hv, List.filter_append, List.map_append]; simp [h]
theorem stS_all {k : Int} {l : List Sample} (w : Int) (h : w ≠ 2) : stS (stQ k l (l.length - 1)) w = stL k l w := by
  unfold stS stQ stL stP
  rw [List.filter_map, List.map_map, List.filter_filter]
  congr 1
  refine List.filter_congr fun i _ => ?_
  simp only [Function.comp]
  by_cases e : stW k l.length i = w
  · simp [e, h]
  · simp [e]
theorem stL_len (k : Int) (l : List Sample) (w : Int) : (stL k l w).length ≤ l.length - 1 := by
  unfold stL stP; rw [List.length_map]
  have := List.length_filter_le (fun i => decide (stW k l.length i = w)) (List.range (l.length - 1))
  simpa using this
theorem stL_inT (k : Int) (l : List Sample) (w : Int) : ∀ x ∈ stL k l w, inT x := fun x hx => by
  unfold stL stP at hx
  obtain ⟨i,_, rfl⟩ := List.mem_map.1 hx
  exact wr_bd _
theorem turnL_inT (l : List Sample) : ∀ x ∈ turnL l, inT x := fun x hx => by
  unfold turnL at hx
  obtain ⟨i,_, rfl⟩ := List.mem_map.1 hx
  exact wr_bd _
theorem wid_bd {l : List Int} (h : ∀ x ∈ l, inT x) : 0 ≤ wid l ∧ wid l ≤ 65535 := by
  unfold wid
  by_cases e : l = []
  · rw [if_pos e]; decide
  · rw [if_neg e]
    obtain ⟨_, h2,_⟩ := arcR_is e
    rw [h2]; exact arcW_bd _ _
theorem turn_step {l : List Sample} {j : Nat} (hj : j < l.length) : turnL (l.take (j + 1)) = turnL (l.take j) ++ [wr ((l.getD j zSm).q - (l.getD j zSm).p)] := by
  unfold turnL; rw [take_at (getD_some (d := zSm) hj), List.map_append]; rfl
def togV (s : List Int) (ph : Int) : Bool := decide ((s.length : Int) = 0) || decide (wid s + 4 * ph < 32768)
def togT (s : List Int) (ph : Int) : Bool := decide ((s.length : Int) = 0) || decide ((arcR s).2 + 4 * ph < 32768)
theorem togT_iff {s : List Int} {ph : Int} : togT s ph = true ↔ tog s ph := by
  unfold togT tog
  rw [Bool.or_eq_true, decide_eq_true_iff, decide_eq_true_iff, len0]
theorem togV_iff {s : List Int} {ph : Int} : togV s ph = true ↔ tog s ph := by
  unfold togV tog wid
  rw [Bool.or_eq_true, decide_eq_true_iff, decide_eq_true_iff, len0]
  by_cases h : s = []
  · simp [h]
  · simp [h]
theorem good_iff {t : Train} {r : Recv} {l : List Sample} : goodT t r l ↔ ((togT (turnL l) r.phase = true ∧ togV (stL t.kind l 0) r.phase = true) ∧ togV (stL t.kind l 1) r.phase = true) := by
  unfold goodT; rw [togT_iff, togV_iff, togV_iff, and_assoc]
theorem meanS_eq {s : List Int} {sl : Int} : meanS s sl = meanR (arcSum s) (s.length : Int) sl := by
  unfold meanS meanR
  by_cases h : s = []
  · rw [if_pos h, if_pos (len0.2 h)]
  · rw [if_neg h, if_neg (fun q => h (len0.1 q))]
section
variable {s : List Int} {ph : Int} {g : Bool}
theorem wid_pos (h : 0 < (s.length : Int)) : wid s = (arcR s).2 := if_neg (fun q => by rw [q] at h; simp at h)
theorem nil_of (h : ¬ 0 < (s.length : Int)) : s = [] := len0.1 (by omega)
theorem wid_neg (h : ¬ 0 < (s.length : Int)) : wid s = 0 := if_pos (nil_of h)
theorem arc_neg (h : ¬ 0 < (s.length : Int)) : (arcR s).1 = 0 := by rw [nil_of h]; rfl
theorem sum_neg (h : ¬ 0 < (s.length : Int)) : arcSum s = 0 := by rw [nil_of h]; rfl
theorem len_neg (h : ¬ 0 < (s.length : Int)) : (s.length : Int) = 0 := by omega
theorem tgA (h : 0 < (s.length : Int)) : some (Value.bool (g && (decide ((s.length : Int) = 0) || decide ((arcR s).2 + 4 * ph < 32768)))) = some (Value.bool (g && togV s ph)) := by
  unfold togV; rw [wid_pos h]
theorem tgB (h : ¬ 0 < (s.length : Int)) : some (Value.bool (g && (decide ((0 : Int) = 0) || decide (0 + 4 * ph < 32768)))) = some (Value.bool (g && togV s ph)) := by
  unfold togV; rw [wid_neg h, len_neg h]
end
theorem slk_3 {t : Train} {r : Recv} {s : List Int} (h : t.kind = 3) : slk t r s = 2 * r.phase * (s.length : Int) := if_pos h
theorem slk_n {t : Train} {r : Recv} {s : List Int} (h : ¬ t.kind = 3) : slk t r s = 2 * r.phase := if_neg h
theorem sum_le {α : Type} {f g : α → Int} : ∀ {l : List α}, (∀ x ∈ l, f x ≤ g x) → (l.map f).sum ≤ (l.map g).sum
  | [],_ => by simp
  | x :: l, h => by
    have h1 := h x (by simp)
    have h2 := sum_le (f := f) (g := g) (l := l) (fun y hy => h y (by simp [hy]))
    simp only [List.map_cons, List.sum_cons]
    omega
theorem sq_le {a m n : Int} (h : m ≤ n) : sq m a ≤ sq n a := by
  have h1 : max 0 (a + m) ≤ max 0 (a + n) := by omega
  have h0 : 0 ≤ max 0 (a + m) := by omega
  exact Int.mul_le_mul h1 h1 h0 (by omega)
theorem div_up {a b n : Int} (hn : 0 < n) (h : a ≤ b) : a / n ≤ up b n := by
  unfold up
  have h1 : a / n ≤ b / n := Int.ediv_le_ediv hn h
  have h2 := Int.mul_ediv_add_emod b n
  have h3 := Int.emod_nonneg b (by omega : n ≠ 0)
  have h4 := Int.mul_ediv_add_emod (-b) n
  have h5 := Int.emod_nonneg (-b) (by omega : n ≠ 0)
  have h6 : n * (b / n) ≤ n * (-(-b / n)) := by rw [Int.mul_neg]; omega
  have := Int.le_of_mul_le_mul_left h6 hn
  omega
theorem pow_bd {r : Recv} {l : List Sample} (hr : recvOk r) (hn : 0 < (l.length : Int)) (hs : ∀ x ∈ l, smpOk x) : 0 ≤ (pow0 r l).lo ∧ (pow0 r l).lo ≤ (pow0 r l).hi ∧ 0 ≤ (pow1 r l).lo ∧ (pow1 r l).lo ≤ (pow1 r l).hi ∧ (pow0 r l).hi ≤ 2000000 ∧ (pow1 r l).hi ≤ 2000000 := by
  unfold recvOk at hr
  have hH : sumH (-r.level) l ≤ sumH r.level l := sum_le (fun x _ => sq_le (by omega))
  have hV : sumV (-r.level) l ≤ sumV r.level l := sum_le (fun x _ => sq_le (by omega))
  have a1 := sumH_bd (m := r.level) (l := l) (by omega) (by omega) hs
  have a2 := sumV_bd (m := r.level) (l := l) (by omega) (by omega) hs
  have b1 := div_up hn hH
  have b2 := div_up hn hV
  have c1 : up (sumH r.level l) l.length ≤ 1181569 := by
    unfold up
    have := Int.le_ediv_of_mul_le (c := (l.length : Int)) (a := -1181569) (b := -sumH r.level l) hn (by rw [Int.neg_mul]; omega)
    omega
  have c2 : up (sumV r.level l) l.length ≤ 1181569 := by
    unfold up
    have := Int.le_ediv_of_mul_le (c := (l.length : Int)) (a := -1181569) (b := -sumV r.level l) hn (by rw [Int.neg_mul]; omega)
    omega
  unfold pow0 pow1 powS
  dsimp only
  omega

set_option maxRecDepth 20000 in
set_option maxHeartbeats 4000000 in
theorem heard_c (t : Train) (r : Recv) (l : List Sample) (p : Option Addr) (c : Nat) (w : World) (htk : kndOk t.kind) (ht : trainOk t) (hr : recvOk r) (hlen : (l.length : Int) = t.count) (hs : ∀ x ∈ l, smpOk x) (hc : l.length ≤ c) (hl : Smps w p l) :
  Calls Tryz.prog 113 #[trainV t, recvV r, .slice p l.length c] w fun e w' => e = .returned (echoV (hearX t r l)) ∧ St (bs w) [] w' := by
  have hr' := hr
  unfold recvOk at hr'
  have ht' := ht
  unfold trainOk at ht'
  have hln : 2 ≤ l.length ∧ l.length ≤ 64 := by omega
  have a0 := sumH_bd (m := -r.level) (l := l) (by omega) (by omega) hs
  have a1 := sumV_bd (m := -r.level) (l := l) (by omega) (by omega) hs
  have a2 := sumX_bd (m := -r.level) (l := l) (by omega) (by omega) hs
  have a3 := sumH_bd (m := r.level) (l := l) (by omega) (by omega) hs
  have a4 := sumV_bd (m := r.level) (l := l) (by omega) (by omega) hs
  have a5 := sumX_bd (m := r.level) (l := l) (by omega) (by omega) hs
  have d0 := ediv_abs (a := sumH (-r.level) l) (n := (l.length : Int)) (B := 100000000) (by omega) (by omega) (by omega) (by omega)
  have d1 := ediv_abs (a := sumV (-r.level) l) (n := (l.length : Int)) (B := 100000000) (by omega) (by omega) (by omega) (by omega)
  have d2 := ediv_abs (a := -(sumH r.level l)) (n := (l.length : Int)) (B := 100000000) (by omega) (by omega) (by omega) (by omega)
  have d3 := ediv_abs (a := -(sumV r.level l)) (n := (l.length : Int)) (B := 100000000) (by omega) (by omega) (by omega) (by omega)
  refine enter (vs := [_,_,_]) (env := [(0,_), (1,_), (2,_)]) Tryz.func113 rfl rfl rfl rfl ?_
  refine VC.seq ?_
  refine VC.reg (VO.h rfl<|HO.box (C := #[_,_,_,_,_]) rfl rfl fun b1 => VO.h rfl<|HO.box (C := #[_,_,_,_]) rfl rfl fun b2 => VO.h rfl<|HO.alloc (C := #[_,_,_,_,_,_,_,_,_,_,_,_,_,_]) Z76 rfl fun b3 => VO.nil ?_)
  refine VE.seqN ?_
  refine VC.seq ?_
  refine VC.reg (VO.h rfl<|HO.alloc (C := #[_,_,_]) Z402 rfl fun b4 => VO.h rfl<|HO.alloc (C := #[_,_,_]) Z402 rfl fun b5 => VO.nil ?_)
  refine VE.seqN ?_
  refine VC.seq ?_
  refine VC.reg (VO.l (LO.mv (.r rfl)) rfl<|VO.l (LO.fa (r := 0) F27_0 (.r rfl) rfl) rfl<|VO.l (LO.ld O3 (.r rfl) (fun _ hw => cells_at hw 3 rfl ⟨_, rfl⟩)) rfl<|VO.l (LO.neg (.r rfl) (wi (by omega) (by omega))) rfl<|VO.h rfl<|HO.callh (first := []) (cap := []) (xs := [_,_,_]) (vs := [_,_,_]) 1 (fun R => [_, R,_,_,_]) rfl (.r rfl) C178 ⟨(.r rfl), (.r rfl), (.r rfl), trivial⟩ (fun _ => rfl) (fun w hw => of_h 1 hw rfl hl (m := -r.level) (by omega) (by omega) hln.2 hs) fun _ _ => VO.nil ?_)
  refine VE.seqN ?_
  refine VC.seq ?_
  refine VC.reg (VO.l (LO.mv (.r rfl)) rfl<|VO.l (LO.fa (r := 0) F27_0 (.r rfl) rfl) rfl<|VO.l (LO.ld O3 (.r rfl) (fun _ hw => cells_at hw 3 rfl ⟨_, rfl⟩)) rfl<|VO.h rfl<|HO.callh (first := []) (cap := []) (xs := [_,_,_]) (vs := [_,_,_]) 0 (fun R => [R,_,_,_,_]) rfl (.r rfl) C178 ⟨(.r rfl), (.r rfl), (.r rfl), trivial⟩ (fun _ => rfl) (fun w hw => of_h 0 hw rfl hl (m := r.level) (by omega) (by omega) hln.2 hs) fun _ _ => VO.nil ?_)
  refine VE.seqN ?_
  refine VC.seq ?_
  refine VC.reg (VO.h rfl<|HO.alloc (C := #[_,_,_,_]) Z404 rfl fun b8 => VO.nil ?_)
  refine VE.seqN ?_
  refine VC.seq ?_
  refine VC.seq ?_
  refine VC.reg (VO.l (LO.mv (.r rfl)) rfl<|VO.nil ?_)
  refine VE.seqN ?_
  refine VC.block ?_
  refine VC.loopK (α := Nat × Int × Int × Int × Int) 1 (fun gx => [(35, .int .i64 (gx.1 : Nat))]) [(2,_), (3,_), (4,_), (6,_), (7,_), (8,_), (9,_)] (fun gx => [blk b8 (.cells #[.int .i64 gx.2.1, .int .i64 gx.2.2.1, .int .i64 gx.2.2.2.1, .int .i64 gx.2.2.2.2] 404)]) (fun gx => gx.1 ≤ 2 ∧ (1 ≤ gx.1 → gx.2.1 = (pow0 r l).lo ∧ gx.2.2.1 = (pow0 r l).hi) ∧ (2 ≤ gx.1 → gx.2.2.2.1 = (pow1 r l).lo ∧ gx.2.2.2.2 = (pow1 r l).hi)) (fun gx => 2 - gx.1) (0,0,0,0,0) (by exact ⟨by omega, fun q => absurd q (by decide), fun q => absurd q (by decide)⟩) (.cons rfl (.cons rfl (.cons rfl (.cons rfl (.cons rfl (.cons rfl (.cons rfl (.cons rfl .nil)))))))) (fun _ h => h) ?_
  rintro ⟨i, v0, v1, v2, v3⟩ ⟨hi, hI1, hI2⟩
  show VC _ _ _ _ _ ([(35, .int .i64 (i : Nat))] ++ _) ([blk b8 (.cells #[.int .i64 v0, .int .i64 v1, .int .i64 v2, .int .i64 v3] 404)] ++ _) _ _
  dsimp only at hi hI1 hI2
  refine VC.seq ?_
  refine VC.reg (VO.l (LO.lt (.r rfl) (.r rfl)) rfl<|VO.nil ?_)
  refine VE.seqN ?_
  refine VC.seq ?_
  refine VC.cond rfl (fun h1 => ?_) (fun h1 => ?_)
  ·
    refine VC.skip (VE.seqN ?_)
    refine VC.seq ?_
    refine VC.block ?_
    refine VC.seq ?_
    rcases (show i = 0 ∨ i = 1 by omega) with rfl | rfl
    ·
      refine VC.reg (VO.l (LO.mv (.r rfl)) rfl<|VO.l (LO.as (.r rfl)) rfl<|VO.nil ?_)
      refine VE.seqN ?_
      refine VC.drawH [[0,1,2,3,4,5], [1,2,3,4,5]] [some 0, some 0, some 0, some 0, some 0, some 0, some 0, some 0, some 0, some 0, some 0, some 0, some 0, some 0, some 0, some 0, some 0, some 0, some 0, some 0, some 0, some 0, some 0, some 0, some 0, none] mixed (by kernel_rfl) rfl (LX.l (fun _ hJ => LO.mv (.r rfl)) rfl<|LX.l (fun _ hJ => LO.mv (.r rfl)) rfl<|LX.l (fun _ hJ => LO.ixa (j := 0) (r := 0) Tryz.underlying402 N3 (.r rfl) (.r rfl) rfl (by decide) rfl) rfl<|LX.l (fun _ hJ => LO.ld O3 (.r rfl) (fun _ hw => cells_at (hJ _ hw) 2 rfl ⟨_, rfl⟩)) rfl<|LX.l (fun _ hJ => LO.mv (.r rfl)) rfl<|LX.l (fun _ hJ => LO.len S40 (.r rfl) rfl) rfl<|LX.l (fun _ hJ => LO.call (xs := [_,_]) (vs := [_,_]) C179 ⟨(.r rfl), (.r rfl), trivial⟩ (fun w _ => down_c _ _ (by omega) (by omega) (by omega) w)) rfl<|LX.l (fun _ hJ => LO.fa (r := 2) F27_2 (.r rfl) rfl) rfl<|LX.l (fun _ hJ => LO.fa (r := 3) F25_1 (.r rfl) rfl) rfl<|LX.l (fun _ hJ => LO.ld O3 (.r rfl) (fun _ hw => cells_at (hJ _ hw) 4 rfl ⟨_, rfl⟩)) rfl<|LX.l (fun _ hJ => LO.sub (.r rfl) (.r rfl) (wi (by omega) (by omega))) rfl<|LX.l (fun _ hJ => LO.max (.r rfl) (.r rfl)) rfl<|LX.l (fun _ hJ => LO.mv (.r rfl)) rfl<|LX.l (fun _ hJ => LO.ixa (j := 0) (r := 0) Tryz.underlying402 N3 (.r rfl) (.r rfl) rfl (by decide) rfl) rfl<|LX.l (fun _ hJ => LO.ld O3 (.r rfl) (fun _ hw => cells_at (hJ _ hw) 1 rfl ⟨_, rfl⟩)) rfl<|LX.l (fun _ hJ => LO.mv (.r rfl)) rfl<|LX.l (fun _ hJ => LO.len S40 (.r rfl) rfl) rfl<|LX.l (fun _ hJ => LO.call (xs := [_,_]) (vs := [_,_]) C180 ⟨(.r rfl), (.r rfl), trivial⟩ (fun w _ => up_c _ _ (by omega) (by omega) (by omega) w)) rfl<|LX.l (fun _ hJ => LO.fa (r := 2) F27_2 (.r rfl) rfl) rfl<|LX.l (fun _ hJ => LO.fa (r := 2) F25_0 (.r rfl) rfl) rfl<|LX.l (fun _ hJ => LO.ld O3 (.r rfl) (fun _ hw => cells_at (hJ _ hw) 4 rfl ⟨_, rfl⟩)) rfl<|LX.l (fun _ hJ => LO.sub (.r rfl) (.r rfl) (wi (by unfold up; omega) (by unfold up; omega))) rfl<|LX.l (fun _ hJ => LO.max (.r rfl) (.r rfl)) rfl<|LX.l (fun _ hJ => LO.bd (ps := [(_,_), (_,_)]) (vs := [(_,_), (_,_)]) (C := [_,_]) B25  ⟨(.r rfl), (.r rfl), trivial⟩ rfl ⟨_, [_], [_,_], rfl, rfl, rfl, rfl, ⟨_, [_], [_,_], rfl, rfl, rfl, rfl, rfl⟩⟩) rfl<|LX.l (fun _ hJ => LO.ixa (j := 0) (r := 0) Tryz.underlying404 N25 (.r rfl) (.r rfl) rfl (by decide) rfl) rfl<|LX.s<|LX.nil) (HX.s<|HX.s<|HX.s<|HX.s<|HX.s<|HX.s<|HX.s<|HX.s<|HX.s<|HX.s<|HX.s<|HX.s<|HX.s<|HX.s<|HX.s<|HX.s<|HX.s<|HX.s<|HX.s<|HX.s<|HX.s<|HX.s<|HX.s<|HX.s<|HX.s<|HX.h0<|HO.st 0 (vs := [_,_]) (C' := [_,_,_,_]) (L' := [_,_,_,_,_,_]) N25 rfl rfl rfl rfl rfl rfl rfl rfl<|⟨fun _ hw => hw.sel [1,2,3,4,5] rfl, HX.nil ?_⟩)
      refine VE.inN (VE.seqN ?_)
      refine VC.reg (VO.l (LO.add (.r rfl) (.r rfl) (wi (by omega) (by omega))) rfl<|VO.l (LO.mv (.r rfl)) rfl<|VO.nil ?_)
      refine VE.thenN fun a w ha hw => ⟨((0 + 1),_,_,_,_), (by first | exact ⟨by omega, fun _ => ⟨rfl, rfl⟩, fun q => absurd q (by omega)⟩ | exact ⟨by omega, fun _ => hI1 (by omega), fun _ => ⟨rfl, rfl⟩⟩), (by dsimp only; omega), ha.sub (.cons rfl (.cons rfl (.cons rfl (.cons rfl (.cons rfl (.cons rfl (.cons rfl (.cons rfl .nil)))))))), hw⟩
    ·
      refine VC.reg (VO.l (LO.mv (.r rfl)) rfl<|VO.l (LO.as (.r rfl)) rfl<|VO.nil ?_)
      refine VE.seqN ?_
      refine VC.drawH [[0,1,2,3,4,5], [1,2,3,4,5]] [some 0, some 0, some 0, some 0, some 0, some 0, some 0, some 0, some 0, some 0, some 0, some 0, some 0, some 0, some 0, some 0, some 0, some 0, some 0, some 0, some 0, some 0, some 0, some 0, some 0, none] mixed (by kernel_rfl) rfl (LX.l (fun _ hJ => LO.mv (.r rfl)) rfl<|LX.l (fun _ hJ => LO.mv (.r rfl)) rfl<|LX.l (fun _ hJ => LO.ixa (j := 1) (r := 1) Tryz.underlying402 N3 (.r rfl) (.r rfl) rfl (by decide) rfl) rfl<|LX.l (fun _ hJ => LO.ld O3 (.r rfl) (fun _ hw => cells_at (hJ _ hw) 2 rfl ⟨_, rfl⟩)) rfl<|LX.l (fun _ hJ => LO.mv (.r rfl)) rfl<|LX.l (fun _ hJ => LO.len S40 (.r rfl) rfl) rfl<|LX.l (fun _ hJ => LO.call (xs := [_,_]) (vs := [_,_]) C179 ⟨(.r rfl), (.r rfl), trivial⟩ (fun w _ => down_c _ _ (by omega) (by omega) (by omega) w)) rfl<|LX.l (fun _ hJ => LO.fa (r := 2) F27_2 (.r rfl) rfl) rfl<|LX.l (fun _ hJ => LO.fa (r := 3) F25_1 (.r rfl) rfl) rfl<|LX.l (fun _ hJ => LO.ld O3 (.r rfl) (fun _ hw => cells_at (hJ _ hw) 4 rfl ⟨_, rfl⟩)) rfl<|LX.l (fun _ hJ => LO.sub (.r rfl) (.r rfl) (wi (by omega) (by omega))) rfl<|LX.l (fun _ hJ => LO.max (.r rfl) (.r rfl)) rfl<|LX.l (fun _ hJ => LO.mv (.r rfl)) rfl<|LX.l (fun _ hJ => LO.ixa (j := 1) (r := 1) Tryz.underlying402 N3 (.r rfl) (.r rfl) rfl (by decide) rfl) rfl<|LX.l (fun _ hJ => LO.ld O3 (.r rfl) (fun _ hw => cells_at (hJ _ hw) 1 rfl ⟨_, rfl⟩)) rfl<|LX.l (fun _ hJ => LO.mv (.r rfl)) rfl<|LX.l (fun _ hJ => LO.len S40 (.r rfl) rfl) rfl<|LX.l (fun _ hJ => LO.call (xs := [_,_]) (vs := [_,_]) C180 ⟨(.r rfl), (.r rfl), trivial⟩ (fun w _ => up_c _ _ (by omega) (by omega) (by omega) w)) rfl<|LX.l (fun _ hJ => LO.fa (r := 2) F27_2 (.r rfl) rfl) rfl<|LX.l (fun _ hJ => LO.fa (r := 2) F25_0 (.r rfl) rfl) rfl<|LX.l (fun _ hJ => LO.ld O3 (.r rfl) (fun _ hw => cells_at (hJ _ hw) 4 rfl ⟨_, rfl⟩)) rfl<|LX.l (fun _ hJ => LO.sub (.r rfl) (.r rfl) (wi (by unfold up; omega) (by unfold up; omega))) rfl<|LX.l (fun _ hJ => LO.max (.r rfl) (.r rfl)) rfl<|LX.l (fun _ hJ => LO.bd (ps := [(_,_), (_,_)]) (vs := [(_,_), (_,_)]) (C := [_,_]) B25  ⟨(.r rfl), (.r rfl), trivial⟩ rfl ⟨_, [_], [_,_], rfl, rfl, rfl, rfl, ⟨_, [_], [_,_], rfl, rfl, rfl, rfl, rfl⟩⟩) rfl<|LX.l (fun _ hJ => LO.ixa (j := 1) (r := 2) Tryz.underlying404 N25 (.r rfl) (.r rfl) rfl (by decide) rfl) rfl<|LX.s<|LX.nil) (HX.s<|HX.s<|HX.s<|HX.s<|HX.s<|HX.s<|HX.s<|HX.s<|HX.s<|HX.s<|HX.s<|HX.s<|HX.s<|HX.s<|HX.s<|HX.s<|HX.s<|HX.s<|HX.s<|HX.s<|HX.s<|HX.s<|HX.s<|HX.s<|HX.s<|HX.h0<|HO.st 0 (vs := [_,_]) (C' := [_,_,_,_]) (L' := [_,_,_,_,_,_]) N25 rfl rfl rfl rfl rfl rfl rfl rfl<|⟨fun _ hw => hw.sel [1,2,3,4,5] rfl, HX.nil ?_⟩)
      refine VE.inN (VE.seqN ?_)
      refine VC.reg (VO.l (LO.add (.r rfl) (.r rfl) (wi (by omega) (by omega))) rfl<|VO.l (LO.mv (.r rfl)) rfl<|VO.nil ?_)
      refine VE.thenN fun a w ha hw => ⟨((1 + 1),_,_,_,_), (by first | exact ⟨by omega, fun _ => ⟨rfl, rfl⟩, fun q => absurd q (by omega)⟩ | exact ⟨by omega, fun _ => hI1 (by omega), fun _ => ⟨rfl, rfl⟩⟩), (by dsimp only; omega), ha.sub (.cons rfl (.cons rfl (.cons rfl (.cons rfl (.cons rfl (.cons rfl (.cons rfl (.cons rfl .nil)))))))), hw⟩
  ·
    refine VC.exit (VE.thenX (VE.thenX (VE.inX (VE.seqN ?_))))
    refine VC.seq ?_
    have hi2 : i = 2 := by omega
    subst hi2
    obtain ⟨rfl, rfl⟩ := hI1 (by omega)
    obtain ⟨rfl, rfl⟩ := hI2 (by omega)
    refine VC.reg (VO.l (LO.ixa (j := 0) (r := 0) Tryz.underlying404 N25 (.r rfl) (.r rfl) rfl (by decide) rfl) rfl<|VO.l (LO.lda (vs := [_,_]) A25 (.r rfl) (fun _ hw => cells_at hw 0 rfl ⟨_, rfl⟩) rfl) rfl<|VO.l (LO.bd (ps := [(_,_), (_,_)]) (vs := [(_,_), (_,_)]) (C := [_,_,_,_,_,_,_,_,_,_,_,_,_,_]) B76  ⟨(.r rfl), (.r rfl), trivial⟩ rfl ⟨_, [_], [_,_,_,_,_,_,_,_,_,_,_,_,_,_], rfl, rfl, rfl, rfl, ⟨_, [_,_], [_,_,_,_,_,_,_,_,_,_,_,_,_,_], rfl, rfl, rfl, rfl, rfl⟩⟩) rfl<|VO.h rfl<|HO.alloc (C := #[_,_,_,_,_,_,_,_,_,_,_,_,_,_]) Z76 rfl fun b13 => VO.h0<|HO.st 0 (vs := [_,_,_,_,_,_,_,_,_,_,_,_,_,_]) (C' := [_,_,_,_,_,_,_,_,_,_,_,_,_,_]) (L' := [_,_,_,_,_,_,_]) N76 rfl rfl rfl rfl rfl rfl rfl rfl<|VO.nil ?_)
    refine VE.seqN ?_
    refine VC.seq ?_
    refine VC.seq ?_
    refine VC.reg (VO.l (LO.lda (vs := [_,_,_,_]) A404 (.r rfl) (fun _ hw => cells_at hw 1 rfl ⟨_, rfl⟩) rfl) rfl<|VO.l (LO.ixa (j := 0) (r := 0) Tryz.underlying404 N25 (.r rfl) (.r rfl) rfl (by decide) rfl) rfl<|VO.l (LO.fa (r := 1) F25_1 (.r rfl) rfl) rfl<|VO.l (LO.ld O3 (.r rfl) (fun _ hw => cells_at hw 1 rfl ⟨_, rfl⟩)) rfl<|VO.l (LO.bd (ps := [(_,_)]) (vs := [(_,_)]) (C := [_,_]) B25  ⟨(.r rfl), trivial⟩ rfl ⟨_, [_], [_,_], rfl, rfl, rfl, rfl, rfl⟩) rfl<|VO.l (LO.ixa (j := 1) (r := 2) Tryz.underlying404 N25 (.r rfl) (.r rfl) rfl (by decide) rfl) rfl<|VO.l (LO.lda (vs := [_,_]) A25 (.r rfl) (fun _ hw => cells_at hw 1 rfl ⟨_, rfl⟩) rfl) rfl<|VO.l (LO.bda (ps := [(_,_), (_,_)]) (vs := [(_,_), (_,_)]) (C := [_,_,_,_]) B404 rfl ⟨(.r rfl), (.r rfl), trivial⟩ rfl ⟨_, [_,_], [_,_,_,_], rfl, rfl, rfl, rfl, ⟨_, [_,_], [_,_,_,_], rfl, rfl, rfl, rfl, rfl⟩⟩) rfl<|VO.l (LO.eqA («as» := [_,_,_,_]) (bs := [_,_,_,_]) EA404 (.r rfl) (.r rfl) rfl rfl) rfl<|VO.nil ?_)
    refine VE.seqN ?_
    refine VC.cond rfl (fun h75 => ?_) (fun h75 => ?_)
    ·
      have hz : (pow0 r l).lo = 0 := by simpa using h75
      refine VC.seq ?_
      refine VC.reg (VO.l (LO.lda (vs := [_,_,_,_,_,_,_,_,_,_,_,_,_,_]) A76 (.r rfl) (fun _ hw => cells_at hw 0 rfl ⟨_, rfl⟩) rfl) rfl<|VO.h0<|HO.st 4 (vs := [_,_,_,_,_,_,_,_,_,_,_,_,_,_]) (C' := [_,_,_,_,_,_,_,_,_,_,_,_,_,_]) (L' := [_,_,_,_,_,_,_]) N76 rfl rfl rfl rfl rfl rfl rfl rfl<|VO.nil ?_)
      refine VE.seqN ?_
      refine VC.ret (VE.thenR (VE.res (vs := [_]) rfl ⟨RV.agg (vs := [_,_,_,_,_,_,_,_,_,_,_,_,_,_]) A76 rfl (cells_blk 4 rfl ⟨_, rfl⟩) rfl, trivial⟩ (fun w hw => ?_)))
      refine ⟨?_, hw.nil⟩
      simp only [resV]
      first | (rw [hearX, if_pos hz]; rfl) | (rw [hearX, if_neg hz, if_pos (fun q => h182 (good_iff.1 q))]; rfl) | (rw [hearX, if_neg hz, if_neg (fun q => q (good_iff.2 (Classical.not_not.1 h182))), meanS_eq, meanS_eq, meanS_eq, ← tlen]; rfl)
    ·
      have hz : ¬ (pow0 r l).lo = 0 := fun q => h75 (by rw [q])
      have hpw := pow_bd (r := r) (l := l) hr (by omega) hs
      have x1 := share_bd (a := sumX (-r.level) l) (by omega) (by omega)
      have x2 := share_bd (a := sumX r.level l) (by omega) (by omega)
      have y1 := prod_bd (A := 80000000) (B := 80000000) (x := sumH r.level l) (y := sumV r.level l) (by omega) (by omega) (by omega) (by omega)
      have y2 := prod_bd (A := 80000000) (B := 80000000) (x := sumH (-r.level) l) (y := sumV (-r.level) l) (by omega) (by omega) (by omega) (by omega)
      refine VC.skip (VE.seqN ?_)
      refine VC.seq ?_
      refine VC.drawH [[0,1,2,3,4,5,6], [1,2,3,4,5,6]] [some 0, some 0, some 0, some 0, some 0, some 0, some 0, some 0, some 0, some 0, some 0, some 0, some 0, some 0, some 0, some 0, some 0, some 0, some 0, some 0, none] mixed (by kernel_rfl) rfl (LX.l (fun _ hJ => LO.ixa (j := 1) (r := 2) Tryz.underlying404 N25 (.r rfl) (.r rfl) rfl (by decide) rfl) rfl<|LX.l (fun _ hJ => LO.fa (r := 2) F25_0 (.r rfl) rfl) rfl<|LX.l (fun _ hJ => LO.ld O3 (.r rfl) (fun _ hw => cells_at (hJ _ hw) 1 rfl ⟨_, rfl⟩)) rfl<|LX.l (fun _ hJ => LO.mul (.r rfl) (.r rfl) (wi (by omega) (by omega))) rfl<|LX.l (fun _ hJ => LO.ixa (j := 0) (r := 0) Tryz.underlying404 N25 (.r rfl) (.r rfl) rfl (by decide) rfl) rfl<|LX.l (fun _ hJ => LO.fa (r := 1) F25_1 (.r rfl) rfl) rfl<|LX.l (fun _ hJ => LO.ld O3 (.r rfl) (fun _ hw => cells_at (hJ _ hw) 1 rfl ⟨_, rfl⟩)) rfl<|LX.l (fun _ hJ => LO.quo (.r rfl) (.r rfl) (by omega) (quo_nn (by omega) (by omega) (by omega))) rfl<|LX.l (fun _ hJ => LO.min (.r rfl) (.r rfl)) rfl<|LX.l (fun _ hJ => LO.ixa (j := 1) (r := 2) Tryz.underlying404 N25 (.r rfl) (.r rfl) rfl (by decide) rfl) rfl<|LX.l (fun _ hJ => LO.fa (r := 3) F25_1 (.r rfl) rfl) rfl<|LX.l (fun _ hJ => LO.ld O3 (.r rfl) (fun _ hw => cells_at (hJ _ hw) 1 rfl ⟨_, rfl⟩)) rfl<|LX.l (fun _ hJ => LO.mul (.r rfl) (.r rfl) (wi (by omega) (by omega))) rfl<|LX.l (fun _ hJ => LO.ixa (j := 0) (r := 0) Tryz.underlying404 N25 (.r rfl) (.r rfl) rfl (by decide) rfl) rfl<|LX.l (fun _ hJ => LO.fa (r := 0) F25_0 (.r rfl) rfl) rfl<|LX.l (fun _ hJ => LO.ld O3 (.r rfl) (fun _ hw => cells_at (hJ _ hw) 1 rfl ⟨_, rfl⟩)) rfl<|LX.l (fun _ hJ => LO.call (xs := [_,_]) (vs := [_,_]) C180 ⟨(.r rfl), (.r rfl), trivial⟩ (fun w _ => up_c _ _ (by omega) (by omega) (by omega) w)) rfl<|LX.l (fun _ hJ => LO.min (.r rfl) (.r rfl)) rfl<|LX.l (fun _ hJ => LO.bd (ps := [(_,_), (_,_)]) (vs := [(_,_), (_,_)]) (C := [_,_]) B25  ⟨(.r rfl), (.r rfl), trivial⟩ rfl ⟨_, [_], [_,_], rfl, rfl, rfl, rfl, ⟨_, [_], [_,_], rfl, rfl, rfl, rfl, rfl⟩⟩) rfl<|LX.l (fun _ hJ => LO.fa (r := 8) F76_4 (.r rfl) rfl) rfl<|LX.s<|LX.nil) (HX.s<|HX.s<|HX.s<|HX.s<|HX.s<|HX.s<|HX.s<|HX.s<|HX.s<|HX.s<|HX.s<|HX.s<|HX.s<|HX.s<|HX.s<|HX.s<|HX.s<|HX.s<|HX.s<|HX.s<|HX.h0<|HO.st 0 (vs := [_,_]) (C' := [_,_,_,_,_,_,_,_,_,_,_,_,_,_]) (L' := [_,_,_,_,_,_,_]) N25 rfl rfl rfl rfl rfl rfl rfl rfl<|⟨fun _ hw => hw.sel [1,2,3,4,5,6] rfl, HX.nil ?_⟩)
      refine VE.seqN ?_
      refine VC.seq ?_
      refine VC.drawH [[0,1,2,3,4,5,6], [1,2,3,4,5,6]] [some 0, some 0, some 0, some 0, some 0, some 0, some 0, some 0, some 0, some 0, some 0, some 0, some 0, some 0, some 0, some 0, some 0, some 0, none] mixed (by kernel_rfl) rfl (LX.l (fun _ hJ => LO.ixa (j := 2) (r := 2) Tryz.underlying402 N3 (.r rfl) (.r rfl) rfl (by decide) rfl) rfl<|LX.l (fun _ hJ => LO.ld O3 (.r rfl) (fun _ hw => cells_at (hJ _ hw) 3 rfl ⟨_, rfl⟩)) rfl<|LX.l (fun _ hJ => LO.ixa (j := 0) (r := 0) Tryz.underlying402 N3 (.r rfl) (.r rfl) rfl (by decide) rfl) rfl<|LX.l (fun _ hJ => LO.ld O3 (.r rfl) (fun _ hw => cells_at (hJ _ hw) 2 rfl ⟨_, rfl⟩)) rfl<|LX.l (fun _ hJ => LO.ixa (j := 1) (r := 1) Tryz.underlying402 N3 (.r rfl) (.r rfl) rfl (by decide) rfl) rfl<|LX.l (fun _ hJ => LO.ld O3 (.r rfl) (fun _ hw => cells_at (hJ _ hw) 2 rfl ⟨_, rfl⟩)) rfl<|LX.l (fun _ hJ => LO.mul (.r rfl) (.r rfl) (wi (by omega) (by omega))) rfl<|LX.l (fun _ hJ => LO.call (xs := [_,_,_,_]) (vs := [_,_,_,_]) C181 ⟨(.r rfl), (.r rfl), (.r rfl), (.r rfl), trivial⟩ (fun w _ => shareD_c _ _ w (by omega) (by omega) (share_bd (by omega) (by omega)).2 (share_bd (by omega) (by omega)).1 (by omega))) rfl<|LX.l (fun _ hJ => LO.ixa (j := 2) (r := 2) Tryz.underlying402 N3 (.r rfl) (.r rfl) rfl (by decide) rfl) rfl<|LX.l (fun _ hJ => LO.ld O3 (.r rfl) (fun _ hw => cells_at (hJ _ hw) 2 rfl ⟨_, rfl⟩)) rfl<|LX.l (fun _ hJ => LO.ixa (j := 0) (r := 0) Tryz.underlying402 N3 (.r rfl) (.r rfl) rfl (by decide) rfl) rfl<|LX.l (fun _ hJ => LO.ld O3 (.r rfl) (fun _ hw => cells_at (hJ _ hw) 3 rfl ⟨_, rfl⟩)) rfl<|LX.l (fun _ hJ => LO.ixa (j := 1) (r := 1) Tryz.underlying402 N3 (.r rfl) (.r rfl) rfl (by decide) rfl) rfl<|LX.l (fun _ hJ => LO.ld O3 (.r rfl) (fun _ hw => cells_at (hJ _ hw) 3 rfl ⟨_, rfl⟩)) rfl<|LX.l (fun _ hJ => LO.mul (.r rfl) (.r rfl) (wi (by omega) (by omega))) rfl<|LX.l (fun _ hJ => LO.call (xs := [_,_,_,_]) (vs := [_,_,_,_]) C181 ⟨(.r rfl), (.r rfl), (.r rfl), (.r rfl), trivial⟩ (fun w _ => shareU_c _ _ w (by omega) (by omega) (share_bd (by omega) (by omega)).2 (share_bd (by omega) (by omega)).1 (by omega))) rfl<|LX.l (fun _ hJ => LO.bd (ps := [(_,_), (_,_)]) (vs := [(_,_), (_,_)]) (C := [_,_]) B25  ⟨(.r rfl), (.r rfl), trivial⟩ rfl ⟨_, [_], [_,_], rfl, rfl, rfl, rfl, ⟨_, [_], [_,_], rfl, rfl, rfl, rfl, rfl⟩⟩) rfl<|LX.l (fun _ hJ => LO.fa (r := 10) F76_5 (.r rfl) rfl) rfl<|LX.s<|LX.nil) (HX.s<|HX.s<|HX.s<|HX.s<|HX.s<|HX.s<|HX.s<|HX.s<|HX.s<|HX.s<|HX.s<|HX.s<|HX.s<|HX.s<|HX.s<|HX.s<|HX.s<|HX.s<|HX.h0<|HO.st 0 (vs := [_,_]) (C' := [_,_,_,_,_,_,_,_,_,_,_,_,_,_]) (L' := [_,_,_,_,_,_,_]) N25 rfl rfl rfl rfl rfl rfl rfl rfl<|⟨fun _ hw => hw.sel [1,2,3,4,5,6] rfl, HX.nil ?_⟩)
      refine VE.seqN ?_
      refine VC.seq ?_
      refine VC.reg (VO.h rfl<|HO.alloc (C := #[_,_]) Z406 rfl fun b20 => VO.nil ?_)
      refine VE.seqN ?_
      refine VC.weak (env' := [(2,_), (3,_), (4,_), (6,_), (11,_), (12,_)]) (.cons rfl (.cons rfl (.cons rfl (.cons rfl (.cons rfl (.cons rfl .nil)))))) (fun _ h => h) ?_
      refine VC.seq ?_
      refine VC.seq ?_
      refine VC.reg (VO.l (LO.lda (vs := [_,_,_,_,_]) A23 (.r rfl) (fun _ hw => cells_at hw 7 rfl ⟨_, rfl⟩) rfl) rfl<|VO.l (LO.mv (.r rfl)) rfl<|VO.h rfl<|HO.callx (xs := [_,_]) (vs := [_,_]) C182 ⟨(.r rfl), (.r rfl), trivial⟩ (fun w _ => steps_c t l p c w) fun q _ => VO.nil ?_)
      refine VE.seqN ?_
      refine VC.block ?_
      refine VC.rangeFuncF (α := Nat × (Option Addr × Nat) × (Option Addr × Nat)) (fun x => [own 3 1 x.2.1.1 x.2.1.2 ((stS ((stQ t.kind l (l.length - 1)).take x.1) 0).map intC), own 3 1 x.2.2.1 x.2.2.2 ((stS ((stQ t.kind l (l.length - 1)).take x.1) 1).map intC), blk b20 (.cells #[.slice x.2.1.1 (stS ((stQ t.kind l (l.length - 1)).take x.1) 0).length x.2.1.2, .slice x.2.2.1 (stS ((stQ t.kind l (l.length - 1)).take x.1) 1).length x.2.2.2] 406), blk q.1 (.cells #[.slice p l.length c] 40), blk q.2 (.cells #[.int .i64 t.lam, .int .i64 t.kind, .int .i64 t.first, .int .i64 t.second, .int .i64 t.count] 23), blk b13 (.cells #[.int .i64 1, .int .i64 (pow0 r l).lo, .int .i64 (pow0 r l).hi, .int .i64 0, .int .i64 0, .int .i64 0, .int .i64 0, .int .i64 0, .int .i64 (ratioS (pow0 r l) (pow1 r l)).lo, .int .i64 (ratioS (pow0 r l) (pow1 r l)).hi, .int .i64 (mtchS r l).lo, .int .i64 (mtchS r l).hi, .int .i64 0, .int .i64 0] 76), blk b3 (.cells #[.int .i64 0, .int .i64 0, .int .i64 0, .int .i64 0, .int .i64 0, .int .i64 0, .int .i64 0, .int .i64 0, .int .i64 0, .int .i64 0, .int .i64 0, .int .i64 0, .int .i64 0, .int .i64 0] 76), blk b2 (.cells #[.int .i64 r.level, .int .i64 r.phase, .int .i64 r.nlo, .int .i64 r.nhi] 27), blk b1 (.cells #[.int .i64 t.lam, .int .i64 t.kind, .int .i64 t.first, .int .i64 t.second, .int .i64 t.count] 23)]) (fun n x => x.1 = n ∧ n ≤ (stQ t.kind l (l.length - 1)).length) (fun c n x => False) (0, (none, 0), (none, 0)) (fun vs => [(13, vs.getD 0 (.bool false)), (14, vs.getD 1 (.bool false)), (12, .pointer (some ⟨b20,0, none⟩))]) rfl C226 (steps_seq t l p c q.1 q.2 hln.2 (by omega) hc htk hs) (fun _ h => ((h.sel [2,0,1,3,7,8,9] rfl).ownNil 3 1).ownNil 3 1) (⟨rfl, Nat.zero_le _⟩) (fun vs hv => by obtain ⟨n,_, rfl⟩ := List.mem_map.1 hv; rfl) (by decide) (fun n x w2 _ h hfr => ⟨cells_inv (h 3 _ rfl), cells_inv (h 4 _ rfl), ro_fr (fun k hk => hfr k hk (fun q => q)) hl⟩) ?_ ?_ ?_ ?_
      ·
        intro n x vs lY T w1 hI hxs hst
        obtain ⟨v, rfl, hv⟩ := pair_of hxs
        obtain ⟨xn, ⟨xp, xc⟩, xq, xd⟩ := x
        obtain ⟨hxn, hle⟩ := hI
        dsimp only at hxn
        subst hxn
        have hlt : xn < (stQ t.kind l (l.length - 1)).length := (List.getElem?_eq_some_iff.1 hv).1
        have hv01 := stQ_01 htk hv
        have hsl := stS_len (stQ_len t.kind l (l.length - 1)) (n := xn)
        refine VC.seq ?_
        refine VC.reg (VO.l (LO.as (.r rfl)) rfl<|VO.nil ?_)
        refine VE.seqN ?_
        refine VC.reg (VO.l (LO.as (.r rfl)) rfl<|VO.nil ?_)
        exact fun a w ha hw => ⟨rfl, ha.sub (.cons rfl (.cons rfl (.cons rfl .nil))), hw⟩
      ·
        intro n x vs lY T w1 hI hxs hst
        obtain ⟨v, rfl, hv⟩ := pair_of hxs
        obtain ⟨xn, ⟨xp, xc⟩, xq, xd⟩ := x
        obtain ⟨hxn, hle⟩ := hI
        dsimp only at hxn
        subst hxn
        have hlt : xn < (stQ t.kind l (l.length - 1)).length := (List.getElem?_eq_some_iff.1 hv).1
        have hv01 := stQ_01 htk hv
        have hsl := stS_len (stQ_len t.kind l (l.length - 1)) (n := xn)
        refine VC.block ?_
        rcases hv01 with hv0 | hv0
        ·
          refine VC.reg (VO.l (LO.mv (.r rfl)) rfl<|VO.l (LO.mv (.r rfl)) rfl<|VO.l (LO.ixa (j := 0) (r := 0) Tryz.underlying406 N112 (.r rfl) (.r rfl) hv0 (by decide) rfl) rfl<|VO.l (LO.ld O112 (.r rfl) (fun _ hw => cells_at hw 2 rfl ⟨_, rfl⟩)) rfl<|VO.l (LO.mv (.r rfl)) rfl<|VO.h rfl<|HO.bs (ps := [(_,_)]) (vs := [(_,_)]) (Z := [_]) (C := [_]) S112 Z3 N3 ⟨(.r rfl), trivial⟩ rfl rfl rfl rfl ⟨_, [_], [_], rfl, rfl, rfl, rfl, rfl⟩ fun b71 => VO.h rfl<|HO.appT (v.2) 1 0 (fun R => [_, R,_,_,_,_,_,_,_,_] ++ T) S112 S112 I3 (.r rfl) (.r rfl) rfl rfl rfl rfl rfl rfl rfl (fun _ => rfl) rfl (by dsimp only; omega) fun p6 c6 => VO.l (LO.ixa (j := 0) (r := 0) Tryz.underlying406 N112 (.r rfl) (.r rfl) hv0 (by decide) rfl) rfl<|VO.h0<|HO.st 3 (vs := [_]) (C' := [_,_]) N112 rfl rfl rfl rfl rfl rfl rfl rfl<|VO.nil ?_)
          refine VE.inN ?_
          first
          | exact fun a w ha hw => ⟨(xn + 1, (p6, c6), (xq, xd)), ⟨rfl, by omega⟩, hw.tl.eqL (by dsimp only; rw [stS_yes hv hv0, stS_no (w := 1) hv (by omega)]; rfl)⟩
          | exact fun a w ha hw => ⟨(xn + 1, (xp, xc), (p6, c6)), ⟨rfl, by omega⟩, hw.tl.eqL (by dsimp only; rw [stS_yes hv hv0, stS_no (w := 0) hv (by omega)]; rfl)⟩
        ·
          refine VC.reg (VO.l (LO.mv (.r rfl)) rfl<|VO.l (LO.mv (.r rfl)) rfl<|VO.l (LO.ixa (j := 1) (r := 1) Tryz.underlying406 N112 (.r rfl) (.r rfl) hv0 (by decide) rfl) rfl<|VO.l (LO.ld O112 (.r rfl) (fun _ hw => cells_at hw 2 rfl ⟨_, rfl⟩)) rfl<|VO.l (LO.mv (.r rfl)) rfl<|VO.h rfl<|HO.bs (ps := [(_,_)]) (vs := [(_,_)]) (Z := [_]) (C := [_]) S112 Z3 N3 ⟨(.r rfl), trivial⟩ rfl rfl rfl rfl ⟨_, [_], [_], rfl, rfl, rfl, rfl, rfl⟩ fun b73 => VO.h rfl<|HO.appT (v.2) 2 0 (fun R => [_,_, R,_,_,_,_,_,_,_] ++ T) S112 S112 I3 (.r rfl) (.r rfl) rfl rfl rfl rfl rfl rfl rfl (fun _ => rfl) rfl (by dsimp only; omega) fun p6 c6 => VO.l (LO.ixa (j := 1) (r := 1) Tryz.underlying406 N112 (.r rfl) (.r rfl) hv0 (by decide) rfl) rfl<|VO.h0<|HO.st 3 (vs := [_]) (C' := [_,_]) N112 rfl rfl rfl rfl rfl rfl rfl rfl<|VO.nil ?_)
          refine VE.inN ?_
          first
          | exact fun a w ha hw => ⟨(xn + 1, (p6, c6), (xq, xd)), ⟨rfl, by omega⟩, hw.tl.eqL (by dsimp only; rw [stS_yes hv hv0, stS_no (w := 1) hv (by omega)]; rfl)⟩
          | exact fun a w ha hw => ⟨(xn + 1, (xp, xc), (p6, c6)), ⟨rfl, by omega⟩, hw.tl.eqL (by dsimp only; rw [stS_yes hv hv0, stS_no (w := 0) hv (by omega)]; rfl)⟩
      ·
        intro D x hI
        obtain ⟨xn, ⟨xp, xc⟩, xq, xd⟩ := x
        obtain ⟨hxn, hle⟩ := hI
        have hxn : xn = (stQ t.kind l (l.length - 1)).length := by simpa [List.length_map] using hxn
        subst hxn
        dsimp only
        rw [List.take_length, stS_all 0 (by decide), stS_all 1 (by decide)]
        have l0 := stL_len t.kind l 0
        have l1 := stL_len t.kind l 1
        have s0T := stL_inT t.kind l 0
        have s1T := stL_inT t.kind l 1
        have w0 := wid_bd s0T
        have w1 := wid_bd s1T
        have e0 := arcR_bd s0T
        have e1 := arcR_bd s1T
        have tT := turnL_inT l
        have eT := arcR_bd tT
        have tlen : (turnL l).length = l.length := List.length_map ..
        have m0 : 0 ≤ arcSum (stL t.kind l 0) ∧ arcSum (stL t.kind l 0) ≤ 131070 * ((stL t.kind l 0).length : Int) := arcT_bd _ (by omega) (by omega)
        have m1 : 0 ≤ arcSum (stL t.kind l 1) ∧ arcSum (stL t.kind l 1) ≤ 131070 * ((stL t.kind l 1).length : Int) := arcT_bd _ (by omega) (by omega)
        have mT : 0 ≤ arcSum (turnL l) ∧ arcSum (turnL l) ≤ 131070 * ((turnL l).length : Int) := arcT_bd _ (by omega) (by omega)
        skip
        refine VE.inN (VE.seqN ?_)
        refine VC.seq ?_
        refine VC.reg (VO.l (LO.as (.r rfl)) rfl<|VO.nil ?_)
        refine VE.seqN ?_
        refine VC.seq ?_
        refine VC.seq ?_
        refine VC.reg (VO.l (LO.mv (.r rfl)) rfl<|VO.l (LO.len S40 (.r rfl) rfl) rfl<|VO.l (LO.mv (.r rfl)) rfl<|VO.nil ?_)
        refine VE.seqN ?_
        refine VC.block ?_
        refine VC.loopK (α := Nat × (List Int) × (Option Addr) × Nat) 0 (fun gx => [(15, .slice gx.2.2.1 gx.2.1.length gx.2.2.2), (130, .int .i64 (gx.1 : Nat))]) [(3,_), (4,_), (6,_), (11,_), (12,_), (128,_), (129,_)] (fun gx => [own 3 1 gx.2.2.1 gx.2.2.2 (gx.2.1.map intC)]) (fun gx => gx.1 ≤ l.length ∧ gx.2.1 = turnL (l.take gx.1)) (fun gx => l.length - gx.1) (0, [], none, 0) (by exact ⟨Nat.zero_le _, rfl⟩) (.cons rfl (.cons rfl (.cons rfl (.cons rfl (.cons rfl (.cons rfl (.cons rfl (.cons rfl (.cons rfl .nil))))))))) (fun _ h => (h.ownNil 3 1)) ?_
        rintro ⟨j, tl, pt, ct⟩ ⟨hj, hTl⟩
        show VC _ _ _ _ _ ([(15, .slice pt tl.length ct), (130, .int .i64 (j : Nat))] ++ _) ([own 3 1 pt ct (tl.map intC)] ++ _) _ _
        dsimp only at hj hTl
        have htl : tl.length = j := by rw [hTl]; simp [turnL]; omega
        refine VC.seq ?_
        refine VC.reg (VO.l (LO.lt (.r rfl) (.r rfl)) rfl<|VO.nil ?_)
        refine VE.seqN ?_
        refine VC.seq ?_
        refine VC.cond rfl (fun h3 => ?_) (fun h3 => ?_)
        ·
          refine VC.skip (VE.seqN ?_)
          refine VC.seq ?_
          refine VC.block ?_
          refine VC.seq ?_
          refine VC.reg (VO.l (LO.ixs S40 N50 hl.sm (.r rfl) (.r rfl) rfl (by omega)) rfl<|VO.l (LO.lda (vs := [_,_,_,_]) A50 (.r rfl) (fun w hw => cells_part (off := 0) ((hl.at zSm (j := j) (by omega)) w hw) ⟨_, rfl⟩) rfl) rfl<|VO.h rfl<|HO.alloc (C := #[_,_,_,_]) Z50 rfl fun b100 => VO.h0<|HO.st 0 (vs := [_,_,_,_]) (C' := [_,_,_,_]) N50 rfl rfl rfl rfl rfl rfl rfl rfl<|VO.nil ?_)
          refine VE.seqN ?_
          have q1 := hs _ (getD_mem (d := zSm) (show j < l.length by omega))
          unfold smpOk at q1
          refine VC.reg (VO.l (LO.mv (.r rfl)) rfl<|VO.l (LO.fa (r := 3) F50_3 (.r rfl) rfl) rfl<|VO.l (LO.ld O3 (.r rfl) (fun _ hw => cells_at hw 0 rfl ⟨_, rfl⟩)) rfl<|VO.l (LO.fa (r := 1) F50_1 (.r rfl) rfl) rfl<|VO.l (LO.ld O3 (.r rfl) (fun _ hw => cells_at hw 0 rfl ⟨_, rfl⟩)) rfl<|VO.l (LO.sub (.r rfl) (.r rfl) (wi (by omega) (by omega))) rfl<|VO.l (LO.call (xs := [_]) (vs := [_]) C112 ⟨(.r rfl), trivial⟩ (fun w _ => wrap_c _ w)) rfl<|VO.h rfl<|HO.bs (ps := [(_,_)]) (vs := [(_,_)]) (Z := [_]) (C := [_]) S112 Z3 N3 ⟨(.r rfl), trivial⟩ rfl rfl rfl rfl ⟨_, [_], [_], rfl, rfl, rfl, rfl, rfl⟩ fun b102 => VO.h rfl<|HO.appT ((wr ((l.getD j zSm).q - (l.getD j zSm).p))) 2 0 (fun R => [_,_, R,_,_,_,_,_,_,_,_,_,_]) S112 S112 I3 (.r rfl) (.r rfl) rfl rfl rfl rfl rfl rfl rfl (fun _ => rfl) rfl (by omega) fun p8 c8 => VO.h rfl<|HO.lo (LO.as (.r rfl))<|VO.nil ?_)
          refine VE.inN (VE.seqN ?_)
          refine VC.reg (VO.l (LO.add (.r rfl) (.r rfl) (wi (by omega) (by omega))) rfl<|VO.l (LO.mv (.r rfl)) rfl<|VO.nil ?_)
          refine VE.thenN fun a w ha hw => ⟨(j + 1, tl ++ [wr ((l.getD j zSm).q - (l.getD j zSm).p)], p8, c8), ⟨by dsimp only; omega, by dsimp only; rw [turn_step (by omega), hTl]⟩, (by dsimp only; omega), ha.sub (.cons rfl (.cons rfl (.cons rfl (.cons rfl (.cons rfl (.cons rfl (.cons rfl (.cons rfl (.cons rfl .nil))))))))), hw.sel [2,3,4,5,6,7,8,9,10,11,12] rfl⟩
        ·
          refine VC.exit (VE.thenX (VE.thenX (VE.inX (VE.seqN ?_))))
          refine VC.seq ?_
          have hj2 : j = l.length := by omega
          subst hj2
          rw [List.take_length] at hTl
          subst hTl
          refine VC.reg (VO.l (LO.fa (r := 0) F76_0 (.r rfl) rfl) rfl<|VO.h0<|HO.st 6 (vs := [_]) (C' := [_,_,_,_,_,_,_,_,_,_,_,_,_,_]) N3 rfl rfl rfl rfl rfl rfl rfl rfl<|VO.nil ?_)
          refine VE.seqN ?_
          refine VC.seq ?_
          refine VC.reg (VO.h rfl<|HO.alloc (C := #[_,_,_,_,_,_,_,_]) Z412 rfl fun b104 => VO.nil ?_)
          refine VE.seqN ?_
          refine VC.seq ?_
          refine VC.reg (VO.l (LO.mv (.r rfl)) rfl<|VO.l (LO.call (xs := [_]) (vs := [_]) C183 ⟨(.r rfl), trivial⟩ (fun w hw => arcOf_c (turnL l) _ _ w (by omega) (RO.of_own hw 1 rfl) tT)) rfl<|VO.h rfl<|HO.alloc (C := #[_,_,_,_]) Z411 rfl fun b105 => VO.h0<|HO.st 0 (vs := [_,_,_,_]) (C' := [_,_,_,_]) N411 rfl rfl rfl rfl rfl rfl rfl rfl<|VO.nil ?_)
          refine VE.seqN ?_
          refine VC.seq ?_
          refine VC.reg (VO.l (LO.lda (vs := [_,_,_,_]) A411 (.r rfl) (fun _ hw => cells_at hw 0 rfl ⟨_, rfl⟩) rfl) rfl<|VO.l (LO.fa (r := 1) F27_1 (.r rfl) rfl) rfl<|VO.l (LO.ld O3 (.r rfl) (fun _ hw => cells_at hw 10 rfl ⟨_, rfl⟩)) rfl<|VO.l (LO.call (xs := [_,_]) (vs := [_,_]) C184 ⟨(.r rfl), (.r rfl), trivial⟩ (fun w _ => tog_c _ _ _ _ _ w (by omega) (by omega) (by omega) (by omega))) rfl<|VO.l (LO.as (.r rfl)) rfl<|VO.nil ?_)
          refine VE.seqN ?_
          refine VC.seq ?_
          refine VC.seq ?_
          refine VC.reg (VO.l (LO.lda (vs := [_,_]) A406 (.r rfl) (fun _ hw => cells_at hw 5 rfl ⟨_, rfl⟩) rfl) rfl<|VO.l (LO.mv (.r rfl)) rfl<|VO.nil ?_)
          refine VE.seqN ?_
          refine VC.block ?_
          refine VC.perm [1,8,0,2,3,4,5,6,7,9,10,11,12] rfl ?_
          refine VC.loopK (α := Nat × Bool × Int × Int × Int × Int × Int × Int × Int × Int × Int) 2 (fun gx => [(20, .bool gx.2.1), (152, .int .i64 (gx.1 : Nat))]) [(3,_), (4,_), (6,_), (11,_), (18,_), (19,_), (151,_)] (fun gx => [blk b104 (.cells #[.int .i64 gx.2.2.2.1, .int .i64 gx.2.2.2.2.1, .int .i64 gx.2.2.2.2.2.1, .int .i64 gx.2.2.2.2.2.2.1, .int .i64 gx.2.2.2.2.2.2.2.1, .int .i64 gx.2.2.2.2.2.2.2.2.1, .int .i64 gx.2.2.2.2.2.2.2.2.2.1, .int .i64 gx.2.2.2.2.2.2.2.2.2.2] 412), blk b13 (.cells #[.int .i64 2, .int .i64 (pow0 r l).lo, .int .i64 (pow0 r l).hi, .int .i64 0, .int .i64 0, .int .i64 0, .int .i64 0, .int .i64 gx.2.2.1, .int .i64 (ratioS (pow0 r l) (pow1 r l)).lo, .int .i64 (ratioS (pow0 r l) (pow1 r l)).hi, .int .i64 (mtchS r l).lo, .int .i64 (mtchS r l).hi, .int .i64 0, .int .i64 0] 76)]) (fun gx => (gx.1 = 0 ∧ gx.2.1 = (togT (turnL l) r.phase) ∧ gx.2.2.1 = 0 ∧ gx.2.2.2.1 = 0 ∧ gx.2.2.2.2.1 = 0 ∧ gx.2.2.2.2.2.1 = 0 ∧ gx.2.2.2.2.2.2.1 = 0 ∧ gx.2.2.2.2.2.2.2.1 = 0 ∧ gx.2.2.2.2.2.2.2.2.1 = 0 ∧ gx.2.2.2.2.2.2.2.2.2.1 = 0 ∧ gx.2.2.2.2.2.2.2.2.2.2 = 0) ∨ (gx.1 = 1 ∧ gx.2.1 = ((togT (turnL l) r.phase) && (togV (stL t.kind l 0) r.phase)) ∧ gx.2.2.1 = (max 0 (wid (stL t.kind l 0))) ∧ gx.2.2.2.1 = (arcR (stL t.kind l 0)).1 ∧ gx.2.2.2.2.1 = (wid (stL t.kind l 0)) ∧ gx.2.2.2.2.2.1 = (arcSum (stL t.kind l 0)) ∧ gx.2.2.2.2.2.2.1 = ((stL t.kind l 0).length : Int) ∧ gx.2.2.2.2.2.2.2.1 = 0 ∧ gx.2.2.2.2.2.2.2.2.1 = 0 ∧ gx.2.2.2.2.2.2.2.2.2.1 = 0 ∧ gx.2.2.2.2.2.2.2.2.2.2 = 0) ∨ (gx.1 = 2 ∧ gx.2.1 = (((togT (turnL l) r.phase) && (togV (stL t.kind l 0) r.phase)) && (togV (stL t.kind l 1) r.phase)) ∧ gx.2.2.1 = (max (max 0 (wid (stL t.kind l 0))) (wid (stL t.kind l 1))) ∧ gx.2.2.2.1 = (arcR (stL t.kind l 0)).1 ∧ gx.2.2.2.2.1 = (wid (stL t.kind l 0)) ∧ gx.2.2.2.2.2.1 = (arcSum (stL t.kind l 0)) ∧ gx.2.2.2.2.2.2.1 = ((stL t.kind l 0).length : Int) ∧ gx.2.2.2.2.2.2.2.1 = (arcR (stL t.kind l 1)).1 ∧ gx.2.2.2.2.2.2.2.2.1 = (wid (stL t.kind l 1)) ∧ gx.2.2.2.2.2.2.2.2.2.1 = (arcSum (stL t.kind l 1)) ∧ gx.2.2.2.2.2.2.2.2.2.2 = ((stL t.kind l 1).length : Int))) (fun gx => 2 - gx.1) (0, (togT (turnL l) r.phase), 0,0,0,0,0,0,0,0,0) (by exact .inl ⟨rfl, rfl, rfl, rfl, rfl, rfl, rfl, rfl, rfl, rfl, rfl⟩) (.cons rfl (.cons rfl (.cons rfl (.cons rfl (.cons rfl (.cons rfl (.cons rfl (.cons rfl (.cons rfl .nil))))))))) (fun _ h => h) ?_
          rintro ⟨i, gd, spr, x00, x01, x02, x03, x10, x11, x12, x13⟩ hI
          show VC _ _ _ _ _ ([(20, .bool gd), (152, .int .i64 (i : Nat))] ++ _) ([blk b104 (.cells #[.int .i64 x00, .int .i64 x01, .int .i64 x02, .int .i64 x03, .int .i64 x10, .int .i64 x11, .int .i64 x12, .int .i64 x13] 412), blk b13 (.cells #[.int .i64 2, .int .i64 (pow0 r l).lo, .int .i64 (pow0 r l).hi, .int .i64 0, .int .i64 0, .int .i64 0, .int .i64 0, .int .i64 spr, .int .i64 (ratioS (pow0 r l) (pow1 r l)).lo, .int .i64 (ratioS (pow0 r l) (pow1 r l)).hi, .int .i64 (mtchS r l).lo, .int .i64 (mtchS r l).hi, .int .i64 0, .int .i64 0] 76)] ++ _) _ _
          dsimp only at hI
          refine VC.seq ?_
          refine VC.reg (VO.l (LO.lt (.r rfl) (.r rfl)) rfl<|VO.nil ?_)
          refine VE.seqN ?_
          refine VC.seq ?_
          refine VC.cond rfl (fun h4 => ?_) (fun h4 => ?_)
          ·
            refine VC.skip (VE.seqN ?_)
            refine VC.seq ?_
            refine VC.block ?_
            refine VC.seq ?_
            rcases hI with ⟨rfl, rfl, rfl, rfl, rfl, rfl, rfl, rfl, rfl, rfl, rfl⟩ | ⟨rfl, rfl, rfl, rfl, rfl, rfl, rfl, rfl, rfl, rfl, rfl⟩ | ⟨q,_⟩
            ·
              refine VC.reg (VO.l (LO.mv (.r rfl)) rfl<|VO.l (LO.ixv (j := 0) Tryz.underlying406 O112 (.r rfl) (.r rfl) rfl (by decide) rfl) rfl<|VO.l (LO.as (.r rfl)) rfl<|VO.l (LO.as (.r rfl)) rfl<|VO.nil ?_)
              refine VE.seqN ?_
              refine VC.seq ?_
              refine VC.seq ?_
              refine VC.reg (VO.l (LO.mv (.r rfl)) rfl<|VO.l (LO.len S112 (.r rfl) rfl) rfl<|VO.l (LO.gt (.r rfl) (.r rfl)) rfl<|VO.nil ?_)
              refine VE.seqN ?_
              refine VC.cond rfl (fun h158 => ?_) (fun h158 => ?_)
              ·
                refine VC.reg (VO.l (LO.mv (.r rfl)) rfl<|VO.l (LO.mv (.r rfl)) rfl<|VO.l (LO.call (xs := [_]) (vs := [_]) C183 ⟨(.r rfl), trivial⟩ (fun w hw => arcOf_c (stL t.kind l 0) _ _ w (by omega) (RO.of_own hw 4 rfl) s0T)) rfl<|VO.l (LO.ixa (j := 0) (r := 0) Tryz.underlying412 N411 (.r rfl) (.r rfl) rfl (by decide) rfl) rfl<|VO.h0<|HO.st 0 (vs := [_,_,_,_]) (C' := [_,_,_,_,_,_,_,_]) N411 rfl rfl rfl rfl rfl rfl rfl rfl<|VO.nil ?_)
                refine VE.seqN ?_
                refine VC.seq ?_
                refine VC.drawH [[0,1,2,3,4,5,6,7,8,9,10,11,12], [0,2,3,4,5,6,7,8,9,10,11,12]] [some 0, some 0, some 0, some 0, some 0, some 0, some 0, some 0, none] mixed (by kernel_rfl) rfl (LX.l (fun _ hJ => LO.fa (r := 7) F76_3 (.r rfl) rfl) rfl<|LX.l (fun _ hJ => LO.ld O3 (.r rfl) (fun _ hw => cells_at (hJ _ hw) 1 rfl ⟨_, rfl⟩)) rfl<|LX.l (fun _ hJ => LO.mv (.r rfl)) rfl<|LX.l (fun _ hJ => LO.ixa (j := 0) (r := 0) Tryz.underlying412 N411 (.r rfl) (.r rfl) rfl (by decide) rfl) rfl<|LX.l (fun _ hJ => LO.fa (r := 1) F411_1 (.r rfl) rfl) rfl<|LX.l (fun _ hJ => LO.ld O3 (.r rfl) (fun _ hw => cells_at (hJ _ hw) 0 rfl ⟨_, rfl⟩)) rfl<|LX.l (fun _ hJ => LO.max (.r rfl) (.r rfl)) rfl<|LX.l (fun _ hJ => LO.fa (r := 7) F76_3 (.r rfl) rfl) rfl<|LX.s<|LX.nil) (HX.s<|HX.s<|HX.s<|HX.s<|HX.s<|HX.s<|HX.s<|HX.s<|HX.h0<|HO.st 1 (vs := [_]) (C' := [_,_,_,_,_,_,_,_,_,_,_,_,_,_]) N3 rfl rfl rfl rfl rfl rfl rfl rfl<|⟨selJ (L1 := [_,_,_,_,_,_,_,_,_,_,_,_]) [0,2,3,4,5,6,7,8,9,10,11,12] rfl rfl rfl, HX.nil ?_⟩)
                refine VE.seqN ?_
                refine VC.draw mixed (LL.l (LO.mv (.r rfl)) rfl<|LL.l (LO.mv (.r rfl)) rfl<|LL.lg rfl rfl (GD.t _) (fun hg => LO.mv (.r rfl)) rfl<|LL.lg rfl rfl (GD.t _) (fun hg => LO.ixa (j := 0) (r := 0) Tryz.underlying412 N411 (.r rfl) (.g hg rfl) rfl (by decide) rfl) rfl<|LL.lg rfl rfl (GD.t _) (fun hg => LO.lda (vs := [_,_,_,_]) A411 (.g hg rfl) (fun _ hw => cells_at hw 0 rfl ⟨_, rfl⟩) rfl) rfl<|LL.lg rfl rfl (GD.t _) (fun hg => LO.fa (r := 1) F27_1 (.r rfl) rfl) rfl<|LL.lg rfl rfl (GD.t _) (fun hg => LO.ld O3 (.g hg rfl) (fun _ hw => cells_at hw 10 rfl ⟨_, rfl⟩)) rfl<|LL.lg rfl rfl (GD.t _) (fun hg => LO.call (xs := [_,_]) (vs := [_,_]) C184 ⟨(.g hg rfl), (.g hg rfl), trivial⟩ (fun w _ => tog_c _ _ _ _ _ w (by omega) (by omega) (by omega) (by omega))) rfl<|LL.l (LO.pkA (.r rfl) rfl rfl (.r rfl)) rfl<|LL.l (LO.as (.r rfl)) rfl<|LL.nil) (by kernel_rfl) ?_
                refine VE.inN (VE.seqN ?_)
                refine VC.reg (VO.l (LO.add (.r rfl) (.r rfl) (wi (by omega) (by omega))) rfl<|VO.l (LO.mv (.r rfl)) rfl<|VO.nil ?_)
                refine VE.thenN fun a w ha hw => ⟨((0 + 1), ((togT (turnL l) r.phase) && (togV (stL t.kind l 0) r.phase)), (max 0 (wid (stL t.kind l 0))), (arcR (stL t.kind l 0)).1, (wid (stL t.kind l 0)), (arcSum (stL t.kind l 0)), ((stL t.kind l 0).length : Int), 0,0,0,0), (by first | exact .inr (.inl ⟨rfl, rfl, rfl, rfl, rfl, rfl, rfl, rfl, rfl, rfl, rfl⟩) | exact .inr (.inr ⟨rfl, rfl, rfl, rfl, rfl, rfl, rfl, rfl, rfl, rfl, rfl⟩)), (by dsimp only; omega), ha.sub (.cons (by first | exact tgA h158 | exact tgB h158) (.cons rfl (.cons rfl (.cons rfl (.cons rfl (.cons rfl (.cons rfl (.cons rfl (.cons rfl .nil))))))))), (hw).eqL (by dsimp only; first | (rw [wid_pos h158]; rfl) | (rw [wid_neg h158, arc_neg h158, sum_neg h158, len_neg h158]; rfl))⟩
              ·
                refine VC.skip (VE.seqN ?_)
                refine VC.seq ?_
                refine VC.drawH [[0,1,2,3,4,5,6,7,8,9,10,11,12], [0,2,3,4,5,6,7,8,9,10,11,12]] [some 0, some 0, some 0, some 0, some 0, some 0, some 0, some 0, none] mixed (by kernel_rfl) rfl (LX.l (fun _ hJ => LO.fa (r := 7) F76_3 (.r rfl) rfl) rfl<|LX.l (fun _ hJ => LO.ld O3 (.r rfl) (fun _ hw => cells_at (hJ _ hw) 1 rfl ⟨_, rfl⟩)) rfl<|LX.l (fun _ hJ => LO.mv (.r rfl)) rfl<|LX.l (fun _ hJ => LO.ixa (j := 0) (r := 0) Tryz.underlying412 N411 (.r rfl) (.r rfl) rfl (by decide) rfl) rfl<|LX.l (fun _ hJ => LO.fa (r := 1) F411_1 (.r rfl) rfl) rfl<|LX.l (fun _ hJ => LO.ld O3 (.r rfl) (fun _ hw => cells_at (hJ _ hw) 0 rfl ⟨_, rfl⟩)) rfl<|LX.l (fun _ hJ => LO.max (.r rfl) (.r rfl)) rfl<|LX.l (fun _ hJ => LO.fa (r := 7) F76_3 (.r rfl) rfl) rfl<|LX.s<|LX.nil) (HX.s<|HX.s<|HX.s<|HX.s<|HX.s<|HX.s<|HX.s<|HX.s<|HX.h0<|HO.st 1 (vs := [_]) (C' := [_,_,_,_,_,_,_,_,_,_,_,_,_,_]) N3 rfl rfl rfl rfl rfl rfl rfl rfl<|⟨selJ (L1 := [_,_,_,_,_,_,_,_,_,_,_,_]) [0,2,3,4,5,6,7,8,9,10,11,12] rfl rfl rfl, HX.nil ?_⟩)
                refine VE.seqN ?_
                refine VC.draw mixed (LL.l (LO.mv (.r rfl)) rfl<|LL.l (LO.mv (.r rfl)) rfl<|LL.lg rfl rfl (GD.t _) (fun hg => LO.mv (.r rfl)) rfl<|LL.lg rfl rfl (GD.t _) (fun hg => LO.ixa (j := 0) (r := 0) Tryz.underlying412 N411 (.r rfl) (.g hg rfl) rfl (by decide) rfl) rfl<|LL.lg rfl rfl (GD.t _) (fun hg => LO.lda (vs := [_,_,_,_]) A411 (.g hg rfl) (fun _ hw => cells_at hw 0 rfl ⟨_, rfl⟩) rfl) rfl<|LL.lg rfl rfl (GD.t _) (fun hg => LO.fa (r := 1) F27_1 (.r rfl) rfl) rfl<|LL.lg rfl rfl (GD.t _) (fun hg => LO.ld O3 (.g hg rfl) (fun _ hw => cells_at hw 10 rfl ⟨_, rfl⟩)) rfl<|LL.lg rfl rfl (GD.t _) (fun hg => LO.call (xs := [_,_]) (vs := [_,_]) C184 ⟨(.g hg rfl), (.g hg rfl), trivial⟩ (fun w _ => tog_c _ _ _ _ _ w (by omega) (by omega) (by omega) (by omega))) rfl<|LL.l (LO.pkA (.r rfl) rfl rfl (.r rfl)) rfl<|LL.l (LO.as (.r rfl)) rfl<|LL.nil) (by kernel_rfl) ?_
                refine VE.inN (VE.seqN ?_)
                refine VC.reg (VO.l (LO.add (.r rfl) (.r rfl) (wi (by omega) (by omega))) rfl<|VO.l (LO.mv (.r rfl)) rfl<|VO.nil ?_)
                refine VE.thenN fun a w ha hw => ⟨((0 + 1), ((togT (turnL l) r.phase) && (togV (stL t.kind l 0) r.phase)), (max 0 (wid (stL t.kind l 0))), (arcR (stL t.kind l 0)).1, (wid (stL t.kind l 0)), (arcSum (stL t.kind l 0)), ((stL t.kind l 0).length : Int), 0,0,0,0), (by first | exact .inr (.inl ⟨rfl, rfl, rfl, rfl, rfl, rfl, rfl, rfl, rfl, rfl, rfl⟩) | exact .inr (.inr ⟨rfl, rfl, rfl, rfl, rfl, rfl, rfl, rfl, rfl, rfl, rfl⟩)), (by dsimp only; omega), ha.sub (.cons (by first | exact tgA h158 | exact tgB h158) (.cons rfl (.cons rfl (.cons rfl (.cons rfl (.cons rfl (.cons rfl (.cons rfl (.cons rfl .nil))))))))), (hw).eqL (by dsimp only; first | (rw [wid_pos h158]; rfl) | (rw [wid_neg h158, arc_neg h158, sum_neg h158, len_neg h158]; rfl))⟩
            ·
              refine VC.reg (VO.l (LO.mv (.r rfl)) rfl<|VO.l (LO.ixv (j := 1) Tryz.underlying406 O112 (.r rfl) (.r rfl) rfl (by decide) rfl) rfl<|VO.l (LO.as (.r rfl)) rfl<|VO.l (LO.as (.r rfl)) rfl<|VO.nil ?_)
              refine VE.seqN ?_
              refine VC.seq ?_
              refine VC.seq ?_
              refine VC.reg (VO.l (LO.mv (.r rfl)) rfl<|VO.l (LO.len S112 (.r rfl) rfl) rfl<|VO.l (LO.gt (.r rfl) (.r rfl)) rfl<|VO.nil ?_)
              refine VE.seqN ?_
              refine VC.cond rfl (fun h158 => ?_) (fun h158 => ?_)
              ·
                refine VC.reg (VO.l (LO.mv (.r rfl)) rfl<|VO.l (LO.mv (.r rfl)) rfl<|VO.l (LO.call (xs := [_]) (vs := [_]) C183 ⟨(.r rfl), trivial⟩ (fun w hw => arcOf_c (stL t.kind l 1) _ _ w (by omega) (RO.of_own hw 5 rfl) s1T)) rfl<|VO.l (LO.ixa (j := 1) (r := 4) Tryz.underlying412 N411 (.r rfl) (.r rfl) rfl (by decide) rfl) rfl<|VO.h0<|HO.st 0 (vs := [_,_,_,_]) (C' := [_,_,_,_,_,_,_,_]) N411 rfl rfl rfl rfl rfl rfl rfl rfl<|VO.nil ?_)
                refine VE.seqN ?_
                refine VC.seq ?_
                refine VC.drawH [[0,1,2,3,4,5,6,7,8,9,10,11,12], [0,2,3,4,5,6,7,8,9,10,11,12]] [some 0, some 0, some 0, some 0, some 0, some 0, some 0, some 0, none] mixed (by kernel_rfl) rfl (LX.l (fun _ hJ => LO.fa (r := 7) F76_3 (.r rfl) rfl) rfl<|LX.l (fun _ hJ => LO.ld O3 (.r rfl) (fun _ hw => cells_at (hJ _ hw) 1 rfl ⟨_, rfl⟩)) rfl<|LX.l (fun _ hJ => LO.mv (.r rfl)) rfl<|LX.l (fun _ hJ => LO.ixa (j := 1) (r := 4) Tryz.underlying412 N411 (.r rfl) (.r rfl) rfl (by decide) rfl) rfl<|LX.l (fun _ hJ => LO.fa (r := 5) F411_1 (.r rfl) rfl) rfl<|LX.l (fun _ hJ => LO.ld O3 (.r rfl) (fun _ hw => cells_at (hJ _ hw) 0 rfl ⟨_, rfl⟩)) rfl<|LX.l (fun _ hJ => LO.max (.r rfl) (.r rfl)) rfl<|LX.l (fun _ hJ => LO.fa (r := 7) F76_3 (.r rfl) rfl) rfl<|LX.s<|LX.nil) (HX.s<|HX.s<|HX.s<|HX.s<|HX.s<|HX.s<|HX.s<|HX.s<|HX.h0<|HO.st 1 (vs := [_]) (C' := [_,_,_,_,_,_,_,_,_,_,_,_,_,_]) N3 rfl rfl rfl rfl rfl rfl rfl rfl<|⟨selJ (L1 := [_,_,_,_,_,_,_,_,_,_,_,_]) [0,2,3,4,5,6,7,8,9,10,11,12] rfl rfl rfl, HX.nil ?_⟩)
                refine VE.seqN ?_
                refine VC.draw mixed (LL.l (LO.mv (.r rfl)) rfl<|LL.l (LO.mv (.r rfl)) rfl<|LL.lg rfl rfl (GD.t _) (fun hg => LO.mv (.r rfl)) rfl<|LL.lg rfl rfl (GD.t _) (fun hg => LO.ixa (j := 1) (r := 4) Tryz.underlying412 N411 (.r rfl) (.g hg rfl) rfl (by decide) rfl) rfl<|LL.lg rfl rfl (GD.t _) (fun hg => LO.lda (vs := [_,_,_,_]) A411 (.g hg rfl) (fun _ hw => cells_at hw 0 rfl ⟨_, rfl⟩) rfl) rfl<|LL.lg rfl rfl (GD.t _) (fun hg => LO.fa (r := 1) F27_1 (.r rfl) rfl) rfl<|LL.lg rfl rfl (GD.t _) (fun hg => LO.ld O3 (.g hg rfl) (fun _ hw => cells_at hw 10 rfl ⟨_, rfl⟩)) rfl<|LL.lg rfl rfl (GD.t _) (fun hg => LO.call (xs := [_,_]) (vs := [_,_]) C184 ⟨(.g hg rfl), (.g hg rfl), trivial⟩ (fun w _ => tog_c _ _ _ _ _ w (by omega) (by omega) (by omega) (by omega))) rfl<|LL.l (LO.pkA (.r rfl) rfl rfl (.r rfl)) rfl<|LL.l (LO.as (.r rfl)) rfl<|LL.nil) (by kernel_rfl) ?_
                refine VE.inN (VE.seqN ?_)
                refine VC.reg (VO.l (LO.add (.r rfl) (.r rfl) (wi (by omega) (by omega))) rfl<|VO.l (LO.mv (.r rfl)) rfl<|VO.nil ?_)
                refine VE.thenN fun a w ha hw => ⟨((1 + 1), (((togT (turnL l) r.phase) && (togV (stL t.kind l 0) r.phase)) && (togV (stL t.kind l 1) r.phase)), (max (max 0 (wid (stL t.kind l 0))) (wid (stL t.kind l 1))), (arcR (stL t.kind l 0)).1, (wid (stL t.kind l 0)), (arcSum (stL t.kind l 0)), ((stL t.kind l 0).length : Int), (arcR (stL t.kind l 1)).1, (wid (stL t.kind l 1)), (arcSum (stL t.kind l 1)), ((stL t.kind l 1).length : Int)), (by first | exact .inr (.inl ⟨rfl, rfl, rfl, rfl, rfl, rfl, rfl, rfl, rfl, rfl, rfl⟩) | exact .inr (.inr ⟨rfl, rfl, rfl, rfl, rfl, rfl, rfl, rfl, rfl, rfl, rfl⟩)), (by dsimp only; omega), ha.sub (.cons (by first | exact tgA h158 | exact tgB h158) (.cons rfl (.cons rfl (.cons rfl (.cons rfl (.cons rfl (.cons rfl (.cons rfl (.cons rfl .nil))))))))), (hw).eqL (by dsimp only; first | (rw [wid_pos h158]; rfl) | (rw [wid_neg h158, arc_neg h158, sum_neg h158, len_neg h158]; rfl))⟩
              ·
                refine VC.skip (VE.seqN ?_)
                refine VC.seq ?_
                refine VC.drawH [[0,1,2,3,4,5,6,7,8,9,10,11,12], [0,2,3,4,5,6,7,8,9,10,11,12]] [some 0, some 0, some 0, some 0, some 0, some 0, some 0, some 0, none] mixed (by kernel_rfl) rfl (LX.l (fun _ hJ => LO.fa (r := 7) F76_3 (.r rfl) rfl) rfl<|LX.l (fun _ hJ => LO.ld O3 (.r rfl) (fun _ hw => cells_at (hJ _ hw) 1 rfl ⟨_, rfl⟩)) rfl<|LX.l (fun _ hJ => LO.mv (.r rfl)) rfl<|LX.l (fun _ hJ => LO.ixa (j := 1) (r := 4) Tryz.underlying412 N411 (.r rfl) (.r rfl) rfl (by decide) rfl) rfl<|LX.l (fun _ hJ => LO.fa (r := 5) F411_1 (.r rfl) rfl) rfl<|LX.l (fun _ hJ => LO.ld O3 (.r rfl) (fun _ hw => cells_at (hJ _ hw) 0 rfl ⟨_, rfl⟩)) rfl<|LX.l (fun _ hJ => LO.max (.r rfl) (.r rfl)) rfl<|LX.l (fun _ hJ => LO.fa (r := 7) F76_3 (.r rfl) rfl) rfl<|LX.s<|LX.nil) (HX.s<|HX.s<|HX.s<|HX.s<|HX.s<|HX.s<|HX.s<|HX.s<|HX.h0<|HO.st 1 (vs := [_]) (C' := [_,_,_,_,_,_,_,_,_,_,_,_,_,_]) N3 rfl rfl rfl rfl rfl rfl rfl rfl<|⟨selJ (L1 := [_,_,_,_,_,_,_,_,_,_,_,_]) [0,2,3,4,5,6,7,8,9,10,11,12] rfl rfl rfl, HX.nil ?_⟩)
                refine VE.seqN ?_
                refine VC.draw mixed (LL.l (LO.mv (.r rfl)) rfl<|LL.l (LO.mv (.r rfl)) rfl<|LL.lg rfl rfl (GD.t _) (fun hg => LO.mv (.r rfl)) rfl<|LL.lg rfl rfl (GD.t _) (fun hg => LO.ixa (j := 1) (r := 4) Tryz.underlying412 N411 (.r rfl) (.g hg rfl) rfl (by decide) rfl) rfl<|LL.lg rfl rfl (GD.t _) (fun hg => LO.lda (vs := [_,_,_,_]) A411 (.g hg rfl) (fun _ hw => cells_at hw 0 rfl ⟨_, rfl⟩) rfl) rfl<|LL.lg rfl rfl (GD.t _) (fun hg => LO.fa (r := 1) F27_1 (.r rfl) rfl) rfl<|LL.lg rfl rfl (GD.t _) (fun hg => LO.ld O3 (.g hg rfl) (fun _ hw => cells_at hw 10 rfl ⟨_, rfl⟩)) rfl<|LL.lg rfl rfl (GD.t _) (fun hg => LO.call (xs := [_,_]) (vs := [_,_]) C184 ⟨(.g hg rfl), (.g hg rfl), trivial⟩ (fun w _ => tog_c _ _ _ _ _ w (by omega) (by omega) (by omega) (by omega))) rfl<|LL.l (LO.pkA (.r rfl) rfl rfl (.r rfl)) rfl<|LL.l (LO.as (.r rfl)) rfl<|LL.nil) (by kernel_rfl) ?_
                refine VE.inN (VE.seqN ?_)
                refine VC.reg (VO.l (LO.add (.r rfl) (.r rfl) (wi (by omega) (by omega))) rfl<|VO.l (LO.mv (.r rfl)) rfl<|VO.nil ?_)
                refine VE.thenN fun a w ha hw => ⟨((1 + 1), (((togT (turnL l) r.phase) && (togV (stL t.kind l 0) r.phase)) && (togV (stL t.kind l 1) r.phase)), (max (max 0 (wid (stL t.kind l 0))) (wid (stL t.kind l 1))), (arcR (stL t.kind l 0)).1, (wid (stL t.kind l 0)), (arcSum (stL t.kind l 0)), ((stL t.kind l 0).length : Int), (arcR (stL t.kind l 1)).1, (wid (stL t.kind l 1)), (arcSum (stL t.kind l 1)), ((stL t.kind l 1).length : Int)), (by first | exact .inr (.inl ⟨rfl, rfl, rfl, rfl, rfl, rfl, rfl, rfl, rfl, rfl, rfl⟩) | exact .inr (.inr ⟨rfl, rfl, rfl, rfl, rfl, rfl, rfl, rfl, rfl, rfl, rfl⟩)), (by dsimp only; omega), ha.sub (.cons (by first | exact tgA h158 | exact tgB h158) (.cons rfl (.cons rfl (.cons rfl (.cons rfl (.cons rfl (.cons rfl (.cons rfl (.cons rfl .nil))))))))), (hw).eqL (by dsimp only; first | (rw [wid_pos h158]; rfl) | (rw [wid_neg h158, arc_neg h158, sum_neg h158, len_neg h158]; rfl))⟩
            ·
              (exfalso; omega)
          ·
            refine VC.exit (VE.thenX (VE.thenX (VE.inX (VE.seqN ?_))))
            refine VC.seq ?_
            refine VC.seq ?_
            rcases hI with ⟨q,_⟩ | ⟨q,_⟩ | ⟨rfl, rfl, rfl, rfl, rfl, rfl, rfl, rfl, rfl, rfl, rfl⟩
            · omega
            · omega
            refine VC.reg (VO.l (LO.mv (.r rfl)) rfl<|VO.l (LO.not (.r rfl)) rfl<|VO.nil ?_)
            refine VE.seqN ?_
            refine VC.cond rfl (fun h182 => ?_) (fun h182 => ?_)
            ·
              refine VC.seq ?_
              refine VC.reg (VO.l (LO.lda (vs := [_,_,_,_,_,_,_,_,_,_,_,_,_,_]) A76 (.r rfl) (fun _ hw => cells_at hw 1 rfl ⟨_, rfl⟩) rfl) rfl<|VO.h0<|HO.st 9 (vs := [_,_,_,_,_,_,_,_,_,_,_,_,_,_]) (C' := [_,_,_,_,_,_,_,_,_,_,_,_,_,_]) N76 rfl rfl rfl rfl rfl rfl rfl rfl<|VO.nil ?_)
              refine VE.seqN ?_
              refine VC.ret (VE.thenR (VE.resD 12 (vs := [_]) rfl rfl rfl ⟨RV.agg (vs := [_,_,_,_,_,_,_,_,_,_,_,_,_,_]) A76 rfl (cells_blk 9 rfl ⟨_, rfl⟩) rfl, trivial⟩ (fun w hw => ?_)))
              refine ⟨?_, hw.nil⟩
              simp only [resV]
              first | (rw [hearX, if_pos hz]; rfl) | (rw [hearX, if_neg hz, if_pos (fun q => h182 (good_iff.1 q))]; rfl) | (rw [hearX, if_neg hz, if_neg (fun q => q (good_iff.2 (Classical.not_not.1 h182))), meanS_eq, meanS_eq, meanS_eq, ← tlen]; rfl)
            ·
              refine VC.skip (VE.seqN ?_)
              refine VC.seq ?_
              have z0 := prod_bd (x := 2 * r.phase) (y := ((turnL l).length : Int)) (A := 8192) (B := 64) (by omega) (by omega) (by omega) (by omega)
              have z1 := prod_bd (x := 2 * r.phase) (y := ((stL t.kind l 0).length : Int)) (A := 8192) (B := 64) (by omega) (by omega) (by omega) (by omega)
              have z2 := prod_bd (x := 2 * r.phase) (y := ((stL t.kind l 1).length : Int)) (A := 8192) (B := 64) (by omega) (by omega) (by omega) (by omega)
              refine VC.reg (VO.l (LO.fa (r := 0) F76_0 (.r rfl) rfl) rfl<|VO.h0<|HO.st 1 (vs := [_]) (C' := [_,_,_,_,_,_,_,_,_,_,_,_,_,_]) N3 rfl rfl rfl rfl rfl rfl rfl rfl<|VO.nil ?_)
              refine VE.seqN ?_
              refine VC.seq ?_
              refine VC.reg (VO.l (LO.lda (vs := [_,_,_,_]) A411 (.r rfl) (fun _ hw => cells_at hw 2 rfl ⟨_, rfl⟩) rfl) rfl<|VO.l (LO.fa (r := 1) F27_1 (.r rfl) rfl) rfl<|VO.l (LO.ld O3 (.r rfl) (fun _ hw => cells_at hw 10 rfl ⟨_, rfl⟩)) rfl<|VO.l (LO.mul (.r rfl) (.r rfl) (wi (by omega) (by omega))) rfl<|VO.l (LO.fa (r := 3) F411_3 (.r rfl) rfl) rfl<|VO.l (LO.ld O3 (.r rfl) (fun _ hw => cells_at hw 2 rfl ⟨_, rfl⟩)) rfl<|VO.l (LO.mul (.r rfl) (.r rfl) (wi (by omega) (by omega))) rfl<|VO.l (LO.call (xs := [_,_]) (vs := [_,_]) C185 ⟨(.r rfl), (.r rfl), trivial⟩ (fun w _ => mean_c _ _ _ _ _ w (by omega) (by omega) (by omega) (by omega) (by omega) (by omega))) rfl<|VO.l (LO.fa (r := 12) F76_6 (.r rfl) rfl) rfl<|VO.h0<|HO.st 1 (vs := [_,_]) (C' := [_,_,_,_,_,_,_,_,_,_,_,_,_,_]) N25 rfl rfl rfl rfl rfl rfl rfl rfl<|VO.nil ?_)
              refine VE.seqN ?_
              refine VC.seq ?_
              refine VC.seq ?_
              refine VC.reg (VO.l (LO.lda (vs := [_,_,_,_,_,_,_,_]) A412 (.r rfl) (fun _ hw => cells_at hw 0 rfl ⟨_, rfl⟩) rfl) rfl<|VO.l (LO.mv (.r rfl)) rfl<|VO.nil ?_)
              refine VE.seqN ?_
              refine VC.block ?_
              refine VC.perm [1,0,2,3,4,5,6,7,8,9,10,11,12] rfl ?_
              refine VC.loopK (α := Nat × Int × Int × Int × Int) 1 (fun gx => [(195, .int .i64 (gx.1 : Nat))]) [(3,_), (4,_), (6,_), (11,_), (194,_)] (fun gx => [blk b13 (.cells #[.int .i64 3, .int .i64 (pow0 r l).lo, .int .i64 (pow0 r l).hi, .int .i64 gx.2.1, .int .i64 gx.2.2.1, .int .i64 gx.2.2.2.1, .int .i64 gx.2.2.2.2, .int .i64 (max (max 0 (wid (stL t.kind l 0))) (wid (stL t.kind l 1))), .int .i64 (ratioS (pow0 r l) (pow1 r l)).lo, .int .i64 (ratioS (pow0 r l) (pow1 r l)).hi, .int .i64 (mtchS r l).lo, .int .i64 (mtchS r l).hi, .int .i64 (meanR (arcSum (turnL l)) ((turnL l).length : Int) (2 * r.phase * ((turnL l).length : Int))).lo, .int .i64 (meanR (arcSum (turnL l)) ((turnL l).length : Int) (2 * r.phase * ((turnL l).length : Int))).hi] 76)]) (fun gx => (gx.1 = 0 ∧ gx.2.1 = 0 ∧ gx.2.2.1 = 0 ∧ gx.2.2.2.1 = 0 ∧ gx.2.2.2.2 = 0) ∨ (gx.1 = 1 ∧ gx.2.1 = (meanR (arcSum (stL t.kind l 0)) ((stL t.kind l 0).length : Int) (slk t r (stL t.kind l 0))).lo ∧ gx.2.2.1 = (meanR (arcSum (stL t.kind l 0)) ((stL t.kind l 0).length : Int) (slk t r (stL t.kind l 0))).hi ∧ gx.2.2.2.1 = 0 ∧ gx.2.2.2.2 = 0) ∨ (gx.1 = 2 ∧ gx.2.1 = (meanR (arcSum (stL t.kind l 0)) ((stL t.kind l 0).length : Int) (slk t r (stL t.kind l 0))).lo ∧ gx.2.2.1 = (meanR (arcSum (stL t.kind l 0)) ((stL t.kind l 0).length : Int) (slk t r (stL t.kind l 0))).hi ∧ gx.2.2.2.1 = (meanR (arcSum (stL t.kind l 1)) ((stL t.kind l 1).length : Int) (slk t r (stL t.kind l 1))).lo ∧ gx.2.2.2.2 = (meanR (arcSum (stL t.kind l 1)) ((stL t.kind l 1).length : Int) (slk t r (stL t.kind l 1))).hi)) (fun gx => 2 - gx.1) (0,0,0,0,0) (by exact .inl ⟨rfl, rfl, rfl, rfl, rfl⟩) (.cons rfl (.cons rfl (.cons rfl (.cons rfl (.cons rfl (.cons rfl .nil)))))) (fun _ h => h) ?_
              rintro ⟨i, y0, y1, y2, y3⟩ hI
              show VC _ _ _ _ _ ([(195, .int .i64 (i : Nat))] ++ _) ([blk b13 (.cells #[.int .i64 3, .int .i64 (pow0 r l).lo, .int .i64 (pow0 r l).hi, .int .i64 y0, .int .i64 y1, .int .i64 y2, .int .i64 y3, .int .i64 (max (max 0 (wid (stL t.kind l 0))) (wid (stL t.kind l 1))), .int .i64 (ratioS (pow0 r l) (pow1 r l)).lo, .int .i64 (ratioS (pow0 r l) (pow1 r l)).hi, .int .i64 (mtchS r l).lo, .int .i64 (mtchS r l).hi, .int .i64 (meanR (arcSum (turnL l)) ((turnL l).length : Int) (2 * r.phase * ((turnL l).length : Int))).lo, .int .i64 (meanR (arcSum (turnL l)) ((turnL l).length : Int) (2 * r.phase * ((turnL l).length : Int))).hi] 76)] ++ _) _ _
              dsimp only at hI
              refine VC.seq ?_
              refine VC.reg (VO.l (LO.lt (.r rfl) (.r rfl)) rfl<|VO.nil ?_)
              refine VE.seqN ?_
              refine VC.seq ?_
              refine VC.cond rfl (fun h8 => ?_) (fun h8 => ?_)
              ·
                refine VC.skip (VE.seqN ?_)
                refine VC.seq ?_
                refine VC.block ?_
                refine VC.seq ?_
                rcases hI with ⟨rfl, rfl, rfl, rfl, rfl⟩ | ⟨rfl, rfl, rfl, rfl, rfl⟩ | ⟨q,_⟩
                ·
                  refine VC.reg (VO.l (LO.mv (.r rfl)) rfl<|VO.l (LO.ixg (j := 0) (vs := [_,_,_,_]) Tryz.underlying412 A411 (.r rfl) (.r rfl) rfl (by decide) rfl) rfl<|VO.h rfl<|HO.alloc (C := #[_,_,_,_]) Z411 rfl fun b120 => VO.l (LO.as (.r rfl)) rfl<|VO.h0<|HO.st 0 (vs := [_,_,_,_]) (C' := [_,_,_,_]) N411 rfl rfl rfl rfl rfl rfl rfl rfl<|VO.nil ?_)
                  refine VE.seqN ?_
                  refine VC.seq ?_
                  refine VC.reg (VO.l (LO.fa (r := 1) F27_1 (.r rfl) rfl) rfl<|VO.l (LO.ld O3 (.r rfl) (fun _ hw => cells_at hw 11 rfl ⟨_, rfl⟩)) rfl<|VO.l (LO.mul (.r rfl) (.r rfl) (wi (by omega) (by omega))) rfl<|VO.l (LO.as (.r rfl)) rfl<|VO.nil ?_)
                  refine VE.seqN ?_
                  refine VC.seq ?_
                  refine VC.seq ?_
                  refine VC.reg (VO.l (LO.fa (r := 1) F23_1 (.r rfl) rfl) rfl<|VO.l (LO.ld O3 (.r rfl) (fun _ hw => cells_at hw 12 rfl ⟨_, rfl⟩)) rfl<|VO.l (LO.eq (.r rfl) (.r rfl)) rfl<|VO.nil ?_)
                  refine VE.seqN ?_
                  refine VC.cond rfl (fun h204 => ?_) (fun h204 => ?_)
                  ·
                    refine VC.reg (VO.l (LO.mv (.r rfl)) rfl<|VO.l (LO.fa (r := 3) F411_3 (.r rfl) rfl) rfl<|VO.l (LO.ld O3 (.r rfl) (fun _ hw => cells_at hw 0 rfl ⟨_, rfl⟩)) rfl<|VO.l (LO.mul (.r rfl) (.r rfl) (wi (by omega) (by omega))) rfl<|VO.l (LO.as (.r rfl)) rfl<|VO.nil ?_)
                    refine VE.seqN ?_
                    refine VC.reg (VO.l (LO.mv (.r rfl)) rfl<|VO.l (LO.lda (vs := [_,_,_,_]) A411 (.r rfl) (fun _ hw => cells_at hw 0 rfl ⟨_, rfl⟩) rfl) rfl<|VO.l (LO.mv (.r rfl)) rfl<|VO.l (LO.call (xs := [_,_]) (vs := [_,_]) C185 ⟨(.r rfl), (.r rfl), trivial⟩ (fun w _ => mean_c _ _ _ _ _ w (by omega) (by omega) (by omega) (by omega) (by omega) (by omega))) rfl<|VO.l (LO.fa (r := 3) F76_2 (.r rfl) rfl) rfl<|VO.l (LO.ixa (j := 0) (r := 3) Tryz.underlying74 N25 (.r rfl) (.r rfl) rfl (by decide) rfl) rfl<|VO.h0<|HO.st 1 (vs := [_,_]) (C' := [_,_,_,_,_,_,_,_,_,_,_,_,_,_]) N25 rfl rfl rfl rfl rfl rfl rfl rfl<|VO.nil ?_)
                    refine VE.inN (VE.seqN ?_)
                    refine VC.reg (VO.l (LO.add (.r rfl) (.r rfl) (wi (by omega) (by omega))) rfl<|VO.l (LO.mv (.r rfl)) rfl<|VO.nil ?_)
                    refine VE.thenN fun a w ha hw => ⟨((0 + 1), (meanR (arcSum (stL t.kind l 0)) ((stL t.kind l 0).length : Int) (slk t r (stL t.kind l 0))).lo, (meanR (arcSum (stL t.kind l 0)) ((stL t.kind l 0).length : Int) (slk t r (stL t.kind l 0))).hi, 0,0), (by first | exact .inr (.inl ⟨rfl, rfl, rfl, rfl, rfl⟩) | exact .inr (.inr ⟨rfl, rfl, rfl, rfl, rfl⟩)), (by dsimp only; omega), ha.sub (.cons rfl (.cons rfl (.cons rfl (.cons rfl (.cons rfl (.cons rfl .nil)))))), (hw.sel [1,2,3,4,5,6,7,8,9,10,11,12,13] rfl).eqL (by dsimp only; first | (simp only [slk_3 h204] <;> rfl) | (simp only [slk_n h204] <;> rfl))⟩
                  ·
                    refine VC.skip (VE.seqN ?_)
                    refine VC.reg (VO.l (LO.mv (.r rfl)) rfl<|VO.l (LO.lda (vs := [_,_,_,_]) A411 (.r rfl) (fun _ hw => cells_at hw 0 rfl ⟨_, rfl⟩) rfl) rfl<|VO.l (LO.mv (.r rfl)) rfl<|VO.l (LO.call (xs := [_,_]) (vs := [_,_]) C185 ⟨(.r rfl), (.r rfl), trivial⟩ (fun w _ => mean_c _ _ _ _ _ w (by omega) (by omega) (by omega) (by omega) (by omega) (by omega))) rfl<|VO.l (LO.fa (r := 3) F76_2 (.r rfl) rfl) rfl<|VO.l (LO.ixa (j := 0) (r := 3) Tryz.underlying74 N25 (.r rfl) (.r rfl) rfl (by decide) rfl) rfl<|VO.h0<|HO.st 1 (vs := [_,_]) (C' := [_,_,_,_,_,_,_,_,_,_,_,_,_,_]) N25 rfl rfl rfl rfl rfl rfl rfl rfl<|VO.nil ?_)
                    refine VE.inN (VE.seqN ?_)
                    refine VC.reg (VO.l (LO.add (.r rfl) (.r rfl) (wi (by omega) (by omega))) rfl<|VO.l (LO.mv (.r rfl)) rfl<|VO.nil ?_)
                    refine VE.thenN fun a w ha hw => ⟨((0 + 1), (meanR (arcSum (stL t.kind l 0)) ((stL t.kind l 0).length : Int) (slk t r (stL t.kind l 0))).lo, (meanR (arcSum (stL t.kind l 0)) ((stL t.kind l 0).length : Int) (slk t r (stL t.kind l 0))).hi, 0,0), (by first | exact .inr (.inl ⟨rfl, rfl, rfl, rfl, rfl⟩) | exact .inr (.inr ⟨rfl, rfl, rfl, rfl, rfl⟩)), (by dsimp only; omega), ha.sub (.cons rfl (.cons rfl (.cons rfl (.cons rfl (.cons rfl (.cons rfl .nil)))))), (hw.sel [1,2,3,4,5,6,7,8,9,10,11,12,13] rfl).eqL (by dsimp only; first | (simp only [slk_3 h204] <;> rfl) | (simp only [slk_n h204] <;> rfl))⟩
                ·
                  refine VC.reg (VO.l (LO.mv (.r rfl)) rfl<|VO.l (LO.ixg (j := 1) (vs := [_,_,_,_]) Tryz.underlying412 A411 (.r rfl) (.r rfl) rfl (by decide) rfl) rfl<|VO.h rfl<|HO.alloc (C := #[_,_,_,_]) Z411 rfl fun b124 => VO.l (LO.as (.r rfl)) rfl<|VO.h0<|HO.st 0 (vs := [_,_,_,_]) (C' := [_,_,_,_]) N411 rfl rfl rfl rfl rfl rfl rfl rfl<|VO.nil ?_)
                  refine VE.seqN ?_
                  refine VC.seq ?_
                  refine VC.reg (VO.l (LO.fa (r := 1) F27_1 (.r rfl) rfl) rfl<|VO.l (LO.ld O3 (.r rfl) (fun _ hw => cells_at hw 11 rfl ⟨_, rfl⟩)) rfl<|VO.l (LO.mul (.r rfl) (.r rfl) (wi (by omega) (by omega))) rfl<|VO.l (LO.as (.r rfl)) rfl<|VO.nil ?_)
                  refine VE.seqN ?_
                  refine VC.seq ?_
                  refine VC.seq ?_
                  refine VC.reg (VO.l (LO.fa (r := 1) F23_1 (.r rfl) rfl) rfl<|VO.l (LO.ld O3 (.r rfl) (fun _ hw => cells_at hw 12 rfl ⟨_, rfl⟩)) rfl<|VO.l (LO.eq (.r rfl) (.r rfl)) rfl<|VO.nil ?_)
                  refine VE.seqN ?_
                  refine VC.cond rfl (fun h204 => ?_) (fun h204 => ?_)
                  ·
                    refine VC.reg (VO.l (LO.mv (.r rfl)) rfl<|VO.l (LO.fa (r := 3) F411_3 (.r rfl) rfl) rfl<|VO.l (LO.ld O3 (.r rfl) (fun _ hw => cells_at hw 0 rfl ⟨_, rfl⟩)) rfl<|VO.l (LO.mul (.r rfl) (.r rfl) (wi (by omega) (by omega))) rfl<|VO.l (LO.as (.r rfl)) rfl<|VO.nil ?_)
                    refine VE.seqN ?_
                    refine VC.reg (VO.l (LO.mv (.r rfl)) rfl<|VO.l (LO.lda (vs := [_,_,_,_]) A411 (.r rfl) (fun _ hw => cells_at hw 0 rfl ⟨_, rfl⟩) rfl) rfl<|VO.l (LO.mv (.r rfl)) rfl<|VO.l (LO.call (xs := [_,_]) (vs := [_,_]) C185 ⟨(.r rfl), (.r rfl), trivial⟩ (fun w _ => mean_c _ _ _ _ _ w (by omega) (by omega) (by omega) (by omega) (by omega) (by omega))) rfl<|VO.l (LO.fa (r := 3) F76_2 (.r rfl) rfl) rfl<|VO.l (LO.ixa (j := 1) (r := 5) Tryz.underlying74 N25 (.r rfl) (.r rfl) rfl (by decide) rfl) rfl<|VO.h0<|HO.st 1 (vs := [_,_]) (C' := [_,_,_,_,_,_,_,_,_,_,_,_,_,_]) N25 rfl rfl rfl rfl rfl rfl rfl rfl<|VO.nil ?_)
                    refine VE.inN (VE.seqN ?_)
                    refine VC.reg (VO.l (LO.add (.r rfl) (.r rfl) (wi (by omega) (by omega))) rfl<|VO.l (LO.mv (.r rfl)) rfl<|VO.nil ?_)
                    refine VE.thenN fun a w ha hw => ⟨((1 + 1), (meanR (arcSum (stL t.kind l 0)) ((stL t.kind l 0).length : Int) (slk t r (stL t.kind l 0))).lo, (meanR (arcSum (stL t.kind l 0)) ((stL t.kind l 0).length : Int) (slk t r (stL t.kind l 0))).hi, (meanR (arcSum (stL t.kind l 1)) ((stL t.kind l 1).length : Int) (slk t r (stL t.kind l 1))).lo, (meanR (arcSum (stL t.kind l 1)) ((stL t.kind l 1).length : Int) (slk t r (stL t.kind l 1))).hi), (by first | exact .inr (.inl ⟨rfl, rfl, rfl, rfl, rfl⟩) | exact .inr (.inr ⟨rfl, rfl, rfl, rfl, rfl⟩)), (by dsimp only; omega), ha.sub (.cons rfl (.cons rfl (.cons rfl (.cons rfl (.cons rfl (.cons rfl .nil)))))), (hw.sel [1,2,3,4,5,6,7,8,9,10,11,12,13] rfl).eqL (by dsimp only; first | (simp only [slk_3 h204] <;> rfl) | (simp only [slk_n h204] <;> rfl))⟩
                  ·
                    refine VC.skip (VE.seqN ?_)
                    refine VC.reg (VO.l (LO.mv (.r rfl)) rfl<|VO.l (LO.lda (vs := [_,_,_,_]) A411 (.r rfl) (fun _ hw => cells_at hw 0 rfl ⟨_, rfl⟩) rfl) rfl<|VO.l (LO.mv (.r rfl)) rfl<|VO.l (LO.call (xs := [_,_]) (vs := [_,_]) C185 ⟨(.r rfl), (.r rfl), trivial⟩ (fun w _ => mean_c _ _ _ _ _ w (by omega) (by omega) (by omega) (by omega) (by omega) (by omega))) rfl<|VO.l (LO.fa (r := 3) F76_2 (.r rfl) rfl) rfl<|VO.l (LO.ixa (j := 1) (r := 5) Tryz.underlying74 N25 (.r rfl) (.r rfl) rfl (by decide) rfl) rfl<|VO.h0<|HO.st 1 (vs := [_,_]) (C' := [_,_,_,_,_,_,_,_,_,_,_,_,_,_]) N25 rfl rfl rfl rfl rfl rfl rfl rfl<|VO.nil ?_)
                    refine VE.inN (VE.seqN ?_)
                    refine VC.reg (VO.l (LO.add (.r rfl) (.r rfl) (wi (by omega) (by omega))) rfl<|VO.l (LO.mv (.r rfl)) rfl<|VO.nil ?_)
                    refine VE.thenN fun a w ha hw => ⟨((1 + 1), (meanR (arcSum (stL t.kind l 0)) ((stL t.kind l 0).length : Int) (slk t r (stL t.kind l 0))).lo, (meanR (arcSum (stL t.kind l 0)) ((stL t.kind l 0).length : Int) (slk t r (stL t.kind l 0))).hi, (meanR (arcSum (stL t.kind l 1)) ((stL t.kind l 1).length : Int) (slk t r (stL t.kind l 1))).lo, (meanR (arcSum (stL t.kind l 1)) ((stL t.kind l 1).length : Int) (slk t r (stL t.kind l 1))).hi), (by first | exact .inr (.inl ⟨rfl, rfl, rfl, rfl, rfl⟩) | exact .inr (.inr ⟨rfl, rfl, rfl, rfl, rfl⟩)), (by dsimp only; omega), ha.sub (.cons rfl (.cons rfl (.cons rfl (.cons rfl (.cons rfl (.cons rfl .nil)))))), (hw.sel [1,2,3,4,5,6,7,8,9,10,11,12,13] rfl).eqL (by dsimp only; first | (simp only [slk_3 h204] <;> rfl) | (simp only [slk_n h204] <;> rfl))⟩
                ·
                  (exfalso; omega)
              ·
                refine VC.exit (VE.thenX (VE.thenX (VE.inX (VE.seqN ?_))))
                refine VC.seq ?_
                rcases hI with ⟨q,_⟩ | ⟨q,_⟩ | ⟨rfl, rfl, rfl, rfl, rfl⟩
                · omega
                · omega
                refine VC.reg (VO.l (LO.lda (vs := [_,_,_,_,_,_,_,_,_,_,_,_,_,_]) A76 (.r rfl) (fun _ hw => cells_at hw 0 rfl ⟨_, rfl⟩) rfl) rfl<|VO.h0<|HO.st 9 (vs := [_,_,_,_,_,_,_,_,_,_,_,_,_,_]) (C' := [_,_,_,_,_,_,_,_,_,_,_,_,_,_]) N76 rfl rfl rfl rfl rfl rfl rfl rfl<|VO.nil ?_)
                refine VE.seqN ?_
                refine VC.ret (VE.resD 12 (vs := [_]) rfl rfl rfl ⟨RV.agg (vs := [_,_,_,_,_,_,_,_,_,_,_,_,_,_]) A76 rfl (cells_blk 9 rfl ⟨_, rfl⟩) rfl, trivial⟩ (fun w hw => ?_))
                refine ⟨?_, hw.nil⟩
                simp only [resV]
                first | (rw [hearX, if_pos hz]; rfl) | (rw [hearX, if_neg hz, if_pos (fun q => h182 (good_iff.1 q))]; rfl) | (rw [hearX, if_neg hz, if_neg (fun q => q (good_iff.2 (Classical.not_not.1 h182))), meanS_eq, meanS_eq, meanS_eq, ← tlen]; rfl)
      ·
        intro D c n x hn hI
        exact hI.elim

end Go.Proofs.YtffbohecdocajaaGreat

namespace Go.Proofs.YtffbohecdocajaaGreat
open Go.SL Go.Proofs Go.Pulse
set_option linter.unusedVariables false

theorem C45 : IsFn Tryz.prog 45 := ⟨_, Tryz.func45, by decide, rfl⟩
theorem A27 : IsAgg Tryz.prog 27 4 := ⟨⟨_, Tryz.underlying27, rfl⟩, by kernel_rfl⟩
theorem C46 : IsFn Tryz.prog 46 := ⟨_, Tryz.func46, by decide, rfl⟩
theorem C113 : IsFn Tryz.prog 113 := ⟨_, Tryz.func113, by decide, rfl⟩
theorem B23 : Builds Tryz.prog 23 [(0,1), (1,1), (2,1), (3,1), (4,1)] [.int .i64 0, .int .i64 0, .int .i64 0, .int .i64 0, .int .i64 0] := Builds.mk fun _ => by kernel_rfl
theorem B50 : Builds Tryz.prog 50 [(0,1), (1,1), (2,1), (3,1)] [.int .i64 0, .int .i64 0, .int .i64 0, .int .i64 0] := Builds.mk fun _ => by kernel_rfl


theorem train_of {t : Train} (h : ¬ ¬ trainE t = 0) : kndOk t.kind ∧ trainOk t := by
  have h := Classical.not_not.1 h
  unfold trainE at h
  by_cases k : kndOk t.kind
  · rw [if_pos k] at h
    by_cases q : trainOk t
    · exact ⟨k, q⟩
    · rw [if_neg q] at h; exact absurd h (by decide)
  · rw [if_neg k] at h; exact absurd h (by decide)
theorem recv_of {r : Recv} (h : ¬ ¬ recvE r = 0) : recvOk r := by
  have h := Classical.not_not.1 h
  unfold recvE at h
  by_cases q : recvOk r
  · exact q
  · rw [if_neg q] at h; exact absurd h (by decide)
theorem all_smp {l : List Sample} {j : Nat} (hz : ∀ k, k < j → smpOk (l.getD k zSm)) (hj : l.length ≤ j) : ∀ x ∈ l, smpOk x := fun x hx => by
  obtain ⟨k, hk, rfl⟩ := mem_getD (d := zSm) hx
  exact hz k (by omega)
section
variable {t : Train} {r : Recv} {l : List Sample}
theorem hE1 (h : ¬ trainE t = 0) : hearE t r l = trainE t := if_pos h
theorem hE2 (h : ¬ ¬ trainE t = 0) (k : ¬ recvE r = 0) : hearE t r l = recvE r := by unfold hearE; rw [if_neg h, if_pos k]
theorem hE3 (h : ¬ ¬ trainE t = 0) (k : ¬ ¬ recvE r = 0) (q : ¬ (l.length : Int) = t.count) : hearE t r l = 11 := by unfold hearE; rw [if_neg h, if_neg k, if_pos q]
theorem hE4 {j : Nat} (h : ¬ ¬ trainE t = 0) (k : ¬ ¬ recvE r = 0) (q : ¬ ¬ (l.length : Int) = t.count) (hj : j < l.length) (hb : ¬ smpOk (l.getD j zSm)) : hearE t r l = 3 := by
  unfold hearE; rw [if_neg h, if_neg k, if_neg q, if_neg (fun a => hb (a _ (getD_mem hj)))]
theorem hE5 {j : Nat} (h : ¬ ¬ trainE t = 0) (k : ¬ ¬ recvE r = 0) (q : ¬ ¬ (l.length : Int) = t.count) (hz : ∀ k, k < j → smpOk (l.getD k zSm)) (hj : l.length ≤ j) : hearE t r l = 0 := by
  unfold hearE; rw [if_neg h, if_neg k, if_neg q, if_pos (all_smp hz hj)]
theorem hX {n : Int} (h : hearE t r l = n) (hn : ¬ n = 0) : Ending.returned (.tuple #[.agg #[.int .i64 0, .int .i64 0, .int .i64 0, .int .i64 0, .int .i64 0, .int .i64 0, .int .i64 0, .int .i64 0, .int .i64 0, .int .i64 0, .int .i64 0, .int .i64 0, .int .i64 0, .int .i64 0], .int .i64 n]) = .returned (.tuple #[echoV (hearR t r l), .int .i64 (hearE t r l)]) := by
  have e : hearR t r l = zE := if_neg (by rw [h]; exact hn)
  rw [e, h]; rfl
theorem hX0 (h : hearE t r l = 0) : Ending.returned (.tuple #[echoV (hearX t r l), .int .i64 0]) = .returned (.tuple #[echoV (hearR t r l), .int .i64 (hearE t r l)]) := by
  have e : hearR t r l = hearX t r l := if_pos h
  rw [e, h]
end

set_option maxRecDepth 20000 in
theorem Hear_c (t : Train) (r : Recv) (l : List Sample) (p : Option Addr) (c : Nat) (w : World) (hn : l.length < 1000000000) (hc : l.length ≤ c) (hl : Smps w p l) :
  Calls Tryz.prog 47 #[trainV t, recvV r, .slice p l.length c] w fun e w' => e = .returned (.tuple #[echoV (hearR t r l), .int .i64 (hearE t r l)]) ∧ St (bs w) [] w' := by
  refine enter (vs := [_,_,_]) (env := [(0,_), (1,_), (2,_)]) Tryz.func47 rfl rfl rfl rfl ?_
  refine VC.seq ?_
  refine VC.reg (VO.h rfl<|HO.box (C := #[_,_,_,_,_]) rfl rfl fun b1 => VO.h rfl<|HO.box (C := #[_,_,_,_]) rfl rfl fun b2 => VO.h rfl<|HO.alloc (C := #[_,_,_,_,_,_,_,_,_,_,_,_,_,_]) Z76 rfl fun b3 => VO.l (LO.as (.r rfl)) rfl<|VO.nil ?_)
  refine VE.seqN ?_
  refine VC.seq ?_
  refine VC.seq ?_
  refine VC.reg (VO.l (LO.lda (vs := [_,_,_,_,_]) A23 (.r rfl) (fun _ hw => cells_at hw 2 rfl ⟨_, rfl⟩) rfl) rfl<|VO.l (LO.call (xs := [_]) (vs := [_]) C45 ⟨(.r rfl), trivial⟩ (fun w _ => trainP_c t w)) rfl<|VO.l (LO.as (.r rfl)) rfl<|VO.nil ?_)
  refine VE.seqN ?_
  refine VC.seq ?_
  refine VC.reg (VO.l (LO.mv (.r rfl)) rfl<|VO.l (LO.ne (.r rfl) (.r rfl)) rfl<|VO.nil ?_)
  refine VE.seqN ?_
  refine VC.cond rfl (fun h15 => ?_) (fun h15 => ?_)
  ·
    refine VC.seq ?_
    refine VC.reg (VO.l (LO.bd (ps := []) (vs := []) (C := [_,_,_,_,_,_,_,_,_,_,_,_,_,_]) B76  trivial rfl rfl) rfl<|VO.l (LO.mv (.r rfl)) rfl<|VO.h0<|HO.st 0 (vs := [_,_,_,_,_,_,_,_,_,_,_,_,_,_]) (C' := [_,_,_,_,_,_,_,_,_,_,_,_,_,_]) (L' := [_,_,_]) N76 rfl rfl rfl rfl rfl rfl rfl rfl<|VO.l (LO.as (.r rfl)) rfl<|VO.nil ?_)
    refine VE.seqN ?_
    refine VC.ret (VE.thenR (VE.res (vs := [_,_]) rfl ⟨RV.agg (vs := [_,_,_,_,_,_,_,_,_,_,_,_,_,_]) A76 rfl (cells_blk 0 rfl ⟨_, rfl⟩) rfl, rfl, trivial⟩ (fun w hw => ?_)))
    refine ⟨?_, hw.nil⟩
    simp only [resV]
    first | exact hX (hE1 h15) h15 | exact hX (hE2 h15 h21) h21 | exact hX (hE3 h15 h21 h28) (by decide) | exact hX (hE4 h15 h21 h28 (j := j) (by omega) (by unfold smpOk; unfold wr at h67; omega)) (by decide) | exact hX0 (hE5 h15 h21 h28 hz (by omega))
  ·
    refine VC.skip (VE.seqN ?_)
    refine VC.seq ?_
    refine VC.seq ?_
    refine VC.reg (VO.l (LO.lda (vs := [_,_,_,_]) A27 (.r rfl) (fun _ hw => cells_at hw 1 rfl ⟨_, rfl⟩) rfl) rfl<|VO.l (LO.call (xs := [_]) (vs := [_]) C46 ⟨(.r rfl), trivial⟩ (fun w _ => recvP_c r w)) rfl<|VO.l (LO.as (.r rfl)) rfl<|VO.nil ?_)
    refine VE.seqN ?_
    refine VC.seq ?_
    refine VC.reg (VO.l (LO.mv (.r rfl)) rfl<|VO.l (LO.ne (.r rfl) (.r rfl)) rfl<|VO.nil ?_)
    refine VE.seqN ?_
    refine VC.cond rfl (fun h21 => ?_) (fun h21 => ?_)
    ·
      refine VC.seq ?_
      refine VC.reg (VO.l (LO.bd (ps := []) (vs := []) (C := [_,_,_,_,_,_,_,_,_,_,_,_,_,_]) B76  trivial rfl rfl) rfl<|VO.l (LO.mv (.r rfl)) rfl<|VO.h0<|HO.st 0 (vs := [_,_,_,_,_,_,_,_,_,_,_,_,_,_]) (C' := [_,_,_,_,_,_,_,_,_,_,_,_,_,_]) (L' := [_,_,_]) N76 rfl rfl rfl rfl rfl rfl rfl rfl<|VO.l (LO.as (.r rfl)) rfl<|VO.nil ?_)
      refine VE.seqN ?_
      refine VC.ret (VE.thenR (VE.res (vs := [_,_]) rfl ⟨RV.agg (vs := [_,_,_,_,_,_,_,_,_,_,_,_,_,_]) A76 rfl (cells_blk 0 rfl ⟨_, rfl⟩) rfl, rfl, trivial⟩ (fun w hw => ?_)))
      refine ⟨?_, hw.nil⟩
      simp only [resV]
      first | exact hX (hE1 h15) h15 | exact hX (hE2 h15 h21) h21 | exact hX (hE3 h15 h21 h28) (by decide) | exact hX (hE4 h15 h21 h28 (j := j) (by omega) (by unfold smpOk; unfold wr at h67; omega)) (by decide) | exact hX0 (hE5 h15 h21 h28 hz (by omega))
    ·
      refine VC.skip (VE.seqN ?_)
      refine VC.seq ?_
      refine VC.seq ?_
      refine VC.reg (VO.l (LO.mv (.r rfl)) rfl<|VO.l (LO.len S40 (.r rfl) rfl) rfl<|VO.l (LO.fa (r := 4) F23_4 (.r rfl) rfl) rfl<|VO.l (LO.ld O3 (.r rfl) (fun _ hw => cells_at hw 2 rfl ⟨_, rfl⟩)) rfl<|VO.l (LO.ne (.r rfl) (.r rfl)) rfl<|VO.nil ?_)
      refine VE.seqN ?_
      refine VC.cond rfl (fun h28 => ?_) (fun h28 => ?_)
      ·
        refine VC.seq ?_
        refine VC.reg (VO.l (LO.bd (ps := []) (vs := []) (C := [_,_,_,_,_,_,_,_,_,_,_,_,_,_]) B76  trivial rfl rfl) rfl<|VO.h0<|HO.st 0 (vs := [_,_,_,_,_,_,_,_,_,_,_,_,_,_]) (C' := [_,_,_,_,_,_,_,_,_,_,_,_,_,_]) (L' := [_,_,_]) N76 rfl rfl rfl rfl rfl rfl rfl rfl<|VO.l (LO.as (.r rfl)) rfl<|VO.nil ?_)
        refine VE.seqN ?_
        refine VC.ret (VE.thenR (VE.res (vs := [_,_]) rfl ⟨RV.agg (vs := [_,_,_,_,_,_,_,_,_,_,_,_,_,_]) A76 rfl (cells_blk 0 rfl ⟨_, rfl⟩) rfl, rfl, trivial⟩ (fun w hw => ?_)))
        refine ⟨?_, hw.nil⟩
        simp only [resV]
        first | exact hX (hE1 h15) h15 | exact hX (hE2 h15 h21) h21 | exact hX (hE3 h15 h21 h28) (by decide) | exact hX (hE4 h15 h21 h28 (j := j) (by omega) (by unfold smpOk; unfold wr at h67; omega)) (by decide) | exact hX0 (hE5 h15 h21 h28 hz (by omega))
      ·
        refine VC.skip (VE.seqN ?_)
        refine VC.seq ?_
        refine VC.seq ?_
        refine VC.reg (VO.l (LO.mv (.r rfl)) rfl<|VO.l (LO.len S40 (.r rfl) rfl) rfl<|VO.l (LO.mv (.r rfl)) rfl<|VO.nil ?_)
        refine VE.seqN ?_
        refine VC.block ?_
        refine VC.loopK (α := Nat) 0 (fun gx => [(32, .int .i64 (gx : Nat))]) [(2,_), (3,_), (4,_), (6,_), (30,_), (31,_)] (fun gx => []) (fun gx => gx ≤ l.length ∧ ∀ k, k < gx → smpOk (l.getD k zSm)) (fun gx => l.length - gx) 0 (by exact ⟨by omega, fun k hk => by omega⟩) (.cons rfl (.cons rfl (.cons rfl (.cons rfl (.cons rfl (.cons rfl (.cons rfl .nil))))))) (fun _ h => h) ?_
        rintro j ⟨hj, hz⟩
        refine VC.seq ?_
        refine VC.reg (VO.l (LO.lt (.r rfl) (.r rfl)) rfl<|VO.nil ?_)
        refine VE.seqN ?_
        refine VC.seq ?_
        refine VC.cond rfl (fun h4 => ?_) (fun h4 => ?_)
        ·
          refine VC.skip (VE.seqN ?_)
          refine VC.seq ?_
          refine VC.block ?_
          refine VC.seq ?_
          refine VC.reg (VO.l (LO.ixs S40 N50 hl.sm (.r rfl) (.r rfl) rfl (by omega)) rfl<|VO.l (LO.lda (vs := [_,_,_,_]) A50 (.r rfl) (fun w hw => cells_part (off := 0) ((hl.at zSm (j := j) (by omega)) w hw) ⟨_, rfl⟩) rfl) rfl<|VO.h rfl<|HO.alloc (C := #[_,_,_,_]) Z50 rfl fun b7 => VO.h0<|HO.st 0 (vs := [_,_,_,_]) (C' := [_,_,_,_]) (L' := [_,_,_,_]) N50 rfl rfl rfl rfl rfl rfl rfl rfl<|VO.nil ?_)
          refine VE.seqN ?_
          refine VC.seq ?_
          refine VC.draw mixed (LL.l (LO.fa (r := 0) F50_0 (.r rfl) rfl) rfl<|LL.l (LO.ld O3 (.r rfl) (fun _ hw => cells_at hw 0 rfl ⟨_, rfl⟩)) rfl<|LL.l (LO.fa (r := 2) F50_2 (.r rfl) rfl) rfl<|LL.l (LO.ld O3 (.r rfl) (fun _ hw => cells_at hw 0 rfl ⟨_, rfl⟩)) rfl<|LL.l (LO.min (.r rfl) (.r rfl)) rfl<|LL.l (LO.call (xs := [_,_,_]) (vs := [_,_,_]) C54 ⟨(.r rfl), (.r rfl), (.r rfl), trivial⟩ (fun w _ => within_c _ _ _ w)) rfl<|LL.l (LO.not (.r rfl)) rfl<|LL.l (LO.mv (.r rfl)) rfl<|LL.lg rfl rfl (GD.f _) (fun hg => LO.fa (r := 0) F50_0 (.r rfl) rfl) rfl<|LL.lg rfl rfl (GD.f _) (fun hg => LO.ld O3 (.g hg rfl) (fun _ hw => cells_at hw 0 rfl ⟨_, rfl⟩)) rfl<|LL.lg rfl rfl (GD.f _) (fun hg => LO.fa (r := 2) F50_2 (.r rfl) rfl) rfl<|LL.lg rfl rfl (GD.f _) (fun hg => LO.ld O3 (.g hg rfl) (fun _ hw => cells_at hw 0 rfl ⟨_, rfl⟩)) rfl<|LL.lg rfl rfl (GD.f _) (fun hg => LO.max (.g hg rfl) (.g hg rfl)) rfl<|LL.lg rfl rfl (GD.f _) (fun hg => LO.call (xs := [_,_,_]) (vs := [_,_,_]) C54 ⟨(.g hg rfl), (.r rfl), (.r rfl), trivial⟩ (fun w _ => within_c _ _ _ w)) rfl<|LL.lg rfl rfl (GD.f _) (fun hg => LO.not (.g hg rfl)) rfl<|LL.l (LO.pkO (.r rfl) (.r rfl) rfl rfl) rfl<|LL.l (LO.mv (.r rfl)) rfl<|LL.lg rfl rfl (GD.f _) (fun hg => LO.fa (r := 1) F50_1 (.r rfl) rfl) rfl<|LL.lg rfl rfl (GD.f _) (fun hg => LO.ld O3 (.g hg rfl) (fun _ hw => cells_at hw 0 rfl ⟨_, rfl⟩)) rfl<|LL.lg rfl rfl (GD.f _) (fun hg => LO.call (xs := [_]) (vs := [_]) C112 ⟨(.g hg rfl), trivial⟩ (fun w _ => wrap_c _ w)) rfl<|LL.lg rfl rfl (GD.f _) (fun hg => LO.fa (r := 1) F50_1 (.r rfl) rfl) rfl<|LL.lg rfl rfl (GD.f _) (fun hg => LO.ld O3 (.g hg rfl) (fun _ hw => cells_at hw 0 rfl ⟨_, rfl⟩)) rfl<|LL.lg rfl rfl (GD.f _) (fun hg => LO.ne (.g hg rfl) (.g hg rfl)) rfl<|LL.l (LO.pkO (.r rfl) (.r rfl) rfl rfl) rfl<|LL.l (LO.mv (.r rfl)) rfl<|LL.lg rfl rfl (GD.f _) (fun hg => LO.fa (r := 3) F50_3 (.r rfl) rfl) rfl<|LL.lg rfl rfl (GD.f _) (fun hg => LO.ld O3 (.g hg rfl) (fun _ hw => cells_at hw 0 rfl ⟨_, rfl⟩)) rfl<|LL.lg rfl rfl (GD.f _) (fun hg => LO.call (xs := [_]) (vs := [_]) C112 ⟨(.g hg rfl), trivial⟩ (fun w _ => wrap_c _ w)) rfl<|LL.lg rfl rfl (GD.f _) (fun hg => LO.fa (r := 3) F50_3 (.r rfl) rfl) rfl<|LL.lg rfl rfl (GD.f _) (fun hg => LO.ld O3 (.g hg rfl) (fun _ hw => cells_at hw 0 rfl ⟨_, rfl⟩)) rfl<|LL.lg rfl rfl (GD.f _) (fun hg => LO.ne (.g hg rfl) (.g hg rfl)) rfl<|LL.l (LO.pkO (.r rfl) (.r rfl) rfl rfl) rfl<|LL.nil) (by kernel_rfl) ?_
          refine VE.seqN ?_
          refine VC.cond rfl (fun h67 => ?_) (fun h67 => ?_)
          ·
            refine VC.seq ?_
            refine VC.reg (VO.l (LO.bd (ps := []) (vs := []) (C := [_,_,_,_,_,_,_,_,_,_,_,_,_,_]) B76  trivial rfl rfl) rfl<|VO.h0<|HO.st 1 (vs := [_,_,_,_,_,_,_,_,_,_,_,_,_,_]) (C' := [_,_,_,_,_,_,_,_,_,_,_,_,_,_]) (L' := [_,_,_,_]) N76 rfl rfl rfl rfl rfl rfl rfl rfl<|VO.l (LO.as (.r rfl)) rfl<|VO.nil ?_)
            refine VE.seqN ?_
            refine VC.ret (VE.inR (VE.thenR (VE.thenR (VE.inR (VE.thenR (VE.res (vs := [_,_]) rfl ⟨RV.agg (vs := [_,_,_,_,_,_,_,_,_,_,_,_,_,_]) A76 rfl (cells_blk 1 rfl ⟨_, rfl⟩) rfl, rfl, trivial⟩ (fun w hw => ?_)))))))
            refine ⟨?_, hw.nil⟩
            simp only [resV]
            first | exact hX (hE1 h15) h15 | exact hX (hE2 h15 h21) h21 | exact hX (hE3 h15 h21 h28) (by decide) | exact hX (hE4 h15 h21 h28 (j := j) (by omega) (by unfold smpOk; unfold wr at h67; omega)) (by decide) | exact hX0 (hE5 h15 h21 h28 hz (by omega))
          ·
            refine VC.skip (VE.inN (VE.seqN ?_))
            refine VC.reg (VO.l (LO.add (.r rfl) (.r rfl) (wi (by omega) (by omega))) rfl<|VO.l (LO.mv (.r rfl)) rfl<|VO.nil ?_)
            refine VE.thenN fun a w ha hw => ⟨j + 1, ⟨by omega, all_step hz (by unfold smpOk; unfold wr at h67; omega)⟩, (by omega), ha.sub (.cons rfl (.cons rfl (.cons rfl (.cons rfl (.cons rfl (.cons rfl (.cons rfl .nil))))))), hw.sel [1,2,3] rfl⟩
        ·
          refine VC.exit (VE.thenX (VE.thenX (VE.inX (VE.seqN ?_))))
          refine VC.seq ?_
          refine VC.reg (VO.l (LO.lda (vs := [_,_,_,_,_]) A23 (.r rfl) (fun _ hw => cells_at hw 2 rfl ⟨_, rfl⟩) rfl) rfl<|VO.l (LO.lda (vs := [_,_,_,_]) A27 (.r rfl) (fun _ hw => cells_at hw 1 rfl ⟨_, rfl⟩) rfl) rfl<|VO.l (LO.mv (.r rfl)) rfl<|VO.l (LO.call (xs := [_,_,_]) (vs := [_,_,_]) C113 ⟨(.r rfl), (.r rfl), (.r rfl), trivial⟩ (fun w hw => heard_c t r l p c w (train_of h15).1 (train_of h15).2 (recv_of h21) (by omega) (all_smp hz (by omega)) hc (hl.keep w hw))) rfl<|VO.h0<|HO.st 0 (vs := [_,_,_,_,_,_,_,_,_,_,_,_,_,_]) (C' := [_,_,_,_,_,_,_,_,_,_,_,_,_,_]) (L' := [_,_,_]) N76 rfl rfl rfl rfl rfl rfl rfl rfl<|VO.l (LO.as (.r rfl)) rfl<|VO.nil ?_)
          refine VE.seqN ?_
          refine VC.ret (VE.res (vs := [_,_]) rfl ⟨RV.agg (vs := [_,_,_,_,_,_,_,_,_,_,_,_,_,_]) A76 rfl (cells_blk 0 rfl ⟨_, rfl⟩) rfl, rfl, trivial⟩ (fun w hw => ?_))
          refine ⟨?_, hw.nil⟩
          simp only [resV]
          first | exact hX (hE1 h15) h15 | exact hX (hE2 h15 h21) h21 | exact hX (hE3 h15 h21 h28) (by decide) | exact hX (hE4 h15 h21 h28 (j := j) (by omega) (by unfold smpOk; unfold wr at h67; omega)) (by decide) | exact hX0 (hE5 h15 h21 h28 hz (by omega))

end Go.Proofs.YtffbohecdocajaaGreat

namespace Go.Proofs.YtffbohecdocajaaGreat
open Go.SL Go.Proofs Go.Pulse
set_option linter.unusedVariables false

theorem B27 : Builds Tryz.prog 27 [(0,1), (1,1), (2,2)] [.int .i64 0, .int .i64 0, .int .i64 0, .int .i64 0] := Builds.mk fun _ => by kernel_rfl
theorem C47 : IsFn Tryz.prog 47 := ⟨_, Tryz.func47, by decide, rfl⟩
end Go.Proofs.YtffbohecdocajaaGreat

namespace Go.Proofs.YtffbohecdocajaaGreat
open Go.SL Go.Proofs Go.Pulse
set_option linter.unusedVariables false

theorem C55 : IsFn Tryz.prog 55 := ⟨_, Tryz.func55, by decide, rfl⟩
end Go.Proofs.YtffbohecdocajaaGreat

namespace Go.Proofs.YtffbohecdocajaaGreat
open Go.SL Go.Proofs Go.Pulse
set_option linter.unusedVariables false

theorem tmod_in {a b : Int} (ha : 0 ≤ a) (hb : 0 < b) : 0 ≤ a.tmod b ∧ a.tmod b < b := ⟨Int.tmod_nonneg b ha, Int.tmod_lt_of_pos a hb⟩
theorem up_mono {X Y D : Int} (hD : 0 < D) (h : X ≤ Y) : up X D ≤ up Y D := by
  have := Int.ediv_le_ediv hD (show -Y ≤ -X by omega)
  unfold up; omega
section
variable {t : Train} {wh wl : Int} {s u : Span}
end

end Go.Proofs.YtffbohecdocajaaGreat

namespace Go.Proofs.YtffbohecdocajaaGreat
open Go.SL Go.Proofs Go.Pulse
set_option linter.unusedVariables false

section
variable {l : List Sample}
end
section
variable {t : Train} {r : Recv} {l : List Sample} {s : List Int} {ph : Int} {b : Bool} {sp kd : Int}
theorem nz (h : kndOk t.kind ∧ trainOk t) : ¬ ¬ trainE t = 0 := fun q => q (by unfold trainE; rw [if_pos h.1, if_pos h.2])
theorem nzr (h : recvOk r) : ¬ ¬ recvE r = 0 := fun q => q (if_pos h)
theorem rhE (hb : kndOk t.kind ∧ trainOk t) (hr : recvOk r) (h34 : ¬ ¬ (l.length : Int) = t.count) (hs : ∀ x ∈ l, smpOk x) : hearE t r l = 0 := by unfold hearE; rw [if_neg (nz hb), if_neg (nzr hr), if_neg h34, if_pos hs]
end

end Go.Proofs.YtffbohecdocajaaGreat

namespace Go.Proofs.YtffbohecdocajaaGreat
open Go.SL Go.Proofs Go.Pulse
set_option linter.unusedVariables false

theorem O32 : IsOne Tryz.prog 32 := ⟨⟨_, Tryz.underlying32, rfl⟩, by kernel_rfl⟩
end Go.Proofs.YtffbohecdocajaaGreat

namespace Go.Proofs.YtffbohecdocajaaGreat
open Go.SL Go.Proofs Go.Pulse
set_option linter.unusedVariables false



section
variable {a b n m S sl : Int}
theorem div_mono2 (hm : 0 < m) (hmn : m ≤ n) (hb : 0 ≤ b) (hab : a ≤ b) : a / n ≤ b / m := by
  have h1 : a / n ≤ b / n := Int.ediv_le_ediv (by omega) hab
  have h2 : 0 ≤ b / n := Int.ediv_nonneg hb (by omega)
  have h3 := Int.mul_ediv_add_emod b n
  have h6 := Int.emod_nonneg b (show n ≠ 0 by omega)
  have h4 : b / n * m ≤ b / n * n := Int.mul_le_mul_of_nonneg_left hmn h2
  rw [Int.mul_comm (b / n) n] at h4
  have h5 := Int.le_ediv_of_mul_le hm (show b / n * m ≤ b by omega)
  omega
theorem up_le {u : Int} (hn : 0 < n) (h : a ≤ u * n) : up a n ≤ u := by
  unfold up
  have := Int.le_ediv_of_mul_le (c := n) (a := -u) (b := -a) hn (by rw [Int.neg_mul]; omega)
  omega
theorem le_up_mul (hm : 0 < m) : b ≤ up b m * m := by
  unfold up
  have h1 := Int.mul_ediv_add_emod (-b) m
  have h2 := Int.emod_nonneg (-b) (show m ≠ 0 by omega)
  rw [Int.neg_mul, Int.mul_comm]; omega
theorem up_nn (hm : 0 < m) (hb : 0 ≤ b) : 0 ≤ up b m := by
  unfold up
  have := Int.ediv_le_ediv hm (show -b ≤ 0 by omega)
  rw [Int.zero_ediv] at this; omega
theorem up_mono2 (hm : 0 < m) (hmn : m ≤ n) (hb : 0 ≤ b) (hab : a ≤ b) : up a n ≤ up b m := by
  refine up_le (by omega) ?_
  have h1 := le_up_mul (b := b) hm
  have h2 := Int.mul_le_mul_of_nonneg_left hmn (up_nn hm hb)
  omega
theorem div_le_up2 (hm : 0 < m) (hmn : m ≤ n) (hb : 0 ≤ b) (hab : a ≤ b) : a / n ≤ up b m := by
  have h1 := div_mono2 hm hmn hb hab
  have h2 := div_up (n := m) hm (Int.le_refl b)
  omega
theorem mean_wid (hn : 0 < n) (h0 : 0 ≤ sl) (h1 : sl ≤ 8192 * n) : (S - sl) / n ≤ up (S + sl) n ∧ up (S + sl) n - (S - sl) / n ≤ 16386 := by
  refine ⟨div_up hn (by omega), ?_⟩
  have e1 := Int.mul_ediv_add_emod (S - sl) n
  have e2 := Int.emod_lt_of_pos (S - sl) hn
  have e3 := Int.mul_ediv_add_emod (-(S + sl)) n
  have e4 := Int.emod_lt_of_pos (-(S + sl)) hn
  have e5 := Int.emod_nonneg (S - sl) (show n ≠ 0 by omega)
  have e6 := Int.emod_nonneg (-(S + sl)) (show n ≠ 0 by omega)
  have k : n * (up (S + sl) n - (S - sl) / n) < n * 16387 := by
    unfold up
    rw [Int.mul_sub, Int.mul_neg]; omega
  have := Int.lt_of_mul_lt_mul_left k (by omega)
  omega
end
def inSp (x s : Span) : Prop := x.lo ≤ x.hi ∧ s.lo ≤ x.lo ∧ x.hi ≤ s.hi
theorem meanS_nil (sl : Int) : meanS [] sl = zs := rfl
theorem mean_ok {s : List Int} {sl : Int} (h0 : 0 ≤ sl) (h1 : s ≠ [] → sl ≤ 8192 * (s.length : Int)) : turnS (meanS s sl) := by
  by_cases h : s = []
  · subst h; rw [meanS_nil]; decide
  · have hn : 0 < (s.length : Int) := by cases s with | nil => exact absurd rfl h | cons => simp
    have w1 := mean_wid (S := arcSum s) hn h0 (h1 h)
    unfold meanS turnS
    rw [if_neg h]
    dsimp only
    have w2 := wr_bd ((arcSum s - sl) / (s.length : Int) + 32768)
    omega
/-- Two hearings of which the second lies within the first, as far as sums go. -/
structure Bet (r r' : Recv) (l l' : List Sample) : Prop where
  hr : recvOk r
  hr' : recvOk r'
  hs : ∀ x ∈ l, smpOk x
  hs' : ∀ x ∈ l', smpOk x
  len : l'.length = l.length
  H1 : sumH (-r.level) l ≤ sumH (-r'.level) l'
  H2 : sumH r'.level l' ≤ sumH r.level l
  V1 : sumV (-r.level) l ≤ sumV (-r'.level) l'
  V2 : sumV r'.level l' ≤ sumV r.level l
  X1 : sumX (-r.level) l ≤ sumX (-r'.level) l'
  X2 : sumX r'.level l' ≤ sumX r.level l
  n1 : r.nlo ≤ r'.nlo
  n2 : r'.nhi ≤ r.nhi
theorem prX_le {a c m n : Int} (h : m ≤ n) : max 0 (a + m) * max 0 (c + m) ≤ max 0 (a + n) * max 0 (c + n) := Int.mul_le_mul (by omega) (by omega) (by omega) (by omega)
theorem Bet.own {r : Recv} {l : List Sample} (hr : recvOk r) (hs : ∀ x ∈ l, smpOk x) : sumH (-r.level) l ≤ sumH r.level l ∧ sumV (-r.level) l ≤ sumV r.level l ∧ sumX (-r.level) l ≤ sumX r.level l := by
  unfold recvOk at hr
  exact ⟨sum_le (fun x _ => sq_le (by omega)), sum_le (fun x _ => sq_le (by omega)), sum_le (fun x _ => prX_le (by omega))⟩
theorem Bet.recv {r r' : Recv} {l : List Sample} (hr : recvOk r) (hr' : recvOk r') (hs : ∀ x ∈ l, smpOk x) (h : r'.level ≤ r.level) (n1 : r.nlo ≤ r'.nlo) (n2 : r'.nhi ≤ r.nhi) : Bet r r' l l :=
  ⟨hr, hr', hs, hs, rfl, sum_le (fun x _ => sq_le (by omega)), sum_le (fun x _ => sq_le (by omega)), sum_le (fun x _ => sq_le (by omega)), sum_le (fun x _ => sq_le (by omega)), sum_le (fun x _ => prX_le (by omega)), sum_le (fun x _ => prX_le (by omega)), n1, n2⟩
theorem sh_bd {a b : Int} (ha : 0 ≤ a) (hb : 0 ≤ b) : (0 ≤ shareD a b ∧ shareD a b ≤ 1000) ∧ 0 ≤ shareU a b ∧ shareU a b ≤ 1000 := by
  have h1 : 0 ≤ 1000 * a * a := Int.mul_nonneg (by omega) ha
  unfold shareD shareU
  by_cases h : b = 0
  · rw [if_pos h, if_pos h]; omega
  · rw [if_neg h, if_neg h]
    have := Int.ediv_nonneg h1 hb
    have := up_nn (m := b) (b := 1000 * a * a) (by omega) h1
    omega
theorem sq3 {a b : Int} (ha : 0 ≤ a) (h : a ≤ b) : 1000 * a * a ≤ 1000 * b * b ∧ 0 ≤ 1000 * b * b := ⟨Int.mul_le_mul (by omega) h ha (by omega), Int.mul_nonneg (by omega) (by omega)⟩
theorem sh_le {a a' b b' : Int} (ha : 0 ≤ a) (h : a ≤ a') (hb : 0 ≤ b') (hbb : b' ≤ b) : shareD a b ≤ shareU a' b' := by
  by_cases q : b' = 0
  · rw [show shareU a' b' = 1000 from if_pos q]; exact (sh_bd ha (by omega)).1.2
  · unfold shareD shareU
    rw [if_neg q, if_neg (by omega)]
    have h2 := sq3 ha h
    have := div_le_up2 (n := b) (m := b') (by omega) hbb h2.2 h2.1
    omega
section
variable {r r' : Recv} {l l' : List Sample}
theorem sums_nn (hr : recvOk r) (hs : ∀ x ∈ l, smpOk x) : (0 ≤ sumH (-r.level) l ∧ 0 ≤ sumH r.level l) ∧ (0 ≤ sumV (-r.level) l ∧ 0 ≤ sumV r.level l) ∧ 0 ≤ sumX (-r.level) l ∧ 0 ≤ sumX r.level l := by
  unfold recvOk at hr
  have a1 := sumH_bd (m := -r.level) (l := l) (by omega) (by omega) hs
  have a2 := sumH_bd (m := r.level) (l := l) (by omega) (by omega) hs
  have a3 := sumV_bd (m := -r.level) (l := l) (by omega) (by omega) hs
  have a4 := sumV_bd (m := r.level) (l := l) (by omega) (by omega) hs
  have a5 := sumX_bd (m := -r.level) (l := l) (by omega) (by omega) hs
  have a6 := sumX_bd (m := r.level) (l := l) (by omega) (by omega) hs
  omega
theorem mtch_bd (hr : recvOk r) (hs : ∀ x ∈ l, smpOk x) : inS (mtchS r l) 0 1000 := by
  have z := sums_nn hr hs
  have o := Bet.own hr hs
  have m1 := Int.mul_nonneg z.1.1 z.2.1.1
  have m2 : sumH (-r.level) l * sumV (-r.level) l ≤ sumH r.level l * sumV r.level l := Int.mul_le_mul o.1 o.2.1 z.2.1.1 z.1.2
  have b1 := sh_bd (a := sumX (-r.level) l) (b := sumH r.level l * sumV r.level l) z.2.2.1 (by omega)
  have b2 := sh_bd (a := sumX r.level l) (b := sumH (-r.level) l * sumV (-r.level) l) z.2.2.2 m1
  have b3 := sh_le z.2.2.1 o.2.2 m1 m2
  unfold inS mtchS
  dsimp only
  omega
theorem ratio_bd (hr : recvOk r) (hn : 0 < (l.length : Int)) (hs : ∀ x ∈ l, smpOk x) (hz : 0 < (pow0 r l).lo) : inS (ratioS (pow0 r l) (pow1 r l)) 0 1000000 := by
  have p := pow_bd hr hn hs
  have d := div_le_up2 (a := 1000 * (pow1 r l).lo) (b := 1000 * (pow1 r l).hi) (n := (pow0 r l).hi) (m := (pow0 r l).lo) hz (by omega) (by omega) (by omega)
  have e := Int.ediv_nonneg (a := 1000 * (pow1 r l).lo) (b := (pow0 r l).hi) (by omega) (by omega)
  unfold inS ratioS
  dsimp only
  omega
theorem Bet.pow0 (B : Bet r r' l l') (hn : 0 < (l.length : Int)) : inSp (pow0 r' l') (pow0 r l) := by
  have p := pow_bd B.hr' (by rw [B.len]; exact hn) B.hs'
  have a := Int.ediv_le_ediv hn B.H1
  have b := up_mono hn B.H2
  have n1 := B.n1; have n2 := B.n2
  refine ⟨p.2.1, ?_, ?_⟩
  · unfold Go.Pulse.pow0 powS; dsimp only; rw [B.len]; omega
  · unfold Go.Pulse.pow0 powS; dsimp only; rw [B.len]; omega
end
section
variable {t : Train} {r : Recv} {l : List Sample}
theorem slk_bd {s : List Int} (hr : recvOk r) : 0 ≤ slk t r s ∧ (s ≠ [] → slk t r s ≤ 8192 * (s.length : Int)) := by
  unfold recvOk at hr
  have p := prod_bd (x := 2 * r.phase) (y := (s.length : Int)) (A := 8192) (B := (s.length : Int)) (by omega) (by omega) (by omega) (Int.le_refl _)
  refine ⟨?_, fun h => ?_⟩
  · unfold slk; split <;> omega
  · have hn : 0 < (s.length : Int) := by cases s with | nil => exact absurd rfl h | cons => simp
    unfold slk; split <;> omega
theorem slkT_bd (hr : recvOk r) : 0 ≤ 2 * r.phase * (l.length : Int) ∧ (turnL l ≠ [] → 2 * r.phase * (l.length : Int) ≤ 8192 * ((turnL l).length : Int)) := by
  unfold recvOk at hr
  have p := prod_bd (x := 2 * r.phase) (y := (l.length : Int)) (A := 8192) (B := (l.length : Int)) (by omega) (by omega) (by omega) (Int.le_refl _)
  rw [show (turnL l).length = l.length from List.length_map ..]
  exact ⟨p.1, fun _ => p.2⟩
theorem spread_bd : 0 ≤ spreadL t l ∧ spreadL t l ≤ 65535 := by
  have a := wid_bd (stL_inT t.kind l 0)
  have b := wid_bd (stL_inT t.kind l 1)
  unfold spreadL; omega
theorem hear_ok (hr : recvOk r) (hn : 0 < (l.length : Int)) (hs : ∀ x ∈ l, smpOk x) : echoE (hearX t r l) = 0 := by
  have p := pow_bd hr hn hs
  have sb := spread_bd (t := t) (l := l)
  have pw : inS (pow0 r l) 0 1073741824 := by unfold inS; omega
  unfold hearX
  by_cases hz : (pow0 r l).lo = 0
  · rw [if_pos hz]
    generalize pow0 r l = q at *
    obtain ⟨a, b⟩ := q
    dsimp only at hz
    subst hz
    unfold echoE
    rw [if_pos (.inl rfl), if_pos ⟨pw, .inl ⟨rfl, rfl⟩⟩]
  · rw [if_neg hz]
    have rb := ratio_bd hr hn hs (by omega)
    have mb := mtch_bd hr hs
    by_cases g : goodT t r l
    · rw [if_neg (fun q => q g)]
      unfold echoE
      rw [if_pos (.inr (.inr rfl)), if_pos ⟨pw, .inr ⟨.inr rfl, by dsimp only; omega, rb, mb, sb, .inr ⟨rfl, mean_ok (slk_bd hr).1 (slk_bd hr).2, mean_ok (slk_bd hr).1 (slk_bd hr).2, mean_ok (slkT_bd hr).1 (slkT_bd hr).2⟩⟩⟩]
    · rw [if_pos g]
      unfold echoE
      rw [if_pos (.inr (.inl rfl)), if_pos ⟨pw, .inr ⟨.inl rfl, by dsimp only; omega, rb, mb, sb, .inl ⟨rfl, rfl, rfl, rfl⟩⟩⟩]
end

section
variable {t : Train} {r r' : Recv} {l : List Sample}
theorem hear_0 (h : hearE t r l = 0) : (kndOk t.kind ∧ trainOk t) ∧ recvOk r ∧ (l.length : Int) = t.count ∧ ∀ x ∈ l, smpOk x := by
  unfold hearE at h
  by_cases a : trainE t = 0
  · rw [if_neg (fun q => q a)] at h
    by_cases b : recvE r = 0
    · rw [if_neg (fun q => q b)] at h
      by_cases c : (l.length : Int) = t.count
      · rw [if_neg (fun q => q c)] at h
        by_cases d : ∀ x ∈ l, smpOk x
        · exact ⟨train_of (fun q => q a), recv_of (fun q => q b), c, d⟩
        · rw [if_neg d] at h; exact absurd h (by decide)
      · rw [if_pos c] at h; exact absurd h (by decide)
    · rw [if_pos b] at h; exact absurd h b
  · rw [if_pos a] at h; exact absurd h a
theorem hear_R (h : hearE t r l = 0) : hearR t r l = hearX t r l := if_pos h
theorem hearX_1 (hz : (pow0 r l).lo = 0) : hearX t r l = { zE with kind := 1, power := pow0 r l } := if_pos hz
theorem hearX_2 (hz : ¬ (pow0 r l).lo = 0) (g : ¬ goodT t r l) : hearX t r l = { zE with kind := 2, power := pow0 r l, spread := spreadL t l, ratio := ratioS (pow0 r l) (pow1 r l), mtch := mtchS r l } := by unfold hearX; rw [if_neg hz, if_pos g]
theorem hearX_3 (hz : ¬ (pow0 r l).lo = 0) (g : goodT t r l) : hearX t r l = ⟨3, pow0 r l, meanS (stL t.kind l 0) (slk t r (stL t.kind l 0)), meanS (stL t.kind l 1) (slk t r (stL t.kind l 1)), spreadL t l, ratioS (pow0 r l) (pow1 r l), mtchS r l, meanS (turnL l) (2 * r.phase * l.length)⟩ := by unfold hearX; rw [if_neg hz, if_neg (fun q => q g)]
theorem hearX_pow : (hearX t r l).power = pow0 r l := by
  by_cases hz : (pow0 r l).lo = 0
  · rw [hearX_1 hz]
  · by_cases g : goodT t r l
    · rw [hearX_3 hz g]
    · rw [hearX_2 hz g]
end
def rB (r : Recv) (d0 d1 d2 d3 : Int) : Recv := ⟨max 0 (r.level - d0), max 0 (r.phase - d1), min r.nhi (r.nlo + d2), max (min r.nhi (r.nlo + d2)) (r.nhi - d3)⟩
end Go.Proofs.YtffbohecdocajaaGreat

namespace Go.Proofs.YtffbohecdocajaaGreat
open Go.SL Go.Proofs Go.Pulse
set_option linter.unusedVariables false

/-! ### Tables -/
/-- A point of a table: a power, and what it is worth. -/
structure Pt where
  z : Int
  r : Int
  deriving DecidableEq
def zPt : Pt := ⟨0,0⟩
/-- The error of a table. -/
def tabOk (l : List Pt) (most : Int) : Prop := (∀ p ∈ l, (0 ≤ p.z ∧ p.z ≤ 1073741824) ∧ 0 ≤ p.r ∧ p.r ≤ most) ∧ (l.getD 0 zPt).z = 0 ∧ l.Pairwise fun a b => a.z < b.z ∧ a.r ≤ b.r
/-- How many points lie below a power, if they ascend. -/
def wIx (z : Int) : List Pt → Nat
  | [] => 0
  | p :: l => if p.z < z then wIx z l + 1 else 0
def rnd (u : Bool) (a b : Int) : Int := if u then up a b else a / b
/-- What a power is worth. -/
def wth (u : Bool) (l : List Pt) (z : Int) : Int :=
  if wIx z l < l.length ∧ (l.getD (wIx z l) zPt).z = z then (l.getD (wIx z l) zPt).r
  else if wIx z l = l.length then (l.getD (wIx z l - 1) zPt).r
  else (l.getD (wIx z l - 1) zPt).r + rnd u (((l.getD (wIx z l) zPt).r - (l.getD (wIx z l - 1) zPt).r) * (z - (l.getD (wIx z l - 1) zPt).z)) ((l.getD (wIx z l) zPt).z - (l.getD (wIx z l - 1) zPt).z)
section
variable {l : List Pt} {z z' most : Int}
theorem wIx_le (z : Int) : ∀ l : List Pt, wIx z l ≤ l.length
  | [] => Nat.le_refl 0
  | p :: l => by
    have := wIx_le z l
    unfold wIx
    split
    · rw [List.length_cons]; omega
    · exact Nat.zero_le _
theorem wIx_lt : ∀ (l : List Pt) (k : Nat), k < wIx z l → (l.getD k zPt).z < z
  | [], k, h => absurd h (Nat.not_lt_zero k)
  | p :: l, k, h => by
    unfold wIx at h
    split at h
    · cases k with
      | zero => assumption
      | succ k => rw [List.getD_cons_succ]; exact wIx_lt l k (by omega)
    · exact absurd h (Nat.not_lt_zero k)
theorem wIx_ge : ∀ l : List Pt, wIx z l < l.length → z ≤ (l.getD (wIx z l) zPt).z
  | [], h => absurd h (Nat.not_lt_zero _)
  | p :: l, h => by
    unfold wIx at h ⊢
    split
    · rename_i hp
      rw [if_pos hp, List.length_cons] at h
      rw [List.getD_cons_succ]; exact wIx_ge l (by omega)
    · rename_i hp
      rw [List.getD_cons_zero]; omega
theorem wIx_eq {n : Nat} (h1 : ∀ k, k < n → (l.getD k zPt).z < z) (h2 : n < l.length → z ≤ (l.getD n zPt).z) (hn : n ≤ l.length) : n = wIx z l := by
  have a1 := wIx_le z l
  rcases Nat.lt_trichotomy n (wIx z l) with h | h | h
  · have := wIx_lt l n h
    have := h2 (by omega)
    omega
  · exact h
  · have := h1 _ h
    have := wIx_ge (z := z) l (by omega)
    omega
theorem tab_lt (h : tabOk l most) {i k : Nat} (hi : i < k) (hk : k < l.length) : (l.getD i zPt).z < (l.getD k zPt).z ∧ (l.getD i zPt).r ≤ (l.getD k zPt).r := by
  have := List.pairwise_iff_getElem.1 h.2.2 i k (by omega) hk hi
  rw [List.getD_eq_getElem?_getD, List.getElem?_eq_getElem (by omega), List.getD_eq_getElem?_getD, List.getElem?_eq_getElem hk]
  exact this
theorem tab_at (h : tabOk l most) {k : Nat} (hk : k < l.length) : (0 ≤ (l.getD k zPt).z ∧ (l.getD k zPt).z ≤ 1073741824) ∧ 0 ≤ (l.getD k zPt).r ∧ (l.getD k zPt).r ≤ most := by
  rw [List.getD_eq_getElem?_getD, List.getElem?_eq_getElem hk]
  exact h.1 _ (List.getElem_mem hk)
theorem tab_mono (h : tabOk l most) {i k : Nat} (hi : i ≤ k) (hk : k < l.length) : (l.getD i zPt).z ≤ (l.getD k zPt).z ∧ (l.getD i zPt).r ≤ (l.getD k zPt).r := by
  rcases Nat.lt_or_eq_of_le hi with e | e
  · have := tab_lt h e hk
    omega
  · rw [e]; omega
/-- The index is not 0 between two points. -/
theorem wIx_pos (h : tabOk l most) (hz : 0 ≤ z) (hl : 0 < l.length) (hn : ¬ (wIx z l < l.length ∧ (l.getD (wIx z l) zPt).z = z)) : 0 < wIx z l := by
  rcases Nat.eq_zero_or_pos (wIx z l) with e | e
  · exfalso
    have := wIx_ge (z := z) l (by omega)
    rw [e] at this hn
    have h0 := h.2.1
    exact hn ⟨hl, by omega⟩
  · exact e
/-- What lies between two points is worth no less than the first and no more than the second. -/
theorem rnd_bd {u : Bool} {a b c d : Int} (h1 : 0 ≤ a) (h2 : 0 ≤ c) (h3 : c ≤ d) (hd : 0 < d) : 0 ≤ rnd u (a * c) d ∧ rnd u (a * c) d ≤ a := by
  have p : 0 ≤ a * c := Int.mul_nonneg h1 h2
  have q : a * c ≤ a * d := Int.mul_le_mul_of_nonneg_left h3 h1
  unfold rnd
  split
  · exact ⟨up_nn hd p, up_le hd q⟩
  · refine ⟨Int.ediv_nonneg p (by omega), ?_⟩
    have := Int.ediv_le_ediv hd q
    rwa [Int.mul_ediv_cancel _ (by omega)] at this
theorem rnd_mono {u : Bool} {a b d : Int} (hab : a ≤ b) (h0 : 0 ≤ b) (hd : 0 < d) : rnd u a d ≤ rnd u b d := by
  unfold rnd
  split
  · exact up_mono2 hd (Int.le_refl d) h0 hab
  · exact Int.ediv_le_ediv hd hab
/-- Bounds of a value by the points around. -/
theorem wth_lo (h : tabOk l most) (hz : 0 ≤ z) (u : Bool) {k : Nat} (hk : k < wIx z l) : (l.getD k zPt).r ≤ wth u l z := by
  have a1 := wIx_le z l
  unfold wth
  split
  · exact (tab_mono h (Nat.le_of_lt hk) (by omega)).2
  · split
    · exact (tab_mono h (by omega) (by omega)).2
    · rename_i h1 h2
      have e := tab_lt h (i := wIx z l - 1) (k := wIx z l) (by omega) (by omega)
      have f := (tab_mono h (i := k) (k := wIx z l - 1) (by omega) (by omega)).2
      have g := wIx_lt l (wIx z l - 1) (z := z) (by omega)
      have g2 := wIx_ge (z := z) l (by omega)
      have := (rnd_bd (u := u) (b := 0) (a := (l.getD (wIx z l) zPt).r - (l.getD (wIx z l - 1) zPt).r) (c := z - (l.getD (wIx z l - 1) zPt).z) (d := (l.getD (wIx z l) zPt).z - (l.getD (wIx z l - 1) zPt).z) (by omega) (by omega) (by omega) (by omega)).1
      omega
theorem wth_hi (h : tabOk l most) (hz : 0 ≤ z) (u : Bool) (hk : wIx z l < l.length) : wth u l z ≤ (l.getD (wIx z l) zPt).r := by
  unfold wth
  split
  · exact Int.le_refl _
  · rename_i h1
    rw [if_neg (by omega)]
    have hp := wIx_pos h hz (by omega) h1
    have e := tab_lt h (i := wIx z l - 1) (k := wIx z l) (by omega) (by omega)
    have g := wIx_lt l (wIx z l - 1) (z := z) (by omega)
    have g2 := wIx_ge (z := z) l (by omega)
    have := (rnd_bd (u := u) (b := 0) (a := (l.getD (wIx z l) zPt).r - (l.getD (wIx z l - 1) zPt).r) (c := z - (l.getD (wIx z l - 1) zPt).z) (d := (l.getD (wIx z l) zPt).z - (l.getD (wIx z l - 1) zPt).z) (by omega) (by omega) (by omega) (by omega)).2
    omega
theorem wth_bd (h : tabOk l most) (hz : 0 ≤ z) (u : Bool) (hl : 0 < l.length) : 0 ≤ wth u l z ∧ wth u l z ≤ most := by
  have a1 := wIx_le z l
  constructor
  · rcases Nat.eq_zero_or_pos (wIx z l) with e | e
    · unfold wth
      have c : wIx z l < l.length ∧ (l.getD (wIx z l) zPt).z = z := by
        rcases Classical.em (wIx z l < l.length ∧ (l.getD (wIx z l) zPt).z = z) with q | q
        · exact q
        · have := wIx_pos h hz hl q
          omega
      rw [if_pos c]
      exact (tab_at h c.1).2.1
    · have := wth_lo h hz u (k := 0) e
      have := (tab_at h (k := 0) (by omega)).2.1
      omega
  · rcases Nat.lt_or_ge (wIx z l) l.length with e | e
    · have := wth_hi h hz u e
      have := (tab_at h e).2.2
      omega
    · unfold wth
      rw [if_neg (by omega), if_pos (by omega)]
      exact (tab_at h (by omega)).2.2
theorem wth_mono (h : tabOk l most) (hz : 0 ≤ z) (hl : 0 < l.length) (hzz : z ≤ z') {u v : Bool} (huv : u = v ∨ (u = false ∧ v = true)) : wth u l z ≤ wth v l z' := by
  have a1 := wIx_le z l
  have a2 := wIx_le z' l
  have hle : wIx z l ≤ wIx z' l := by
    rcases Nat.lt_or_ge (wIx z' l) (wIx z l) with e | e
    · have := wIx_lt l _ e
      have := wIx_ge (z := z') l (by omega)
      omega
    · exact e
  rcases Nat.lt_or_eq_of_le hle with e | e
  · have := wth_hi h hz u (by omega)
    have := wth_lo h (by omega : 0 ≤ z') v e
    omega
  · rcases Classical.em (wIx z l < l.length ∧ (l.getD (wIx z l) zPt).z = z) with q | q
    · rw [e] at q
      have g2 := wIx_ge (z := z') l q.1
      have : z = z' := by omega
      subst this
      unfold wth
      rw [if_pos q, if_pos q]; exact Int.le_refl _
    · rcases Classical.em (wIx z' l < l.length ∧ (l.getD (wIx z' l) zPt).z = z') with q' | q'
      · have := wth_hi h hz u (by rw [e]; exact q'.1)
        have k : wth v l z' = (l.getD (wIx z' l) zPt).r := by unfold wth; rw [if_pos q']
        rw [k, ← e]; exact this
      · unfold wth
        rw [if_neg q, if_neg q', e]
        split
        · exact Int.le_refl _
        · rename_i h2
          have hp := wIx_pos h (by omega) hl q'
          have t := tab_lt h (i := wIx z' l - 1) (k := wIx z' l) (by omega) (by omega)
          have g := wIx_lt l (wIx z' l - 1) (z := z') (by omega)
          have g1 := wIx_lt l (wIx z l - 1) (z := z) (by omega)
          rw [e] at g1
          have k1 := Int.mul_le_mul_of_nonneg_left (show z - (l.getD (wIx z' l - 1) zPt).z ≤ z' - (l.getD (wIx z' l - 1) zPt).z by omega) (show 0 ≤ (l.getD (wIx z' l) zPt).r - (l.getD (wIx z' l - 1) zPt).r by omega)
          have k2 := Int.mul_nonneg (show 0 ≤ (l.getD (wIx z' l) zPt).r - (l.getD (wIx z' l - 1) zPt).r by omega) (show 0 ≤ z' - (l.getD (wIx z' l - 1) zPt).z by omega)
          refine Int.add_le_add_left ?_ _
          rcases huv with rfl | ⟨rfl, rfl⟩
          · exact rnd_mono k1 k2 (by omega)
          · exact div_up (by omega) k1
end
/-! ### Steps from a measured power to a rate -/
structure Mdl where
  loss : List Pt
  rate : List Pt
  melt : Span
  inn : Span
  above : Span
def fillS (n : Int) (b p : Span) : Span :=
  if n = b.lo then ⟨min (p.lo * n) 1073741824,1073741824⟩
  else if n = b.hi then ⟨min (p.lo * n / (n - b.lo)) 1073741824,1073741824⟩
  else ⟨min (p.lo * n / (n - b.lo)) 1073741824, min (up (p.hi * n) (n - b.hi)) 1073741824⟩
def pasA (t p : Span) : Span := ⟨min 1073741824 (p.lo * 1073741824 / t.hi), if 1048576 ≤ t.lo then min 1073741824 (up (p.hi * 1073741824) t.lo) else 1073741824⟩
def pasT (l : List Pt) (t z : Span) : Span := ⟨t.lo * (65536 - wth true l z.hi) / 65536, up (t.hi * (65536 - wth false l z.lo)) 65536⟩
def facC (o : Span) (b : Prop) [Decidable b] (f : Span) : Span := if b then ⟨min o.lo f.lo, max o.hi f.hi⟩ else o
def facS (m : Mdl) (b : Span) : Span := facC (facC (facC ⟨100000,0⟩ (b.lo < m.melt.lo) ⟨1000,1000⟩) (max b.lo m.melt.lo ≤ min b.hi m.melt.hi) m.inn) (m.melt.hi < b.hi) m.above
def layS (f p : Span) : Span := ⟨min (p.lo * f.lo / 1000) 1073741824, min (up (p.hi * f.hi) 1000) 1073741824⟩
def ratS (l : List Pt) (p : Span) : Span := ⟨wth false l p.lo, wth true l p.hi⟩
def inR (s : Span) (n : Int) : Prop := 0 ≤ s.lo ∧ s.lo ≤ s.hi ∧ s.hi ≤ n
structure MdlOk (m : Mdl) : Prop where
  l0 : 2 ≤ m.loss.length ∧ m.loss.length ≤ 32
  l1 : tabOk m.loss 32768
  r0 : 2 ≤ m.rate.length ∧ m.rate.length ≤ 32
  r1 : tabOk m.rate 1000000
  melt : inR m.melt 20000
  inn : inR m.inn 100000
  above : inR m.above 100000
section
variable {p p' t t' z z' b f : Span} {n : Int} {m : Mdl} {l : List Pt} {most : Int}
theorem fill_in (hn : 1 ≤ n) (hb : inR b n) (h : inSp p' p) (h0 : 0 ≤ p.lo) (h1 : p.hi ≤ 1073741824) : inSp (fillS n b p') (fillS n b p) ∧ 0 ≤ (fillS n b p).lo ∧ (fillS n b p).hi ≤ 1073741824 := by
  obtain ⟨h2, h3, h4⟩ := h
  obtain ⟨b1, b2, b3⟩ := hb
  have a1 : p.lo * n ≤ p'.lo * n := Int.mul_le_mul_of_nonneg_right h3 (by omega)
  have a2 : p'.lo * n ≤ p'.hi * n := Int.mul_le_mul_of_nonneg_right h2 (by omega)
  have a3 : p'.hi * n ≤ p.hi * n := Int.mul_le_mul_of_nonneg_right h4 (by omega)
  have a0 : 0 ≤ p.lo * n := Int.mul_nonneg h0 (by omega)
  unfold fillS
  split
  · exact ⟨⟨by show min _ _ ≤ (1073741824 : Int); omega, by show min _ _ ≤ min _ _; omega, Int.le_refl _⟩, by show 0 ≤ min _ _; omega, Int.le_refl _⟩
  · rename_i e1
    have d : 0 < n - b.lo := by omega
    have c1 : p.lo * n / (n - b.lo) ≤ p'.lo * n / (n - b.lo) := Int.ediv_le_ediv d a1
    have c0 : 0 ≤ p.lo * n / (n - b.lo) := Int.ediv_nonneg a0 (by omega)
    split
    · exact ⟨⟨by show min _ _ ≤ (1073741824 : Int); omega, by show min _ _ ≤ min _ _; omega, Int.le_refl _⟩, by show 0 ≤ min _ _; omega, Int.le_refl _⟩
    · rename_i e2
      have d2 : 0 < n - b.hi := by omega
      have c2 : p'.lo * n / (n - b.lo) ≤ up (p'.hi * n) (n - b.hi) := div_le_up2 d2 (by omega) (by omega) a2
      have c3 : up (p'.hi * n) (n - b.hi) ≤ up (p.hi * n) (n - b.hi) := up_mono2 d2 (Int.le_refl _) (by omega) a3
      exact ⟨⟨by show min _ _ ≤ min _ _; omega, by show min _ _ ≤ min _ _; omega, by show min _ _ ≤ min _ _; omega⟩, by show 0 ≤ min _ _; omega, by show min _ _ ≤ (_ : Int); omega⟩
theorem pasA_in (h : inSp p' p) (h0 : 0 ≤ p.lo) (ht : inSp t' t) (t0 : 0 ≤ t.lo) (t1 : 1 ≤ t'.hi) : inSp (pasA t' p') (pasA t p) ∧ 0 ≤ (pasA t p).lo ∧ (pasA t p).hi ≤ 1073741824 := by
  obtain ⟨h2, h3, h4⟩ := h
  obtain ⟨t2, t3, t4⟩ := ht
  have a1 : p.lo * 1073741824 / t.hi ≤ p'.lo * 1073741824 / t'.hi := div_mono2 (by omega) (by omega) (by omega) (by omega)
  have a0 : 0 ≤ p.lo * 1073741824 / t.hi := Int.ediv_nonneg (by omega) (by omega)
  unfold pasA
  dsimp only
  refine ⟨⟨?_, ?_, ?_⟩, ?_, ?_⟩
  · dsimp only
    split
    · have : p'.lo * 1073741824 / t'.hi ≤ up (p'.hi * 1073741824) t'.lo := div_le_up2 (by omega) (by omega) (by omega) (by omega)
      omega
    · omega
  · dsimp only
    omega
  · dsimp only
    split
    · split
      · have : up (p'.hi * 1073741824) t'.lo ≤ up (p.hi * 1073741824) t.lo := up_mono2 (by omega) (by omega) (by omega) (by omega)
        omega
      · omega
    · rw [if_neg (by omega)]; exact Int.le_refl _
  · omega
  · split <;> omega
theorem mul_le2 {a b c d : Int} (h1 : a ≤ b) (h2 : c ≤ d) (hc : 0 ≤ c) (hb : 0 ≤ b) : a * c ≤ b * d := Int.le_trans (Int.mul_le_mul_of_nonneg_right h1 hc) (Int.mul_le_mul_of_nonneg_left h2 hb)
theorem pasT_in (hl : tabOk l 32768) (hl0 : 0 < l.length) (h : inSp z' z) (h0 : 0 ≤ z.lo) (ht : inSp t' t) (t0 : 0 ≤ t.lo) (t1 : 1 ≤ t'.hi) (t9 : t.hi ≤ 1073741824) : inSp (pasT l t' z') (pasT l t z) ∧ 0 ≤ (pasT l t z).lo ∧ 1 ≤ (pasT l t' z').hi ∧ (pasT l t z).hi ≤ 1073741824 := by
  obtain ⟨h2, h3, h4⟩ := h
  obtain ⟨t2, t3, t4⟩ := ht
  have w1 := wth_bd hl (show 0 ≤ z.hi by omega) true hl0
  have w2 := wth_bd hl h0 false hl0
  have w3 := wth_bd hl (show 0 ≤ z'.hi by omega) true hl0
  have w4 := wth_bd hl (show 0 ≤ z'.lo by omega) false hl0
  have m1 : wth true l z'.hi ≤ wth true l z.hi := wth_mono hl (by omega) hl0 h4 (.inl rfl)
  have m2 : wth false l z.lo ≤ wth false l z'.lo := wth_mono hl (by omega) hl0 h3 (.inl rfl)
  have m3 : wth false l z'.lo ≤ wth true l z'.hi := wth_mono hl (by omega) hl0 h2 (.inr ⟨rfl, rfl⟩)
  have a1 : t.lo * (65536 - wth true l z.hi) ≤ t'.lo * (65536 - wth true l z'.hi) := mul_le2 t3 (by omega) (by omega) (by omega)
  have a2 : t'.lo * (65536 - wth true l z'.hi) ≤ t'.hi * (65536 - wth false l z'.lo) := mul_le2 t2 (by omega) (by omega) (by omega)
  have a3 : t'.hi * (65536 - wth false l z'.lo) ≤ t.hi * (65536 - wth false l z.lo) := mul_le2 t4 (by omega) (by omega) (by omega)
  have a0 : 0 ≤ t.lo * (65536 - wth true l z.hi) := Int.mul_nonneg t0 (by omega)
  have a4 : t.hi * (65536 - wth false l z.lo) ≤ t.hi * 65536 := Int.mul_le_mul_of_nonneg_left (by omega) (by omega)
  have a5 : 1 * 1 ≤ t'.hi * (65536 - wth false l z'.lo) := mul_le2 t1 (by omega) (by omega) (by omega)
  refine ⟨⟨div_up (by omega) a2, Int.ediv_le_ediv (by omega) a1, up_mono2 (by omega) (Int.le_refl _) (by omega) a3⟩, Int.ediv_nonneg a0 (by omega), ?_, ?_⟩
  · show 1 ≤ up _ _
    have := le_up_mul (b := t'.hi * (65536 - wth false l z'.lo)) (m := 65536) (by omega)
    omega
  · show up _ _ ≤ (_ : Int)
    have := up_le (n := 65536) (by omega) a4
    omega
theorem fac_bd (h : MdlOk m) (hb : b.lo ≤ b.hi) : inR (facS m b) 100000 := by
  obtain ⟨x1, x2, x3⟩ := h.melt
  obtain ⟨y1, y2, y3⟩ := h.inn
  obtain ⟨z1, z2, z3⟩ := h.above
  unfold facS facC inR
  have hm : b.lo < m.melt.lo ∨ (max b.lo m.melt.lo ≤ min b.hi m.melt.hi) ∨ m.melt.hi < b.hi := by omega
  split <;> split <;> split <;> dsimp only <;> omega
theorem lay_in (hf : inR f 100000) (h : inSp p' p) (h0 : 0 ≤ p.lo) : inSp (layS f p') (layS f p) ∧ 0 ≤ (layS f p).lo := by
  obtain ⟨h2, h3, h4⟩ := h
  obtain ⟨f1, f2, f3⟩ := hf
  have a1 : p.lo * f.lo ≤ p'.lo * f.lo := Int.mul_le_mul_of_nonneg_right h3 f1
  have a2 : p'.lo * f.lo ≤ p'.hi * f.hi := mul_le2 h2 f2 f1 (by omega)
  have a3 : p'.hi * f.hi ≤ p.hi * f.hi := Int.mul_le_mul_of_nonneg_right h4 (by omega)
  have a0 : 0 ≤ p.lo * f.lo := Int.mul_nonneg h0 f1
  have c1 : p.lo * f.lo / 1000 ≤ p'.lo * f.lo / 1000 := Int.ediv_le_ediv (by omega) a1
  have c2 : p'.lo * f.lo / 1000 ≤ up (p'.hi * f.hi) 1000 := div_up (by omega) a2
  have c3 : up (p'.hi * f.hi) 1000 ≤ up (p.hi * f.hi) 1000 := up_mono2 (by omega) (Int.le_refl _) (by omega) a3
  have c0 : 0 ≤ p.lo * f.lo / 1000 := Int.ediv_nonneg a0 (by omega)
  exact ⟨⟨by show min _ _ ≤ min _ _; omega, by show min _ _ ≤ min _ _; omega, by show min _ _ ≤ min _ _; omega⟩, by show 0 ≤ min _ _; omega⟩
theorem rat_in (hl : tabOk l most) (hl0 : 0 < l.length) (h : inSp p' p) (h0 : 0 ≤ p.lo) : inSp (ratS l p') (ratS l p) := by
  obtain ⟨h2, h3, h4⟩ := h
  exact ⟨wth_mono hl (by omega) hl0 h2 (.inr ⟨rfl, rfl⟩), wth_mono hl h0 hl0 h3 (.inl rfl), wth_mono hl (by omega) hl0 h4 (.inl rfl)⟩
end
/-! ### A ray -/
def zsp : Span := ⟨0,0⟩
/-- What is left of the power on the way to a gate. -/
def pasN (m : Mdl) (n : Int) (bl ps : List Span) : Nat → Span
  | 0 => ⟨1073741824,1073741824⟩
  | j + 1 => pasT m.loss (pasN m n bl ps j) (pasA (pasN m n bl ps j) (fillS n (bl.getD j zsp) (ps.getD j zsp)))
def gateZ (m : Mdl) (n : Int) (bl ps : List Span) (j : Nat) : Span := pasA (pasN m n bl ps j) (fillS n (bl.getD j zsp) (ps.getD j zsp))
def gateR (m : Mdl) (n : Int) (bl bd ps : List Span) (j : Nat) : Span := ratS m.rate (layS (facS m (bd.getD j zsp)) (gateZ m n bl ps j))
def rayR (m : Mdl) (n : Int) (bl bd ps : List Span) : List Span := (List.range ps.length).map (gateR m n bl bd ps)
/-- What a ray needs. -/
structure RayIn (n : Int) (bl bd ps ps' : List Span) : Prop where
  n1 : 1 ≤ n
  bl : ∀ j, j < ps.length → inR (bl.getD j zsp) n
  bd : ∀ j, j < ps.length → (bd.getD j zsp).lo ≤ (bd.getD j zsp).hi
  ps : ∀ j, j < ps.length → inR (ps.getD j zsp) 1073741824 ∧ inSp (ps'.getD j zsp) (ps.getD j zsp)
section
variable {m : Mdl} {n : Int} {bl bd ps ps' : List Span}
theorem pas_in (hm : MdlOk m) (h : RayIn n bl bd ps ps') : ∀ j, j ≤ ps.length → inSp (pasN m n bl ps' j) (pasN m n bl ps j) ∧ 0 ≤ (pasN m n bl ps j).lo ∧ 1 ≤ (pasN m n bl ps' j).hi ∧ (pasN m n bl ps j).hi ≤ 1073741824
  | 0,_ => ⟨⟨Int.le_refl _, Int.le_refl _, Int.le_refl _⟩, show (0 : Int) ≤ 1073741824 by decide, show (1 : Int) ≤ 1073741824 by decide, show (1073741824 : Int) ≤ 1073741824 by decide⟩
  | j + 1, hj => by
    obtain ⟨k1, k2, k3, k4⟩ := pas_in hm h j (by omega)
    obtain ⟨⟨p1, p2, p3⟩, q⟩ := h.ps j hj
    obtain ⟨f1, f2, f3⟩ := fill_in h.n1 (h.bl j hj) q p1 p3
    obtain ⟨a1, a2, a3⟩ := pasA_in f1 f2 k1 k2 k3
    exact pasT_in hm.l1 (by have := hm.l0; omega) a1 a2 k1 k2 k3 k4
theorem gate_in (hm : MdlOk m) (h : RayIn n bl bd ps ps') {j : Nat} (hj : j < ps.length) : inSp (gateR m n bl bd ps' j) (gateR m n bl bd ps j) := by
  obtain ⟨k1, k2, k3, k4⟩ := pas_in hm h j (by omega)
  obtain ⟨⟨p1, p2, p3⟩, q⟩ := h.ps j hj
  obtain ⟨f1, f2, f3⟩ := fill_in h.n1 (h.bl j hj) q p1 p3
  obtain ⟨a1, a2, a3⟩ := pasA_in f1 f2 k1 k2 k3
  have f := fac_bd hm (h.bd j hj)
  obtain ⟨l1, l2⟩ := lay_in f a1 a2
  exact rat_in hm.r1 (by have := hm.r0; omega) l1 l2
end
/-! ### Errors of tables and models -/
def bef (l : List Pt) (i : Nat) : Pt := if i = 0 then ⟨-1,0⟩ else l.getD (i - 1) zPt
def ptOk (most : Int) (p : Pt) : Prop := (0 ≤ p.z ∧ p.z ≤ 1073741824) ∧ 0 ≤ p.r ∧ p.r ≤ most
instance (most : Int) (p : Pt) : Decidable (ptOk most p) := by unfold ptOk; exact inferInstance
def ptE (most : Int) (l : List Pt) (i : Nat) : Int :=
  if ptOk most (l.getD i zPt) then (if (i = 0 ∧ 0 < (l.getD i zPt).z) ∨ (l.getD i zPt).z ≤ (bef l i).z ∨ (l.getD i zPt).r < (bef l i).r then 12 else 0) else 3
def tabE (most : Int) (l : List Pt) : Int := if l.length < 2 then 18 else if 32 < l.length then 9 else firstE (ptE most l) l.length
theorem pt_0 {most : Int} {l : List Pt} {i : Nat} (h : ptE most l i = 0) : ptOk most (l.getD i zPt) ∧ (i = 0 → (l.getD i zPt).z = 0) ∧ (0 < i → (l.getD (i - 1) zPt).z < (l.getD i zPt).z ∧ (l.getD (i - 1) zPt).r ≤ (l.getD i zPt).r) := by
  unfold ptE at h
  split at h
  · rename_i h1
    split at h
    · exact absurd h (by decide)
    · rename_i h2
      refine ⟨h1, fun e => ?_, fun e => ?_⟩
      · have := h1.1.1
        omega
      · unfold bef at h2
        rw [if_neg (by omega)] at h2
        omega
  · exact absurd h (by decide)
theorem tab_0 {most : Int} {l : List Pt} (h : tabE most l = 0) : (2 ≤ l.length ∧ l.length ≤ 32) ∧ tabOk l most := by
  unfold tabE at h
  split at h
  · exact absurd h (by decide)
  · split at h
    · exact absurd h (by decide)
    · have q := fun i hi => pt_0 (firstE_eq h i hi)
      refine ⟨by omega, fun p hp => ?_, (q 0 (by omega)).2.1 rfl, ?_⟩
      · obtain ⟨i, hi, rfl⟩ := List.getElem_of_mem hp
        have := (q i hi).1
        rw [List.getD_eq_getElem?_getD, List.getElem?_eq_getElem hi] at this
        exact this
      · have step : ∀ (d i : Nat), i + d + 1 < l.length → (l.getD i zPt).z < (l.getD (i + d + 1) zPt).z ∧ (l.getD i zPt).r ≤ (l.getD (i + d + 1) zPt).r := fun d => by
          induction d with
          | zero => intro i hi; exact (q (i + 0 + 1) hi).2.2 (by omega)
          | succ d ih =>
            intro i hi
            have a := ih i (by omega)
            have b := (q (i + (d + 1) + 1) hi).2.2 (by omega)
            rw [show i + (d + 1) + 1 - 1 = i + d + 1 by omega] at b
            omega
        refine List.pairwise_iff_getElem.2 fun i j hi hj hij => ?_
        have := step (j - i - 1) i (by omega)
        rw [show i + (j - i - 1) + 1 = j by omega, List.getD_eq_getElem?_getD, List.getElem?_eq_getElem hi, List.getD_eq_getElem?_getD, List.getElem?_eq_getElem hj] at this
        exact this
instance (s : Span) (n : Int) : Decidable (inR s n) := by unfold inR; exact inferInstance
def mdlE (m : Mdl) : Int := if tabE 32768 m.loss ≠ 0 then tabE 32768 m.loss else if tabE 1000000 m.rate ≠ 0 then tabE 1000000 m.rate else if inR m.melt 20000 ∧ inR m.inn 100000 ∧ inR m.above 100000 then 0 else 3
theorem mdl_0 {m : Mdl} (h : mdlE m = 0) : MdlOk m := by
  unfold mdlE at h
  split at h
  · exact absurd h (by assumption)
  · rename_i h1
    split at h
    · exact absurd h (by assumption)
    · rename_i h2
      split at h
      · rename_i h3
        have a := tab_0 (Classical.not_not.1 h1)
        have b := tab_0 (Classical.not_not.1 h2)
        exact ⟨a.1, a.2, b.1, b.2, h3.1, h3.2.1, h3.2.2⟩
      · exact absurd h (by decide)
end Go.Proofs.YtffbohecdocajaaGreat

namespace Go.Proofs.YtffbohecdocajaaGreat
open Go.SL Go.Proofs Go.Pulse
set_option linter.unusedVariables false

/-! ### What is in the way of a beam -/
def lenT (t : Int) : Int := 262144 + t * t
def cosT (t : Int) : Int := 262144 - t * t
def sinT (t : Int) : Int := 1024 * t
/-- The ground range of a gate of 1000 metres at a tilt, rounded. -/
def reaV (u : Bool) (t j : Int) : Int := rnd u ((2 * j + 1) * 1000 * cosT t) (2 * lenT t)
/-- An end of the height of a gate. -/
def risV (u : Bool) (z t j e : Int) : Int := z + rnd u ((2 * j + 1) * 1000 * sinT t) (2 * lenT t) + rnd u (reaV u t j * reaV u t j) (2 * e)
def heiS (z t j : Int) : Span := ⟨risV false z t j 9000000, risV true z t j 8000000⟩
def banS (z t w j : Int) : Span := ⟨risV false z (t - w) j 9000000, risV true z (t + w) j 8000000⟩
def addH (o : List Span) (j : Nat) : List Span := o.set j ⟨(o.getD j zsp).lo, (o.getD j zsp).hi + 1⟩
def addL (o : List Span) (j : Nat) : List Span := o.set j ⟨(o.getD j zsp).lo + 1, (o.getD j zsp).hi⟩
/-- From a gate on all is blocked. -/
def resB (n : Nat) : Nat → List Span → List Span
  | 0, o => o
  | k + 1, o => resB n k (addH (addL o (n - (k + 1))) (n - (k + 1)))
/-- A thread: what it adds, gate by gate (so many of them are left). -/
def thrB (n : Nat) (G : Span) (h : Nat → Span) : Nat → Bool → List Span → List Span
  | 0,_, o => o
  | k + 1, p, o =>
    let j := n - (k + 1)
    let p' := p || decide ((h j).lo ≤ G.hi)
    let o1 := if p' then addH o j else o
    if (h j).hi ≤ G.lo then resB n k (addL o1 j) else thrB n G h k p' o1
/-- Threads from a tilt on. -/
def tilB (n : Nat) (G : Span) (z : Int) (t : Int) : Nat → List Span → List Span
  | 0, o => o
  | k + 1, o => tilB n G z (t + 1) k (thrB n G (fun j => heiS z t j) n false o)
def bloB (n : Nat) (G : Span) (z t w : Int) : List Span := tilB n G z (t - w) (2 * w + 1).toNat (List.replicate n zsp)
section
variable {n k j : Nat} {o : List Span} {G : Span} {c : Int}
theorem addH_len : (addH o j).length = o.length := List.length_set
theorem addL_len : (addL o j).length = o.length := List.length_set
theorem resB_len : ∀ (k : Nat) (o : List Span), (resB n k o).length = o.length
  | 0,_ => rfl
  | k + 1, o => by unfold resB; rw [resB_len k, addH_len, addL_len]
theorem thrB_len {h : Nat → Span} : ∀ (k : Nat) (p : Bool) (o : List Span), (thrB n G h k p o).length = o.length
  | 0,_,_ => rfl
  | k + 1, p, o => by
    unfold thrB
    dsimp only
    have e : (if (p || decide ((h (n - (k + 1))).lo ≤ G.hi)) = true then addH o (n - (k + 1)) else o).length = o.length := by
      split
      · exact addH_len
      · rfl
    split
    · rw [resB_len, addL_len, e]
    · rw [thrB_len k, e]
theorem tilB_len {z : Int} : ∀ (k : Nat) (t : Int) (o : List Span), (tilB n G z t k o).length = o.length
  | 0,_,_ => rfl
  | k + 1, t, o => by unfold tilB; rw [tilB_len k, thrB_len]
/-- Each gate has a span within a number; those from a gate on within one less. -/
def inAll (o : List Span) (j : Nat) (c : Int) : Prop := ∀ i, inR (o.getD i zsp) (if i < j then c + 1 else c)
theorem getD_set {o : List Span} {i j : Nat} {s : Span} : (o.set j s).getD i zsp = if j = i ∧ i < o.length then s else o.getD i zsp := by
  rw [List.getD_eq_getElem?_getD, List.getElem?_set]
  split
  · rename_i e
    subst e
    split
    · rw [if_pos ⟨rfl, by assumption⟩]; rfl
    · rw [if_neg (by omega), List.getD_eq_getElem?_getD, List.getElem?_eq_none (by omega)]
  · rw [if_neg (fun q => by omega), List.getD_eq_getElem?_getD]
theorem inAll_mono (h : inAll o j c) {i : Nat} (hi : j ≤ i) : inAll o i c := fun k => by
  have := h k
  unfold inR at this ⊢
  refine ⟨this.1, this.2.1, Int.le_trans this.2.2 ?_⟩
  split <;> split <;> omega
theorem inAll_H (h : inAll o j c) : inAll (addH o j) (j + 1) c := fun k => by
  have := h k
  unfold addH
  rw [getD_set]
  unfold inR at this ⊢
  split
  · rename_i e
    obtain ⟨e,_⟩ := e
    subst e
    rw [if_neg (by omega)] at this
    rw [if_pos (by omega)]
    dsimp only
    omega
  · have q := (inAll_mono h (Nat.le_succ j)) k
    exact q
theorem inAll_HL (h : inAll o j c) : inAll (addL (addH o j) j) (j + 1) c := fun k => by
  have := h k
  unfold addL
  rw [getD_set]
  split
  · rename_i e
    obtain ⟨e, l⟩ := e
    subst e
    have l' : j < o.length := by rw [addH_len] at l; exact l
    have d : (addH o j).getD j zsp = ⟨(o.getD j zsp).lo, (o.getD j zsp).hi + 1⟩ := by unfold addH; rw [getD_set, if_pos ⟨rfl, l'⟩]
    rw [d]
    rw [if_neg (by omega)] at this
    rw [if_pos (by omega)]
    unfold inR at this ⊢
    dsimp only
    omega
  · exact inAll_H h k
theorem addHL_comm : addH (addL o j) j = addL (addH o j) j := by
  unfold addH addL
  rw [List.set_set, List.set_set]
  rcases Nat.lt_or_ge j o.length with e | e
  · rw [getD_set, getD_set, if_pos ⟨rfl, e⟩, if_pos ⟨rfl, e⟩]
  · rw [List.set_eq_of_length_le e, List.set_eq_of_length_le e]
theorem inAll_res : ∀ (k : Nat) (o : List Span), k ≤ n → inAll o (n - k) c → inAll (resB n k o) n c
  | 0, o,_, h => h
  | k + 1, o, hk, h => by
    unfold resB
    refine inAll_res k _ (by omega) ?_
    rw [addHL_comm]
    have := inAll_HL h
    rwa [show n - (k + 1) + 1 = n - k by omega] at this
theorem inAll_thr {h : Nat → Span} (hG : G.lo ≤ G.hi) (hh : ∀ j, j < n → (h j).lo ≤ (h j).hi) : ∀ (k : Nat) (p : Bool) (o : List Span), k ≤ n → inAll o (n - k) c → inAll (thrB n G h k p o) n c
  | 0, p, o,_, h => h
  | k + 1, p, o, hk, hI => by
    have hj := hh (n - (k + 1)) (by omega)
    have e1 : n - (k + 1) + 1 = n - k := by omega
    unfold thrB
    dsimp only
    split
    · rename_i hs
      have hp : (p || decide ((h (n - (k + 1))).lo ≤ G.hi)) = true := by
        rw [Bool.or_eq_true]; right; exact decide_eq_true (by omega)
      rw [if_pos hp]
      have := inAll_HL hI
      rw [e1] at this
      exact inAll_res k _ (by omega) this
    · refine inAll_thr hG hh k _ _ (by omega) ?_
      split
      · have := inAll_H hI; rwa [e1] at this
      · exact inAll_mono hI (by omega)
theorem inAll_up (h : inAll o n c) : inAll o 0 (c + 1) := fun k => by
  have := h k
  unfold inR at this ⊢
  refine ⟨this.1, this.2.1, Int.le_trans this.2.2 ?_⟩
  split <;> split <;> omega
theorem inAll_til {z : Int} (hG : G.lo ≤ G.hi) : ∀ (k : Nat) (t : Int) (o : List Span) (c : Int), (∀ s : Int, t ≤ s → s < t + k → ∀ j, j < n → (heiS z s j).lo ≤ (heiS z s j).hi) → inAll o 0 c → inAll (tilB n G z t k o) 0 (c + k)
  | 0, t, o, c,_, h => by rw [show c + ((0 : Nat) : Int) = c by omega]; exact h
  | k + 1, t, o, c, hh, h => by
    unfold tilB
    have a := inAll_thr (n := n) (c := c) hG (hh t (by omega) (by omega)) n false o (Nat.le_refl n) (by rwa [Nat.sub_self])
    have b := inAll_til hG k (t + 1) _ (c + 1) (fun s h1 h2 => hh s (by omega) (by omega)) (inAll_up a)
    rwa [show c + 1 + (k : Int) = c + ((k + 1 : Nat) : Int) by omega] at b
end
/-! ### The heights are spans -/
theorem rnd_le {a b d : Int} (hd : 0 < d) (h : a ≤ b) : rnd false a d ≤ rnd true b d := div_up hd h
theorem tt_bd {t : Int} (h1 : -30 ≤ t) (h2 : t ≤ 30) : 0 ≤ t * t ∧ t * t ≤ 900 := by
  have : t.natAbs ≤ 30 := by omega
  have e : t * t = (t.natAbs * t.natAbs : Nat) := by rw [Int.natAbs_mul_self]
  have := Nat.mul_le_mul this this
  omega
theorem reaV_bd {t j : Int} (h1 : -30 ≤ t) (h2 : t ≤ 30) (hj : 0 ≤ j) (hj2 : j ≤ 10) : 0 ≤ reaV false t j ∧ reaV false t j ≤ reaV true t j ∧ reaV true t j ≤ 10500 := by
  have b := tt_bd h1 h2
  have a1 : 0 ≤ (2 * j + 1) * 1000 * cosT t := Int.mul_nonneg (by omega) (by unfold cosT; omega)
  have hd : 0 < 2 * lenT t := by unfold lenT; omega
  unfold reaV
  refine ⟨Int.ediv_nonneg a1 (by omega), rnd_le hd (Int.le_refl _), ?_⟩
  refine up_le hd ?_
  have : (2 * j + 1) * 1000 * cosT t ≤ 21000 * lenT t := mul_le2 (by omega) (by unfold cosT lenT; omega) (by unfold cosT; omega) (by omega)
  omega
theorem ris_le {z t j e e' : Int} (h1 : -30 ≤ t) (h2 : t ≤ 30) (hj : 0 ≤ j) (hj2 : j ≤ 10) (he : 0 < e') (hee : e' ≤ e) : risV false z t j e ≤ risV true z t j e' := by
  have b := tt_bd h1 h2
  have r := reaV_bd h1 h2 hj hj2
  have hd : 0 < 2 * lenT t := by unfold lenT; omega
  unfold risV
  have k1 : rnd false ((2 * j + 1) * 1000 * sinT t) (2 * lenT t) ≤ rnd true ((2 * j + 1) * 1000 * sinT t) (2 * lenT t) := rnd_le hd (Int.le_refl _)
  have k2 : rnd false (reaV false t j * reaV false t j) (2 * e) ≤ rnd true (reaV true t j * reaV true t j) (2 * e') := div_le_up2 (by omega) (by omega) (Int.mul_nonneg (by omega) (by omega)) (mul_le2 r.2.1 r.2.1 r.1 (by omega))
  omega
theorem hei_ok {z t j : Int} (h1 : -30 ≤ t) (h2 : t ≤ 30) (hj : 0 ≤ j) (hj2 : j ≤ 10) : (heiS z t j).lo ≤ (heiS z t j).hi := ris_le h1 h2 hj hj2 (by omega) (by omega)
theorem ban_dec : ∀ t : Fin 16, ∀ w : Fin 3, ∀ j : Fin 6, (banS 0 (t.val : Int) (w.val : Int) (j.val : Int)).lo ≤ (banS 0 (t.val : Int) (w.val : Int) (j.val : Int)).hi := by decide +kernel
theorem ris_z {u : Bool} {z t j e : Int} : risV u z t j e = z + risV u 0 t j e := by unfold risV; omega
theorem ban_ok {z t w j : Int} (h1 : 0 ≤ t) (h2 : t ≤ 15) (hw : 0 ≤ w) (hw2 : w ≤ 2) (hj : 0 ≤ j) (hj2 : j ≤ 5) : (banS z t w j).lo ≤ (banS z t w j).hi := by
  have d := ban_dec ⟨t.toNat, by omega⟩ ⟨w.toNat, by omega⟩ ⟨j.toNat, by omega⟩
  dsimp only at d
  rw [Int.toNat_of_nonneg h1, Int.toNat_of_nonneg hw, Int.toNat_of_nonneg hj] at d
  unfold banS at d ⊢
  dsimp only at d ⊢
  rw [ris_z, ris_z (u := true)]
  omega
theorem rep_in (n : Nat) : inAll (List.replicate n zsp) 0 0 := fun k => by
  have e : (List.replicate n zsp).getD k zsp = zsp := by
    rw [List.getD_eq_getElem?_getD, List.getElem?_replicate]
    split <;> rfl
  rw [e]
  exact ⟨Int.le_refl _, Int.le_refl _, Int.le_refl _⟩
theorem blo_ok {n : Nat} {G : Span} {z t w : Int} (hG : G.lo ≤ G.hi) (h1 : 0 ≤ t) (h2 : t ≤ 15) (hw : 0 ≤ w) (hw2 : w ≤ 2) (hn : n ≤ 6) (j : Nat) : inR ((bloB n G z t w).getD j zsp) (2 * w + 1) := by
  have := inAll_til (n := n) (z := z) hG (2 * w + 1).toNat (t - w) (List.replicate n zsp) 0 (fun s a b j hj => hei_ok (by omega) (by omega) (by omega) (by omega)) (rep_in n) j
  rw [if_neg (Nat.not_lt_zero j), Int.toNat_of_nonneg (by omega), Int.zero_add] at this
  exact this
theorem blo_len {n : Nat} {G : Span} {z t w : Int} : (bloB n G z t w).length = n := by unfold bloB; rw [tilB_len, List.length_replicate]
end Go.Proofs.YtffbohecdocajaaGreat

namespace Go.Proofs.YtffbohecdocajaaGreat
open Go.SL Go.Proofs Go.Pulse
set_option linter.unusedVariables false

theorem S33 : IsSlice Tryz.prog 33 166 := Tryz.underlying33
theorem B166 : Builds Tryz.prog 166 [(0,1), (1,1)] [.int .i64 0, .int .i64 0] := Builds.mk fun _ => by kernel_rfl
theorem Z166 : ZeroOf Tryz.prog 166 (.agg #[.int .i64 0, .int .i64 0]) := by unfold ZeroOf; kernel_rfl
theorem N166 : (Tryz.prog.info? 166).map (·.size) = some 2 := by kernel_rfl
theorem A166 : IsAgg Tryz.prog 166 2 := ⟨⟨_, Tryz.underlying166, rfl⟩, by kernel_rfl⟩
theorem F166_0 : FieldAt Tryz.prog 166 0 0 := ⟨_,_, Tryz.underlying166, rfl, rfl, 0, by kernel_rfl⟩
theorem C116 : IsFn Tryz.prog 116 := ⟨_, Tryz.func116, by decide, rfl⟩
theorem F166_1 : FieldAt Tryz.prog 166 1 1 := ⟨_,_, Tryz.underlying166, rfl, rfl, 0, by kernel_rfl⟩


abbrev ptC (p : Pt) : List Value := [.int .i64 p.z, .int .i64 p.r]
abbrev Pts (w : World) (p : Option Addr) (l : List Pt) : Prop := RO 2 ptC w p l
theorem tdn {a b : Int} (ha : 0 ≤ a) (hb : 0 < b) : a.tdiv b = a / b ∧ 0 ≤ a / b ∧ a / b ≤ a := by
  refine ⟨Int.tdiv_eq_ediv_of_nonneg ha, Int.ediv_nonneg ha (by omega), ?_⟩
  have h1 := Int.mul_ediv_add_emod a b
  have h2 := Int.emod_nonneg a (show b ≠ 0 by omega)
  have h3 : 0 ≤ a / b := Int.ediv_nonneg ha (by omega)
  have h4 : 1 * (a / b) ≤ b * (a / b) := Int.mul_le_mul_of_nonneg_right (by omega) h3
  omega
theorem tup {a b : Int} (ha : 0 ≤ a) (hb : 0 < b) : (a + b - 1).tdiv b = up a b ∧ 0 ≤ up a b ∧ up a b ≤ a + b - 1 := by
  have h := tdn (a := a + b - 1) (b := b) (by omega) hb
  have e : (a + b - 1) / b = up a b := by
    unfold up
    have h1 := Int.mul_ediv_add_emod (-a) b
    have h2 := Int.emod_nonneg (-a) (show b ≠ 0 by omega)
    have h3 := Int.emod_lt_of_pos (-a) hb
    have h4 : a + b - 1 = (b - 1 - (-a) % b) + b * (-((-a) / b)) := by rw [Int.mul_neg]; omega
    rw [h4, Int.add_mul_ediv_left _ _ (by omega), Int.ediv_eq_zero_of_lt (by omega) (by omega)]
    omega
  rw [e] at h; exact h
section
variable {l : List Pt} {most : Int} {i : Nat}
theorem tE1 (h : (l.length : Int) < 2) : tabE most l = 18 := if_pos (by omega)
theorem tE2 (h : ¬ (l.length : Int) < 2) (k : (32 : Int) < l.length) : tabE most l = 9 := by unfold tabE; rw [if_neg (by omega), if_pos (by omega)]
theorem tE3 (h : ¬ (l.length : Int) < 2) (k : ¬ (32 : Int) < l.length) (hz : ∀ k, k < i → ptE most l k = 0) (hi : i < l.length) {e : Int} (he : ptE most l i = e) (hn : e ≠ 0) : tabE most l = e := by
  unfold tabE; rw [if_neg (by omega), if_neg (by omega), firstE_at hz (by rw [he]; exact hn) hi, he]
theorem tE5 (h : ¬ (l.length : Int) < 2) (k : ¬ (32 : Int) < l.length) (hz : ∀ k, k < l.length → ptE most l k = 0) : tabE most l = 0 := by
  unfold tabE; rw [if_neg (by omega), if_neg (by omega), firstE_zero hz]
theorem pE1 (h : ¬ ptOk most (l.getD i zPt)) : ptE most l i = 3 := if_neg h
theorem pE2 (h : ptOk most (l.getD i zPt)) (k : (i = 0 ∧ 0 < (l.getD i zPt).z) ∨ (l.getD i zPt).z ≤ (bef l i).z ∨ (l.getD i zPt).r < (bef l i).r) : ptE most l i = 12 := by unfold ptE; rw [if_pos h, if_pos k]
theorem pE0 (h : ptOk most (l.getD i zPt)) (k : ¬ ((i = 0 ∧ 0 < (l.getD i zPt).z) ∨ (l.getD i zPt).z ≤ (bef l i).z ∨ (l.getD i zPt).r < (bef l i).r)) : ptE most l i = 0 := by unfold ptE; rw [if_pos h, if_neg k]
theorem zst {f : Nat → Int} (hz : ∀ k, k < i → f k = 0) (h : f i = 0) : ∀ k, k < i + 1 → f k = 0 := fun k hk => by
  by_cases q : k = i
  · subst q; exact h
  · exact hz k (by omega)
end

set_option maxRecDepth 20000 in
theorem nWithin_c (n lo hi : Int) (w : World) :
  Calls Tryz.prog 116 #[.int .i64 n, .int .i64 lo, .int .i64 hi] w fun e w' => e = .returned (.bool (decide (lo ≤ n) && decide (n ≤ hi))) ∧ St (bs w) [] w' := by
  refine enter (vs := [_,_,_]) (env := [(0,_), (1,_), (2,_)]) Tryz.func116 rfl rfl rfl rfl ?_
  refine VC.seq ?_
  refine VC.reg (VO.l (LO.as (.r rfl)) rfl<|VO.nil ?_)
  refine VE.seqN ?_
  refine VC.seq ?_
  refine VC.reg (VO.l (LO.mv (.r rfl)) rfl<|VO.l (LO.mv (.r rfl)) rfl<|VO.l (LO.le (.r rfl) (.r rfl)) rfl<|VO.l (LO.mv (.r rfl)) rfl<|VO.lg rfl rfl (GD.t _) (fun hg => LO.mv (.r rfl)) rfl<|VO.lg rfl rfl (GD.t _) (fun hg => LO.mv (.r rfl)) rfl<|VO.lg rfl rfl (GD.t _) (fun hg => LO.le (.g hg rfl) (.g hg rfl)) rfl<|VO.l (LO.pkA (.r rfl) rfl rfl (.r rfl)) rfl<|VO.l (LO.as (.r rfl)) rfl<|VO.nil ?_)
  refine VE.seqN ?_
  refine VC.ret (VE.res (vs := [_]) rfl ⟨rfl, trivial⟩ (fun w hw => ?_))
  exact ⟨rfl, hw.nil⟩

set_option maxRecDepth 20000 in
theorem nInside_c (s t m : Int) (w : World) :
  Calls Tryz.prog 50 #[.agg #[.int .i64 s, .int .i64 t], .int .i64 m] w fun e w' => e = .returned (.bool ((decide (0 ≤ s) && decide (s ≤ t)) && decide (t ≤ m))) ∧ St (bs w) [] w' := by
  refine enter (vs := [_,_]) (env := [(0,_), (1,_)]) Tryz.func50 rfl rfl rfl rfl ?_
  refine VC.seq ?_
  refine VC.reg (VO.h rfl<|HO.box (C := #[_,_]) rfl rfl fun b1 => VO.l (LO.as (.r rfl)) rfl<|VO.nil ?_)
  refine VE.seqN ?_
  refine VC.seq ?_
  refine VC.reg (VO.l (LO.fa (r := 0) F25_0 (.r rfl) rfl) rfl<|VO.l (LO.ld O3 (.r rfl) (fun _ hw => cells_at hw 0 rfl ⟨_, rfl⟩)) rfl<|VO.l (LO.le (.r rfl) (.r rfl)) rfl<|VO.l (LO.mv (.r rfl)) rfl<|VO.lg rfl rfl (GD.t _) (fun hg => LO.fa (r := 0) F25_0 (.r rfl) rfl) rfl<|VO.lg rfl rfl (GD.t _) (fun hg => LO.ld O3 (.g hg rfl) (fun _ hw => cells_at hw 0 rfl ⟨_, rfl⟩)) rfl<|VO.lg rfl rfl (GD.t _) (fun hg => LO.fa (r := 1) F25_1 (.r rfl) rfl) rfl<|VO.lg rfl rfl (GD.t _) (fun hg => LO.ld O3 (.g hg rfl) (fun _ hw => cells_at hw 0 rfl ⟨_, rfl⟩)) rfl<|VO.lg rfl rfl (GD.t _) (fun hg => LO.le (.g hg rfl) (.g hg rfl)) rfl<|VO.l (LO.pkA (.r rfl) rfl rfl (.r rfl)) rfl<|VO.l (LO.mv (.r rfl)) rfl<|VO.lg rfl rfl (GD.t _) (fun hg => LO.fa (r := 1) F25_1 (.r rfl) rfl) rfl<|VO.lg rfl rfl (GD.t _) (fun hg => LO.ld O3 (.g hg rfl) (fun _ hw => cells_at hw 0 rfl ⟨_, rfl⟩)) rfl<|VO.lg rfl rfl (GD.t _) (fun hg => LO.mv (.r rfl)) rfl<|VO.lg rfl rfl (GD.t _) (fun hg => LO.le (.g hg rfl) (.g hg rfl)) rfl<|VO.l (LO.pkA (.r rfl) rfl rfl (.r rfl)) rfl<|VO.l (LO.as (.r rfl)) rfl<|VO.nil ?_)
  refine VE.seqN ?_
  refine VC.ret (VE.res (vs := [_]) rfl ⟨rfl, trivial⟩ (fun w hw => ?_))
  exact ⟨rfl, hw.nil⟩

set_option maxRecDepth 20000 in
theorem nDown_c (a b : Int) (ha : 0 ≤ a) (ha2 : a ≤ 9223372036854775807) (hb : 0 < b) (w : World) :
  Calls Tryz.prog 343 #[.int .i64 a, .int .i64 b] w fun e w' => e = .returned (.int .i64 (a / b)) ∧ St (bs w) [] w' := by
  have ⟨q1, q2, q3⟩ := tdn ha hb
  refine enter (vs := [_,_]) (env := [(0,_), (1,_)]) Tryz.func343 rfl rfl rfl rfl ?_
  refine VC.seq ?_
  refine VC.reg (VO.l (LO.as (.r rfl)) rfl<|VO.nil ?_)
  refine VE.seqN ?_
  refine VC.seq ?_
  refine VC.reg (VO.l (LO.mv (.r rfl)) rfl<|VO.l (LO.mv (.r rfl)) rfl<|VO.l (LO.quo (.r rfl) (.r rfl) (by omega) (wi (by omega) (by omega))) rfl<|VO.l (LO.as (.r rfl)) rfl<|VO.nil ?_)
  refine VE.seqN ?_
  refine VC.ret (VE.res (vs := [_]) rfl ⟨rfl, trivial⟩ (fun w hw => ?_))
  exact ⟨by simp only [resV]; rw [q1], hw.nil⟩

set_option maxRecDepth 20000 in
theorem nUp_c (a b : Int) (ha : 0 ≤ a) (hb : 0 < b) (hab : a + b ≤ 9223372036854775807) (w : World) :
  Calls Tryz.prog 344 #[.int .i64 a, .int .i64 b] w fun e w' => e = .returned (.int .i64 (up a b)) ∧ St (bs w) [] w' := by
  have ⟨q1, q2, q3⟩ := tup ha hb
  refine enter (vs := [_,_]) (env := [(0,_), (1,_)]) Tryz.func344 rfl rfl rfl rfl ?_
  refine VC.seq ?_
  refine VC.reg (VO.l (LO.as (.r rfl)) rfl<|VO.nil ?_)
  refine VE.seqN ?_
  refine VC.seq ?_
  refine VC.reg (VO.l (LO.mv (.r rfl)) rfl<|VO.l (LO.mv (.r rfl)) rfl<|VO.l (LO.add (.r rfl) (.r rfl) (wi (by omega) (by omega))) rfl<|VO.l (LO.sub (.r rfl) (.r rfl) (wi (by omega) (by omega))) rfl<|VO.l (LO.mv (.r rfl)) rfl<|VO.l (LO.quo (.r rfl) (.r rfl) (by omega) (wi (by omega) (by omega))) rfl<|VO.l (LO.as (.r rfl)) rfl<|VO.nil ?_)
  refine VE.seqN ?_
  refine VC.ret (VE.res (vs := [_]) rfl ⟨rfl, trivial⟩ (fun w hw => ?_))
  exact ⟨by simp only [resV]; rw [q1], hw.nil⟩

set_option maxRecDepth 20000 in
theorem capped_c (a b : Int) (w : World) :
  Calls Tryz.prog 342 #[.int .i64 a, .int .i64 b] w fun e w' => e = .returned (.agg #[.int .i64 (min a 1073741824), .int .i64 (min b 1073741824)]) ∧ St (bs w) [] w' := by
  refine enter (vs := [_,_]) (env := [(0,_), (1,_)]) Tryz.func342 rfl rfl rfl rfl ?_
  refine VC.seq ?_
  refine VC.reg (VO.h rfl<|HO.alloc (C := #[_,_]) Z25 rfl fun b1 => VO.nil ?_)
  refine VE.seqN ?_
  refine VC.seq ?_
  refine VC.reg (VO.l (LO.mv (.r rfl)) rfl<|VO.l (LO.min (.r rfl) (.r rfl)) rfl<|VO.l (LO.mv (.r rfl)) rfl<|VO.l (LO.min (.r rfl) (.r rfl)) rfl<|VO.l (LO.bd (ps := [(_,_), (_,_)]) (vs := [(_,_), (_,_)]) (C := [_,_]) B25  ⟨(.r rfl), (.r rfl), trivial⟩ rfl ⟨_, [_], [_,_], rfl, rfl, rfl, rfl, ⟨_, [_], [_,_], rfl, rfl, rfl, rfl, rfl⟩⟩) rfl<|VO.h0<|HO.st 0 (vs := [_,_]) (C' := [_,_]) (L' := [_]) N25 rfl rfl rfl rfl rfl rfl rfl rfl<|VO.nil ?_)
  refine VE.seqN ?_
  refine VC.ret (VE.res (vs := [_]) rfl ⟨RV.agg (vs := [_,_]) A25 rfl (cells_blk 0 rfl ⟨_, rfl⟩) rfl, trivial⟩ (fun w hw => ?_))
  exact ⟨rfl, hw.nil⟩

set_option maxRecDepth 20000 in
theorem CheckTable_c (l : List Pt) (p : Option Addr) (c : Nat) (most : Int) (w : World) (hn : l.length < 1000000000000000000) (hl : Pts w p l) :
  Calls Tryz.prog 49 #[.slice p l.length c, .int .i64 most] w fun e w' => e = .returned (.int .i64 (tabE most l)) ∧ St (bs w) [] w' := by
  refine enter (vs := [_,_]) (env := [(0,_), (1,_)]) Tryz.func49 rfl rfl rfl rfl ?_
  refine VC.seq ?_
  refine VC.reg (VO.l (LO.as (.r rfl)) rfl<|VO.nil ?_)
  refine VE.seqN ?_
  refine VC.seq ?_
  refine VC.block ?_
  refine VC.seq ?_
  refine VC.reg (VO.l (LO.mv (.r rfl)) rfl<|VO.l (LO.len S33 (.r rfl) rfl) rfl<|VO.l (LO.lt (.r rfl) (.r rfl)) rfl<|VO.l (LO.as (.r rfl)) rfl<|VO.nil ?_)
  refine VE.seqN ?_
  refine VC.cond rfl (fun h8 => ?_) (fun h8 => ?_)
  ·
    refine VC.seq ?_
    refine VC.reg (VO.l (LO.as (.r rfl)) rfl<|VO.nil ?_)
    refine VE.seqN ?_
    refine VC.ret (VE.inR (VE.thenR (VE.res (vs := [_]) rfl ⟨rfl, trivial⟩ (fun w hw => ?_))))
    refine ⟨?_, hw.nil⟩
    simp only [resV]
    first | rw [tE1 h8] | rw [tE2 h8 h12] | rw [tE3 h8 h12 hz (by omega) (pE1 (by unfold ptOk; omega)) (by decide)] | rw [tE3 h8 h12 hz (by omega) (pE2 (by unfold ptOk; omega) (by omega)) (by decide)] | rw [tE5 h8 h12 fun k hk => hz k (by omega)]
  ·
    refine VC.seq ?_
    refine VC.reg (VO.l (LO.mv (.r rfl)) rfl<|VO.l (LO.len S33 (.r rfl) rfl) rfl<|VO.l (LO.gt (.r rfl) (.r rfl)) rfl<|VO.l (LO.as (.r rfl)) rfl<|VO.nil ?_)
    refine VE.seqN ?_
    refine VC.cond rfl (fun h12 => ?_) (fun h12 => ?_)
    ·
      refine VC.seq ?_
      refine VC.reg (VO.l (LO.as (.r rfl)) rfl<|VO.nil ?_)
      refine VE.seqN ?_
      refine VC.ret (VE.inR (VE.thenR (VE.res (vs := [_]) rfl ⟨rfl, trivial⟩ (fun w hw => ?_))))
      refine ⟨?_, hw.nil⟩
      simp only [resV]
      first | rw [tE1 h8] | rw [tE2 h8 h12] | rw [tE3 h8 h12 hz (by omega) (pE1 (by unfold ptOk; omega)) (by decide)] | rw [tE3 h8 h12 hz (by omega) (pE2 (by unfold ptOk; omega) (by omega)) (by decide)] | rw [tE5 h8 h12 fun k hk => hz k (by omega)]
    ·
      refine VC.skip (VE.inN (VE.seqN ?_))
      refine VC.seq ?_
      refine VC.reg (VO.l (LO.bd (ps := [(_,_)]) (vs := [(_,_)]) (C := [_,_]) B166  ⟨(.r rfl), trivial⟩ rfl ⟨_, [_], [_,_], rfl, rfl, rfl, rfl, rfl⟩) rfl<|VO.h rfl<|HO.alloc (C := #[_,_]) Z166 rfl fun b1 => VO.h0<|HO.st 0 (vs := [_,_]) (C' := [_,_]) (L' := [_]) N166 rfl rfl rfl rfl rfl rfl rfl rfl<|VO.nil ?_)
      refine VE.seqN ?_
      refine VC.seq ?_
      refine VC.seq ?_
      refine VC.reg (VO.l (LO.mv (.r rfl)) rfl<|VO.l (LO.len S33 (.r rfl) rfl) rfl<|VO.l (LO.mv (.r rfl)) rfl<|VO.nil ?_)
      refine VE.seqN ?_
      refine VC.block ?_
      refine VC.loopK (α := Nat) 1 (fun gx => [(19, .int .i64 (gx : Nat))]) [(1,_), (5,_), (17,_), (18,_)] (fun gx => [blk b1 (.cells #[.int .i64 (bef l gx).z, .int .i64 (bef l gx).r] 166)]) (fun gx => gx ≤ l.length ∧ ∀ k, k < gx → ptE most l k = 0) (fun gx => l.length - gx) 0 (by exact ⟨Nat.zero_le _, fun k hk => by omega⟩) (.cons rfl (.cons rfl (.cons rfl (.cons rfl (.cons rfl .nil))))) (fun _ h => h) ?_
      rintro i ⟨hi, hz⟩
      refine VC.seq ?_
      refine VC.reg (VO.l (LO.lt (.r rfl) (.r rfl)) rfl<|VO.nil ?_)
      refine VE.seqN ?_
      refine VC.seq ?_
      refine VC.cond rfl (fun h3 => ?_) (fun h3 => ?_)
      ·
        refine VC.skip (VE.seqN ?_)
        refine VC.seq ?_
        refine VC.block ?_
        refine VC.seq ?_
        refine VC.reg (VO.l (LO.mv (.r rfl)) rfl<|VO.l (LO.ixs S33 N166 hl.sm (.r rfl) (.r rfl) rfl (by omega)) rfl<|VO.l (LO.lda (vs := [_,_]) A166 (.r rfl) (fun w hw => cells_part (off := 0) ((hl.at zPt (j := i) (by omega)) w hw) ⟨_, rfl⟩) rfl) rfl<|VO.h rfl<|HO.alloc (C := #[_,_]) Z166 rfl fun b3 => VO.l (LO.as (.r rfl)) rfl<|VO.h0<|HO.st 0 (vs := [_,_]) (C' := [_,_]) (L' := [_,_]) N166 rfl rfl rfl rfl rfl rfl rfl rfl<|VO.nil ?_)
        refine VE.seqN ?_
        refine VC.seq ?_
        refine VC.block ?_
        refine VC.seq ?_
        refine VC.reg (VO.l (LO.fa (r := 0) F166_0 (.r rfl) rfl) rfl<|VO.l (LO.ld O3 (.r rfl) (fun _ hw => cells_at hw 0 rfl ⟨_, rfl⟩)) rfl<|VO.l (LO.call (xs := [_,_,_]) (vs := [_,_,_]) C116 ⟨(.r rfl), (.r rfl), (.r rfl), trivial⟩ (fun w _ => nWithin_c _ _ _ w)) rfl<|VO.l (LO.not (.r rfl)) rfl<|VO.l (LO.mv (.r rfl)) rfl<|VO.lg rfl rfl (GD.f _) (fun hg => LO.fa (r := 1) F166_1 (.r rfl) rfl) rfl<|VO.lg rfl rfl (GD.f _) (fun hg => LO.ld O3 (.g hg rfl) (fun _ hw => cells_at hw 0 rfl ⟨_, rfl⟩)) rfl<|VO.lg rfl rfl (GD.f _) (fun hg => LO.mv (.r rfl)) rfl<|VO.lg rfl rfl (GD.f _) (fun hg => LO.call (xs := [_,_,_]) (vs := [_,_,_]) C116 ⟨(.g hg rfl), (.r rfl), (.g hg rfl), trivial⟩ (fun w _ => nWithin_c _ _ _ w)) rfl<|VO.lg rfl rfl (GD.f _) (fun hg => LO.not (.g hg rfl)) rfl<|VO.l (LO.pkO (.r rfl) (.r rfl) rfl rfl) rfl<|VO.l (LO.as (.r rfl)) rfl<|VO.nil ?_)
        refine VE.seqN ?_
        refine VC.cond rfl (fun h24 => ?_) (fun h24 => ?_)
        ·
          refine VC.seq ?_
          refine VC.reg (VO.l (LO.as (.r rfl)) rfl<|VO.nil ?_)
          refine VE.seqN ?_
          refine VC.ret (VE.inR (VE.thenR (VE.inR (VE.thenR (VE.thenR (VE.inR (VE.thenR (VE.res (vs := [_]) rfl ⟨rfl, trivial⟩ (fun w hw => ?_)))))))))
          refine ⟨?_, hw.nil⟩
          simp only [resV]
          first | rw [tE1 h8] | rw [tE2 h8 h12] | rw [tE3 h8 h12 hz (by omega) (pE1 (by unfold ptOk; omega)) (by decide)] | rw [tE3 h8 h12 hz (by omega) (pE2 (by unfold ptOk; omega) (by omega)) (by decide)] | rw [tE5 h8 h12 fun k hk => hz k (by omega)]
        ·
          refine VC.seq ?_
          refine VC.seq ?_
          refine VC.reg (VO.l (LO.mv (.r rfl)) rfl<|VO.l (LO.eq (.r rfl) (.r rfl)) rfl<|VO.l (LO.mv (.r rfl)) rfl<|VO.lg rfl rfl (GD.t _) (fun hg => LO.fa (r := 0) F166_0 (.r rfl) rfl) rfl<|VO.lg rfl rfl (GD.t _) (fun hg => LO.ld O3 (.g hg rfl) (fun _ hw => cells_at hw 0 rfl ⟨_, rfl⟩)) rfl<|VO.lg rfl rfl (GD.t _) (fun hg => LO.gt (.g hg rfl) (.r rfl)) rfl<|VO.l (LO.pkA (.r rfl) rfl rfl (.r rfl)) rfl<|VO.l (LO.as (.r rfl)) rfl<|VO.nil ?_)
          refine VE.seqN ?_
          refine VC.cond rfl (fun h36 => ?_) (fun h36 => ?_)
          ·
            refine VC.skip (VE.seqN ?_)
            refine VC.cond rfl (fun h36 => ?_) (fun h36 => ?_)
            ·
              refine VC.seq ?_
              refine VC.reg (VO.l (LO.as (.r rfl)) rfl<|VO.nil ?_)
              refine VE.seqN ?_
              refine VC.ret (VE.inR (VE.thenR (VE.inR (VE.thenR (VE.thenR (VE.inR (VE.thenR (VE.res (vs := [_]) rfl ⟨rfl, trivial⟩ (fun w hw => ?_)))))))))
              refine ⟨?_, hw.nil⟩
              simp only [resV]
              first | rw [tE1 h8] | rw [tE2 h8 h12] | rw [tE3 h8 h12 hz (by omega) (pE1 (by unfold ptOk; omega)) (by decide)] | rw [tE3 h8 h12 hz (by omega) (pE2 (by unfold ptOk; omega) (by omega)) (by decide)] | rw [tE5 h8 h12 fun k hk => hz k (by omega)]
            ·
              refine VC.skip (VE.inN (VE.seqN ?_))
              refine VC.reg (VO.l (LO.lda (vs := [_,_]) A166 (.r rfl) (fun _ hw => cells_at hw 0 rfl ⟨_, rfl⟩) rfl) rfl<|VO.h0<|HO.st 1 (vs := [_,_]) (C' := [_,_]) (L' := [_,_]) N166 rfl rfl rfl rfl rfl rfl rfl rfl<|VO.nil ?_)
              refine VE.inN (VE.seqN ?_)
              refine VC.reg (VO.l (LO.add (.r rfl) (.r rfl) (wi (by omega) (by omega))) rfl<|VO.l (LO.mv (.r rfl)) rfl<|VO.nil ?_)
              refine VE.thenN fun a w ha hw => ⟨i + 1, ⟨by omega, zst hz (pE0 (by unfold ptOk; omega) (by omega))⟩, (by omega), ha.sub (.cons rfl (.cons rfl (.cons rfl (.cons rfl (.cons rfl .nil))))), hw.sel [1] rfl⟩
          ·
            refine VC.seq ?_
            refine VC.reg (VO.l (LO.fa (r := 0) F166_0 (.r rfl) rfl) rfl<|VO.l (LO.ld O3 (.r rfl) (fun _ hw => cells_at hw 0 rfl ⟨_, rfl⟩)) rfl<|VO.l (LO.fa (r := 0) F166_0 (.r rfl) rfl) rfl<|VO.l (LO.ld O3 (.r rfl) (fun _ hw => cells_at hw 1 rfl ⟨_, rfl⟩)) rfl<|VO.l (LO.le (.r rfl) (.r rfl)) rfl<|VO.l (LO.as (.r rfl)) rfl<|VO.nil ?_)
            refine VE.seqN ?_
            refine VC.cond rfl (fun h36 => ?_) (fun h36 => ?_)
            ·
              refine VC.skip (VE.seqN ?_)
              refine VC.cond rfl (fun h36 => ?_) (fun h36 => ?_)
              ·
                refine VC.seq ?_
                refine VC.reg (VO.l (LO.as (.r rfl)) rfl<|VO.nil ?_)
                refine VE.seqN ?_
                refine VC.ret (VE.inR (VE.thenR (VE.inR (VE.thenR (VE.thenR (VE.inR (VE.thenR (VE.res (vs := [_]) rfl ⟨rfl, trivial⟩ (fun w hw => ?_)))))))))
                refine ⟨?_, hw.nil⟩
                simp only [resV]
                first | rw [tE1 h8] | rw [tE2 h8 h12] | rw [tE3 h8 h12 hz (by omega) (pE1 (by unfold ptOk; omega)) (by decide)] | rw [tE3 h8 h12 hz (by omega) (pE2 (by unfold ptOk; omega) (by omega)) (by decide)] | rw [tE5 h8 h12 fun k hk => hz k (by omega)]
              ·
                refine VC.skip (VE.inN (VE.seqN ?_))
                refine VC.reg (VO.l (LO.lda (vs := [_,_]) A166 (.r rfl) (fun _ hw => cells_at hw 0 rfl ⟨_, rfl⟩) rfl) rfl<|VO.h0<|HO.st 1 (vs := [_,_]) (C' := [_,_]) (L' := [_,_]) N166 rfl rfl rfl rfl rfl rfl rfl rfl<|VO.nil ?_)
                refine VE.inN (VE.seqN ?_)
                refine VC.reg (VO.l (LO.add (.r rfl) (.r rfl) (wi (by omega) (by omega))) rfl<|VO.l (LO.mv (.r rfl)) rfl<|VO.nil ?_)
                refine VE.thenN fun a w ha hw => ⟨i + 1, ⟨by omega, zst hz (pE0 (by unfold ptOk; omega) (by omega))⟩, (by omega), ha.sub (.cons rfl (.cons rfl (.cons rfl (.cons rfl (.cons rfl .nil))))), hw.sel [1] rfl⟩
            ·
              refine VC.reg (VO.l (LO.fa (r := 1) F166_1 (.r rfl) rfl) rfl<|VO.l (LO.ld O3 (.r rfl) (fun _ hw => cells_at hw 0 rfl ⟨_, rfl⟩)) rfl<|VO.l (LO.fa (r := 1) F166_1 (.r rfl) rfl) rfl<|VO.l (LO.ld O3 (.r rfl) (fun _ hw => cells_at hw 1 rfl ⟨_, rfl⟩)) rfl<|VO.l (LO.lt (.r rfl) (.r rfl)) rfl<|VO.l (LO.as (.r rfl)) rfl<|VO.nil ?_)
              refine VE.seqN ?_
              refine VC.cond rfl (fun h36 => ?_) (fun h36 => ?_)
              ·
                refine VC.seq ?_
                refine VC.reg (VO.l (LO.as (.r rfl)) rfl<|VO.nil ?_)
                refine VE.seqN ?_
                refine VC.ret (VE.inR (VE.thenR (VE.inR (VE.thenR (VE.thenR (VE.inR (VE.thenR (VE.res (vs := [_]) rfl ⟨rfl, trivial⟩ (fun w hw => ?_)))))))))
                refine ⟨?_, hw.nil⟩
                simp only [resV]
                first | rw [tE1 h8] | rw [tE2 h8 h12] | rw [tE3 h8 h12 hz (by omega) (pE1 (by unfold ptOk; omega)) (by decide)] | rw [tE3 h8 h12 hz (by omega) (pE2 (by unfold ptOk; omega) (by omega)) (by decide)] | rw [tE5 h8 h12 fun k hk => hz k (by omega)]
              ·
                refine VC.skip (VE.inN (VE.seqN ?_))
                refine VC.reg (VO.l (LO.lda (vs := [_,_]) A166 (.r rfl) (fun _ hw => cells_at hw 0 rfl ⟨_, rfl⟩) rfl) rfl<|VO.h0<|HO.st 1 (vs := [_,_]) (C' := [_,_]) (L' := [_,_]) N166 rfl rfl rfl rfl rfl rfl rfl rfl<|VO.nil ?_)
                refine VE.inN (VE.seqN ?_)
                refine VC.reg (VO.l (LO.add (.r rfl) (.r rfl) (wi (by omega) (by omega))) rfl<|VO.l (LO.mv (.r rfl)) rfl<|VO.nil ?_)
                refine VE.thenN fun a w ha hw => ⟨i + 1, ⟨by omega, zst hz (pE0 (by unfold ptOk; omega) (by omega))⟩, (by omega), ha.sub (.cons rfl (.cons rfl (.cons rfl (.cons rfl (.cons rfl .nil))))), hw.sel [1] rfl⟩
      ·
        refine VC.exit (VE.thenX (VE.thenX (VE.inX (VE.seqN ?_))))
        refine VC.seq ?_
        refine VC.reg (VO.l (LO.as (.r rfl)) rfl<|VO.nil ?_)
        refine VE.seqN ?_
        refine VC.ret (VE.res (vs := [_]) rfl ⟨rfl, trivial⟩ (fun w hw => ?_))
        refine ⟨?_, hw.nil⟩
        simp only [resV]
        first | rw [tE1 h8] | rw [tE2 h8 h12] | rw [tE3 h8 h12 hz (by omega) (pE1 (by unfold ptOk; omega)) (by decide)] | rw [tE3 h8 h12 hz (by omega) (pE2 (by unfold ptOk; omega) (by omega)) (by decide)] | rw [tE5 h8 h12 fun k hk => hz k (by omega)]

end Go.Proofs.YtffbohecdocajaaGreat
