/-
  The program hears.
  The program hears what is valid.
  The first samples are heard.
  PulseChecks is walked.
  Speeds, folds and reaches.
  PulseSpeeds is walked.
  What a better hearing has within another: the plain part.
  PulseBetter is walked.
  Turns that move a little.
  Truths behind samples.
  A truth lies within what is heard.
  Speeds in truth lie among those of the steps that are heard: the plain law.
  Sets of speeds: unions, what two have in common, how much is in one (the plain law).
  The predicate of names.
-/
import Derived.Test.YtffbohecdocajaaGreatKUN07

set_option linter.unusedSimpArgs false
namespace Go.Proofs.YtffbohecdocajaaGreat
open Go.SL Go.Proofs Go.Pulse
set_option linter.unusedVariables false

theorem Z76 : ZeroOf Tryz.prog 76 (.agg #[.int .i64 0, .int .i64 0, .int .i64 0, .int .i64 0, .int .i64 0, .int .i64 0, .int .i64 0, .int .i64 0, .int .i64 0, .int .i64 0, .int .i64 0, .int .i64 0, .int .i64 0, .int .i64 0]) := by unfold ZeroOf; kernel_rfl
theorem Z402 : ZeroOf Tryz.prog 402 (.agg #[.int .i64 0, .int .i64 0, .int .i64 0]) := by unfold ZeroOf; kernel_rfl
theorem C178 : IsFn Tryz.prog 178 := ⟨_, Tryz.func178, by decide, rfl⟩
theorem Z404 : ZeroOf Tryz.prog 404 (.agg #[.int .i64 0, .int .i64 0, .int .i64 0, .int .i64 0]) := by unfold ZeroOf; kernel_rfl
theorem N76 : (Tryz.prog.info? 76).map (·.size) = some 14 := by kernel_rfl
theorem A404 : IsAgg Tryz.prog 404 4 := ⟨⟨_, Tryz.underlying404, rfl⟩, by kernel_rfl⟩
theorem B404 : BuildsA Tryz.prog 404 [(0,2), (2,2)] [.int .i64 0, .int .i64 0, .int .i64 0, .int .i64 0] := BuildsA.mk (z := 2) (n := 2) (fun _ => by kernel_rfl) rfl
theorem EA404 : FlatA Tryz.prog 404 4 := ⟨⟨_, Tryz.underlying404, rfl⟩, by kernel_rfl, by kernel_rfl⟩
theorem C181 : IsFn Tryz.prog 181 := ⟨_, Tryz.func181, by decide, rfl⟩
theorem Z406 : ZeroOf Tryz.prog 406 (.agg #[.slice none 0 0, .slice none 0 0]) := by unfold ZeroOf; kernel_rfl
theorem A23 : IsAgg Tryz.prog 23 5 := ⟨⟨_, Tryz.underlying23, rfl⟩, by kernel_rfl⟩
theorem C182 : IsFn Tryz.prog 182 := ⟨_, Tryz.func182, by decide, rfl⟩
theorem F50_3 : FieldAt Tryz.prog 50 3 3 := ⟨_,_, Tryz.underlying50, rfl, rfl, 0, by kernel_rfl⟩
theorem Z412 : ZeroOf Tryz.prog 412 (.agg #[.int .i64 0, .int .i64 0, .int .i64 0, .int .i64 0, .int .i64 0, .int .i64 0, .int .i64 0, .int .i64 0]) := by unfold ZeroOf; kernel_rfl
theorem C184 : IsFn Tryz.prog 184 := ⟨_, Tryz.func184, by decide, rfl⟩
theorem A406 : IsAgg Tryz.prog 406 2 := ⟨⟨_, Tryz.underlying406, rfl⟩, by kernel_rfl⟩
theorem C185 : IsFn Tryz.prog 185 := ⟨_, Tryz.func185, by decide, rfl⟩
theorem A412 : IsAgg Tryz.prog 412 8 := ⟨⟨_, Tryz.underlying412, rfl⟩, by kernel_rfl⟩


theorem LO.ixg {P : Program} {β : Bs} {env : Env} {L : List Res} {d : Option Nat} {ty : TypeId} {pos : String} {aft : Array Edge} {g : Option (Nat × Bool)} {x i : Operand} {T E n z : Nat} {C : Array Value} {j : Nat} {k : IntKind} {e : Int} {vs : List Value} (hT : P.underlying T = some (.array n E)) (hE : IsAgg P E z) (hx : OV env x (.agg C)) (hi : OV env i (.int k e)) (he : e = (j : Int)) (hj : j < n) (hv : (C.extract (j * z) (j * z + z)).toList = vs) :
    LO P β env L ⟨d, .index T x i, ty, pos, aft, g⟩ (.agg vs.toArray) :=
  .of_run fun a w h hw => ⟨w, by
    subst he
    have he' : C.extract (j * z) (j * z + z) = vs.toArray := by rw [← hv]
    simp [execOp, h x (by simp [Op.operands]) _ hx, h i (by simp [Op.operands]) _ hi, Instr.index, asIntOf, run_underlying hT, run_size hE.2, hj, part, run_isAgg hE, he'], hw⟩
theorem cells_inv {w : World} {b : Nat} {C : Array Value} {E : TypeId} (h : (blk b (.cells C E)).inv w) : Cells w ⟨b, 0, none⟩ C.toList := by
  intro j v hj
  have e : (⟨b, 0, none⟩ : Addr).add j = ⟨b, j, none⟩ := by unfold Addr.add; split <;> simp_all
  rw [e]
  have hb : w.heap[b]? = some (.cells C E) := h
  simp only [World.cell?, hb, Option.isSome_none, Bool.false_eq_true, if_false]
  simpa using hj
theorem _root_.Go.SL.St.eqL {β : Bs} {L L' : List Res} {w : World} (h : St β L w) (e : L = L') : St β L' w := e ▸ h
theorem quo_nn {m n : Int} (hm : 0 ≤ m) (hn : 0 < n) (h2 : m ≤ 9223372036854775807) : IntKind.wrap .i64 (m.tdiv n) = m / n := by
  rw [Int.tdiv_eq_ediv_of_nonneg hm]
  have := Int.ediv_nonneg hm (by omega : 0 ≤ n)
  have := Int.ediv_le_self n hm
  exact wi (by omega) (by omega)
theorem share_bd {a : Int} (h1 : 0 ≤ a) (h2 : a ≤ 94000000) : 0 ≤ 1000 * a * a ∧ 1000 * a * a ≤ 9000000000000000000 := by
  have := prod_bd (x := 1000 * a) (y := a) (A := 94000000000) (B := 94000000) (by omega) (by omega) h1 h2
  omega
theorem ro_block {α : Type} {z : Nat} {f : α → List Value} {w : World} {p : Option Addr} {l : List α} (h : RO z f w p l) (d : α) (hf : ∀ x, f x ≠ []) (hl : l ≠ []) : pb p < w.heap.size := by
  have h0 := h.here d (j := 0) (by cases l with | nil => exact absurd rfl hl | cons => simp)
  cases q : f (l.getD 0 d) with
  | nil => exact absurd q (hf _)
  | cons v r =>
    have := h0 0 v (by rw [q]; rfl)
    simp only [Addr.add, if_true] at this
    rcases Nat.lt_or_ge (pb p) w.heap.size with e | e
    · exact e
    · simp [World.cell?, Array.getElem?_eq_none e] at this
theorem of_h {w0 w : World} {L : List Res} {b : Nat} (i : Nat) (hw : St (bs w0) L w) (hi : L[i]? = some (blk b (.cells #[.int .i64 0, .int .i64 0, .int .i64 0] 402))) {l : List Sample} {p : Option Addr} {c : Nat} {m : Int} (hl : Smps w0 p l) (hm1 : -64 ≤ m) (hm2 : m ≤ 64) (hn : l.length ≤ 64) (hs : ∀ x ∈ l, smpOk x) :
    Calls Tryz.prog 178 #[.pointer (some ⟨b, 0, none⟩), .slice p l.length c, .int .i64 m] w fun e w' => ∃ x : Unit, True ∧ e = .returned (.tuple #[]) ∧ St ⟨w, (blk b (.cells #[.int .i64 0, .int .i64 0, .int .i64 0] 402)).fp⟩ [blk b (.cells #[.int .i64 (sumH m l), .int .i64 (sumV m l), .int .i64 (sumX m l)] 402)] w' := by
  have hr := hw.rng i _ hi b rfl
  refine (of_c b l p c m w hm1 hm2 hn hs (hl.keep w hw) (fun h1 h2 => ?_) (hw.inv i _ hi) (fun k hk => (hw.rng i _ hi k hk).2)).mono fun e w' h => ⟨(), trivial, h.1, h.2⟩
  have := ro_block hl zSm (fun x q => by cases q) h1
  rcases hr.1 with q | q
  · exact q
  · have : w0.heap.size ≤ b := q
    omega
def stS (q : List (Int × Int)) (w : Int) : List Int := (q.filter fun x => decide (x.1 = w)).map (·.2)
theorem pair_of {q : List (Int × Int)} {n : Nat} {vs : List Value} (h : (q.map pairC)[n]? = some vs) : ∃ v, vs = [.int .i64 v.1, .int .i64 v.2] ∧ q[n]? = some v := by
  rw [List.getElem?_map] at h
  cases e : q[n]? with
  | none => rw [e] at h; cases h
  | some v => rw [e] at h; cases h; exact ⟨v, rfl, rfl⟩
theorem stQ_01 {k : Int} {l : List Sample} {m n : Nat} {v : Int × Int} (hk : kndOk k) (hv : (stQ k l m)[n]? = some v) : v.1 = 0 ∨ v.1 = 1 := by
  have h := List.mem_of_getElem? hv
  unfold stQ at h
  obtain ⟨i, hi, rfl⟩ := List.mem_map.1 h
  have h2 := of_decide_eq_true (List.mem_filter.1 hi).2
  unfold kndOk at hk
  dsimp only
  unfold stW at *
  split
  · exact .inl rfl
  · split
    · split
      · rename_i a b c; simp [a, b, c] at h2
      · split
        · exact .inr rfl
        · exact .inl rfl
    · omega
theorem stQ_len (k : Int) (l : List Sample) (m : Nat) : (stQ k l m).length ≤ m := by
  unfold stQ; rw [List.length_map]
  have := List.length_filter_le (fun i => decide (stW k l.length i ≠ 2)) (List.range m)
  simpa using this
theorem stS_len {q : List (Int × Int)} {m n : Nat} (h : q.length ≤ m) : (stS (q.take n) 0).length ≤ m ∧ (stS (q.take n) 1).length ≤ m := by
  have key : ∀ w, (stS (q.take n) w).length ≤ m := fun w => by
    unfold stS; rw [List.length_map]
    have := List.length_filter_le (fun x : Int × Int => decide (x.1 = w)) (q.take n)
    rw [List.length_take] at this; omega
  exact ⟨key 0, key 1⟩
theorem stS_yes {q : List (Int × Int)} {n : Nat} {v : Int × Int} {w : Int} (hv : q[n]? = some v) (h : v.1 = w) : stS (q.take (n + 1)) w = stS (q.take n) w ++ [v.2] := by
  unfold stS; rw [take_at hv, List.filter_append, List.map_append]; simp [h]
theorem stS_no {q : List (Int × Int)} {n : Nat} {v : Int × Int} {w : Int} (hv : q[n]? = some v) (h : v.1 ≠ w) : stS (q.take (n + 1)) w = stS (q.take n) w := by
  unfold stS; rw [take_at hv, List.filter_append, List.map_append]; simp [h]
theorem stS_all {k : Int} {l : List Sample} (w : Int) (h : w ≠ 2) : stS (stQ k l (l.length - 1)) w = stL k l w := by
  unfold stS stQ stL stP
  rw [List.filter_map, List.map_map, List.filter_filter]
  congr 1
  refine List.filter_congr fun i _ => ?_
  simp only [Function.comp]
  by_cases e : stW k l.length i = w
  · simp [e, h]
  · simp [e]
theorem stL_len (k : Int) (l : List Sample) (w : Int) : (stL k l w).length ≤ l.length - 1 := by
  unfold stL stP; rw [List.length_map]
  have := List.length_filter_le (fun i => decide (stW k l.length i = w)) (List.range (l.length - 1))
  simpa using this
theorem stL_inT (k : Int) (l : List Sample) (w : Int) : ∀ x ∈ stL k l w, inT x := fun x hx => by
  unfold stL stP at hx
  obtain ⟨i,_, rfl⟩ := List.mem_map.1 hx
  exact wr_bd _
theorem turnL_inT (l : List Sample) : ∀ x ∈ turnL l, inT x := fun x hx => by
  unfold turnL at hx
  obtain ⟨i,_, rfl⟩ := List.mem_map.1 hx
  exact wr_bd _
theorem wid_bd {l : List Int} (h : ∀ x ∈ l, inT x) : 0 ≤ wid l ∧ wid l ≤ 65535 := by
  unfold wid
  by_cases e : l = []
  · rw [if_pos e]; decide
  · rw [if_neg e]
    obtain ⟨_, h2,_⟩ := arcR_is e
    rw [h2]; exact arcW_bd _ _
theorem turn_step {l : List Sample} {j : Nat} (hj : j < l.length) : turnL (l.take (j + 1)) = turnL (l.take j) ++ [wr ((l.getD j zSm).q - (l.getD j zSm).p)] := by
  unfold turnL; rw [take_at (getD_some (d := zSm) hj), List.map_append]; rfl
def togV (s : List Int) (ph : Int) : Bool := decide ((s.length : Int) = 0) || decide (wid s + 4 * ph < 32768)
def togT (s : List Int) (ph : Int) : Bool := decide ((s.length : Int) = 0) || decide ((arcR s).2 + 4 * ph < 32768)
theorem togT_iff {s : List Int} {ph : Int} : togT s ph = true ↔ tog s ph := by
  unfold togT tog
  rw [Bool.or_eq_true, decide_eq_true_iff, decide_eq_true_iff, len0]
theorem togV_iff {s : List Int} {ph : Int} : togV s ph = true ↔ tog s ph := by
  unfold togV tog wid
  rw [Bool.or_eq_true, decide_eq_true_iff, decide_eq_true_iff, len0]
  by_cases h : s = []
  · simp [h]
  · simp [h]
theorem good_iff {t : Train} {r : Recv} {l : List Sample} : goodT t r l ↔ ((togT (turnL l) r.phase = true ∧ togV (stL t.kind l 0) r.phase = true) ∧ togV (stL t.kind l 1) r.phase = true) := by
  unfold goodT; rw [togT_iff, togV_iff, togV_iff, and_assoc]
theorem meanS_eq {s : List Int} {sl : Int} : meanS s sl = meanR (arcSum s) (s.length : Int) sl := by
  unfold meanS meanR
  by_cases h : s = []
  · rw [if_pos h, if_pos (len0.2 h)]
  · rw [if_neg h, if_neg (fun q => h (len0.1 q))]
section
variable {s : List Int} {ph : Int} {g : Bool}
theorem wid_pos (h : 0 < (s.length : Int)) : wid s = (arcR s).2 := if_neg (fun q => by rw [q] at h; simp at h)
theorem nil_of (h : ¬ 0 < (s.length : Int)) : s = [] := len0.1 (by omega)
theorem wid_neg (h : ¬ 0 < (s.length : Int)) : wid s = 0 := if_pos (nil_of h)
theorem arc_neg (h : ¬ 0 < (s.length : Int)) : (arcR s).1 = 0 := by rw [nil_of h]; rfl
theorem sum_neg (h : ¬ 0 < (s.length : Int)) : arcSum s = 0 := by rw [nil_of h]; rfl
theorem len_neg (h : ¬ 0 < (s.length : Int)) : (s.length : Int) = 0 := by omega
theorem tgA (h : 0 < (s.length : Int)) : some (Value.bool (g && (decide ((s.length : Int) = 0) || decide ((arcR s).2 + 4 * ph < 32768)))) = some (Value.bool (g && togV s ph)) := by
  unfold togV; rw [wid_pos h]
theorem tgB (h : ¬ 0 < (s.length : Int)) : some (Value.bool (g && (decide ((0 : Int) = 0) || decide (0 + 4 * ph < 32768)))) = some (Value.bool (g && togV s ph)) := by
  unfold togV; rw [wid_neg h, len_neg h]
end
theorem slk_3 {t : Train} {r : Recv} {s : List Int} (h : t.kind = 3) : slk t r s = 2 * r.phase * (s.length : Int) := if_pos h
theorem slk_n {t : Train} {r : Recv} {s : List Int} (h : ¬ t.kind = 3) : slk t r s = 2 * r.phase := if_neg h
theorem sum_le {α : Type} {f g : α → Int} : ∀ {l : List α}, (∀ x ∈ l, f x ≤ g x) → (l.map f).sum ≤ (l.map g).sum
  | [],_ => by simp
  | x :: l, h => by
    have h1 := h x (by simp)
    have h2 := sum_le (f := f) (g := g) (l := l) (fun y hy => h y (by simp [hy]))
    simp only [List.map_cons, List.sum_cons]
    omega
theorem sq_le {a m n : Int} (h : m ≤ n) : sq m a ≤ sq n a := by
  have h1 : max 0 (a + m) ≤ max 0 (a + n) := by omega
  have h0 : 0 ≤ max 0 (a + m) := by omega
  exact Int.mul_le_mul h1 h1 h0 (by omega)
theorem div_up {a b n : Int} (hn : 0 < n) (h : a ≤ b) : a / n ≤ up b n := by
  unfold up
  have h1 : a / n ≤ b / n := Int.ediv_le_ediv hn h
  have h2 := Int.mul_ediv_add_emod b n
  have h3 := Int.emod_nonneg b (by omega : n ≠ 0)
  have h4 := Int.mul_ediv_add_emod (-b) n
  have h5 := Int.emod_nonneg (-b) (by omega : n ≠ 0)
  have h6 : n * (b / n) ≤ n * (-(-b / n)) := by rw [Int.mul_neg]; omega
  have := Int.le_of_mul_le_mul_left h6 hn
  omega
theorem pow_bd {r : Recv} {l : List Sample} (hr : recvOk r) (hn : 0 < (l.length : Int)) (hs : ∀ x ∈ l, smpOk x) : 0 ≤ (pow0 r l).lo ∧ (pow0 r l).lo ≤ (pow0 r l).hi ∧ 0 ≤ (pow1 r l).lo ∧ (pow1 r l).lo ≤ (pow1 r l).hi ∧ (pow0 r l).hi ≤ 2000000 ∧ (pow1 r l).hi ≤ 2000000 := by
  unfold recvOk at hr
  have hH : sumH (-r.level) l ≤ sumH r.level l := sum_le (fun x _ => sq_le (by omega))
  have hV : sumV (-r.level) l ≤ sumV r.level l := sum_le (fun x _ => sq_le (by omega))
  have a1 := sumH_bd (m := r.level) (l := l) (by omega) (by omega) hs
  have a2 := sumV_bd (m := r.level) (l := l) (by omega) (by omega) hs
  have b1 := div_up hn hH
  have b2 := div_up hn hV
  have c1 : up (sumH r.level l) l.length ≤ 1181569 := by
    unfold up
    have := Int.le_ediv_of_mul_le (c := (l.length : Int)) (a := -1181569) (b := -sumH r.level l) hn (by rw [Int.neg_mul]; omega)
    omega
  have c2 : up (sumV r.level l) l.length ≤ 1181569 := by
    unfold up
    have := Int.le_ediv_of_mul_le (c := (l.length : Int)) (a := -1181569) (b := -sumV r.level l) hn (by rw [Int.neg_mul]; omega)
    omega
  unfold pow0 pow1 powS
  dsimp only
  omega

set_option maxRecDepth 20000 in
set_option maxHeartbeats 4000000 in
theorem heard_c (t : Train) (r : Recv) (l : List Sample) (p : Option Addr) (c : Nat) (w : World) (htk : kndOk t.kind) (ht : trainOk t) (hr : recvOk r) (hlen : (l.length : Int) = t.count) (hs : ∀ x ∈ l, smpOk x) (hc : l.length ≤ c) (hl : Smps w p l) :
  Calls Tryz.prog 113 #[trainV t, recvV r, .slice p l.length c] w fun e w' => e = .returned (echoV (hearX t r l)) ∧ St (bs w) [] w' := by
  have hr' := hr
  unfold recvOk at hr'
  have ht' := ht
  unfold trainOk at ht'
  have hln : 2 ≤ l.length ∧ l.length ≤ 64 := by omega
  have a0 := sumH_bd (m := -r.level) (l := l) (by omega) (by omega) hs
  have a1 := sumV_bd (m := -r.level) (l := l) (by omega) (by omega) hs
  have a2 := sumX_bd (m := -r.level) (l := l) (by omega) (by omega) hs
  have a3 := sumH_bd (m := r.level) (l := l) (by omega) (by omega) hs
  have a4 := sumV_bd (m := r.level) (l := l) (by omega) (by omega) hs
  have a5 := sumX_bd (m := r.level) (l := l) (by omega) (by omega) hs
  have d0 := ediv_abs (a := sumH (-r.level) l) (n := (l.length : Int)) (B := 100000000) (by omega) (by omega) (by omega) (by omega)
  have d1 := ediv_abs (a := sumV (-r.level) l) (n := (l.length : Int)) (B := 100000000) (by omega) (by omega) (by omega) (by omega)
  have d2 := ediv_abs (a := -(sumH r.level l)) (n := (l.length : Int)) (B := 100000000) (by omega) (by omega) (by omega) (by omega)
  have d3 := ediv_abs (a := -(sumV r.level l)) (n := (l.length : Int)) (B := 100000000) (by omega) (by omega) (by omega) (by omega)
  refine enter (vs := [_,_,_]) (env := [(0,_), (1,_), (2,_)]) Tryz.func113 rfl rfl rfl rfl ?_
  refine VC.seq ?_
  refine VC.reg (VO.h rfl<|HO.box (C := #[_,_,_,_,_]) rfl rfl fun b1 => VO.h rfl<|HO.box (C := #[_,_,_,_]) rfl rfl fun b2 => VO.h rfl<|HO.alloc (C := #[_,_,_,_,_,_,_,_,_,_,_,_,_,_]) Z76 rfl fun b3 => VO.nil ?_)
  refine VE.seqN ?_
  refine VC.seq ?_
  refine VC.reg (VO.h rfl<|HO.alloc (C := #[_,_,_]) Z402 rfl fun b4 => VO.h rfl<|HO.alloc (C := #[_,_,_]) Z402 rfl fun b5 => VO.nil ?_)
  refine VE.seqN ?_
  refine VC.seq ?_
  refine VC.reg (VO.l (LO.mv (.r rfl)) rfl<|VO.l (LO.fa (r := 0) F27_0 (.r rfl) rfl) rfl<|VO.l (LO.ld O3 (.r rfl) (fun _ hw => cells_at hw 3 rfl ⟨_, rfl⟩)) rfl<|VO.l (LO.neg (.r rfl) (wi (by omega) (by omega))) rfl<|VO.h rfl<|HO.callh (first := []) (cap := []) (xs := [_,_,_]) (vs := [_,_,_]) 1 (fun R => [_, R,_,_,_]) rfl (.r rfl) C178 ⟨(.r rfl), (.r rfl), (.r rfl), trivial⟩ (fun _ => rfl) (fun w hw => of_h 1 hw rfl hl (m := -r.level) (by omega) (by omega) hln.2 hs) fun _ _ => VO.nil ?_)
  refine VE.seqN ?_
  refine VC.seq ?_
  refine VC.reg (VO.l (LO.mv (.r rfl)) rfl<|VO.l (LO.fa (r := 0) F27_0 (.r rfl) rfl) rfl<|VO.l (LO.ld O3 (.r rfl) (fun _ hw => cells_at hw 3 rfl ⟨_, rfl⟩)) rfl<|VO.h rfl<|HO.callh (first := []) (cap := []) (xs := [_,_,_]) (vs := [_,_,_]) 0 (fun R => [R,_,_,_,_]) rfl (.r rfl) C178 ⟨(.r rfl), (.r rfl), (.r rfl), trivial⟩ (fun _ => rfl) (fun w hw => of_h 0 hw rfl hl (m := r.level) (by omega) (by omega) hln.2 hs) fun _ _ => VO.nil ?_)
  refine VE.seqN ?_
  refine VC.seq ?_
  refine VC.reg (VO.h rfl<|HO.alloc (C := #[_,_,_,_]) Z404 rfl fun b8 => VO.nil ?_)
  refine VE.seqN ?_
  refine VC.seq ?_
  refine VC.seq ?_
  refine VC.reg (VO.l (LO.mv (.r rfl)) rfl<|VO.nil ?_)
  refine VE.seqN ?_
  refine VC.block ?_
  refine VC.loopK (α := Nat × Int × Int × Int × Int) 1 (fun gx => [(35, .int .i64 (gx.1 : Nat))]) [(2,_), (3,_), (4,_), (6,_), (7,_), (8,_), (9,_)] (fun gx => [blk b8 (.cells #[.int .i64 gx.2.1, .int .i64 gx.2.2.1, .int .i64 gx.2.2.2.1, .int .i64 gx.2.2.2.2] 404)]) (fun gx => gx.1 ≤ 2 ∧ (1 ≤ gx.1 → gx.2.1 = (pow0 r l).lo ∧ gx.2.2.1 = (pow0 r l).hi) ∧ (2 ≤ gx.1 → gx.2.2.2.1 = (pow1 r l).lo ∧ gx.2.2.2.2 = (pow1 r l).hi)) (fun gx => 2 - gx.1) (0,0,0,0,0) (by exact ⟨by omega, fun q => absurd q (by decide), fun q => absurd q (by decide)⟩) (.cons rfl (.cons rfl (.cons rfl (.cons rfl (.cons rfl (.cons rfl (.cons rfl (.cons rfl .nil)))))))) (fun _ h => h) ?_
  rintro ⟨i, v0, v1, v2, v3⟩ ⟨hi, hI1, hI2⟩
  show VC _ _ _ _ _ ([(35, .int .i64 (i : Nat))] ++ _) ([blk b8 (.cells #[.int .i64 v0, .int .i64 v1, .int .i64 v2, .int .i64 v3] 404)] ++ _) _ _
  dsimp only at hi hI1 hI2
  refine VC.seq ?_
  refine VC.reg (VO.l (LO.lt (.r rfl) (.r rfl)) rfl<|VO.nil ?_)
  refine VE.seqN ?_
  refine VC.seq ?_
  refine VC.cond rfl (fun h1 => ?_) (fun h1 => ?_)
  ·
    refine VC.skip (VE.seqN ?_)
    refine VC.seq ?_
    refine VC.block ?_
    refine VC.seq ?_
    rcases (show i = 0 ∨ i = 1 by omega) with rfl | rfl
    ·
      refine VC.reg (VO.l (LO.mv (.r rfl)) rfl<|VO.l (LO.as (.r rfl)) rfl<|VO.nil ?_)
      refine VE.seqN ?_
      refine VC.drawH [[0,1,2,3,4,5], [1,2,3,4,5]] [some 0, some 0, some 0, some 0, some 0, some 0, some 0, some 0, some 0, some 0, some 0, some 0, some 0, some 0, some 0, some 0, some 0, some 0, some 0, some 0, some 0, some 0, some 0, some 0, some 0, none] mixed (by kernel_rfl) rfl (LX.l (fun _ hJ => LO.mv (.r rfl)) rfl<|LX.l (fun _ hJ => LO.mv (.r rfl)) rfl<|LX.l (fun _ hJ => LO.ixa (j := 0) (r := 0) Tryz.underlying402 N3 (.r rfl) (.r rfl) rfl (by decide) rfl) rfl<|LX.l (fun _ hJ => LO.ld O3 (.r rfl) (fun _ hw => cells_at (hJ _ hw) 2 rfl ⟨_, rfl⟩)) rfl<|LX.l (fun _ hJ => LO.mv (.r rfl)) rfl<|LX.l (fun _ hJ => LO.len S40 (.r rfl) rfl) rfl<|LX.l (fun _ hJ => LO.call (xs := [_,_]) (vs := [_,_]) C179 ⟨(.r rfl), (.r rfl), trivial⟩ (fun w _ => down_c _ _ (by omega) (by omega) (by omega) w)) rfl<|LX.l (fun _ hJ => LO.fa (r := 2) F27_2 (.r rfl) rfl) rfl<|LX.l (fun _ hJ => LO.fa (r := 3) F25_1 (.r rfl) rfl) rfl<|LX.l (fun _ hJ => LO.ld O3 (.r rfl) (fun _ hw => cells_at (hJ _ hw) 4 rfl ⟨_, rfl⟩)) rfl<|LX.l (fun _ hJ => LO.sub (.r rfl) (.r rfl) (wi (by omega) (by omega))) rfl<|LX.l (fun _ hJ => LO.max (.r rfl) (.r rfl)) rfl<|LX.l (fun _ hJ => LO.mv (.r rfl)) rfl<|LX.l (fun _ hJ => LO.ixa (j := 0) (r := 0) Tryz.underlying402 N3 (.r rfl) (.r rfl) rfl (by decide) rfl) rfl<|LX.l (fun _ hJ => LO.ld O3 (.r rfl) (fun _ hw => cells_at (hJ _ hw) 1 rfl ⟨_, rfl⟩)) rfl<|LX.l (fun _ hJ => LO.mv (.r rfl)) rfl<|LX.l (fun _ hJ => LO.len S40 (.r rfl) rfl) rfl<|LX.l (fun _ hJ => LO.call (xs := [_,_]) (vs := [_,_]) C180 ⟨(.r rfl), (.r rfl), trivial⟩ (fun w _ => up_c _ _ (by omega) (by omega) (by omega) w)) rfl<|LX.l (fun _ hJ => LO.fa (r := 2) F27_2 (.r rfl) rfl) rfl<|LX.l (fun _ hJ => LO.fa (r := 2) F25_0 (.r rfl) rfl) rfl<|LX.l (fun _ hJ => LO.ld O3 (.r rfl) (fun _ hw => cells_at (hJ _ hw) 4 rfl ⟨_, rfl⟩)) rfl<|LX.l (fun _ hJ => LO.sub (.r rfl) (.r rfl) (wi (by unfold up; omega) (by unfold up; omega))) rfl<|LX.l (fun _ hJ => LO.max (.r rfl) (.r rfl)) rfl<|LX.l (fun _ hJ => LO.bd (ps := [(_,_), (_,_)]) (vs := [(_,_), (_,_)]) (C := [_,_]) B25  ⟨(.r rfl), (.r rfl), trivial⟩ rfl ⟨_, [_], [_,_], rfl, rfl, rfl, rfl, ⟨_, [_], [_,_], rfl, rfl, rfl, rfl, rfl⟩⟩) rfl<|LX.l (fun _ hJ => LO.ixa (j := 0) (r := 0) Tryz.underlying404 N25 (.r rfl) (.r rfl) rfl (by decide) rfl) rfl<|LX.s<|LX.nil) (HX.s<|HX.s<|HX.s<|HX.s<|HX.s<|HX.s<|HX.s<|HX.s<|HX.s<|HX.s<|HX.s<|HX.s<|HX.s<|HX.s<|HX.s<|HX.s<|HX.s<|HX.s<|HX.s<|HX.s<|HX.s<|HX.s<|HX.s<|HX.s<|HX.s<|HX.h0<|HO.st 0 (vs := [_,_]) (C' := [_,_,_,_]) (L' := [_,_,_,_,_,_]) N25 rfl rfl rfl rfl rfl rfl rfl rfl<|⟨fun _ hw => hw.sel [1,2,3,4,5] rfl, HX.nil ?_⟩)
      refine VE.inN (VE.seqN ?_)
      refine VC.reg (VO.l (LO.add (.r rfl) (.r rfl) (wi (by omega) (by omega))) rfl<|VO.l (LO.mv (.r rfl)) rfl<|VO.nil ?_)
      refine VE.thenN fun a w ha hw => ⟨((0 + 1),_,_,_,_), (by first | exact ⟨by omega, fun _ => ⟨rfl, rfl⟩, fun q => absurd q (by omega)⟩ | exact ⟨by omega, fun _ => hI1 (by omega), fun _ => ⟨rfl, rfl⟩⟩), (by dsimp only; omega), ha.sub (.cons rfl (.cons rfl (.cons rfl (.cons rfl (.cons rfl (.cons rfl (.cons rfl (.cons rfl .nil)))))))), hw⟩
    ·
      refine VC.reg (VO.l (LO.mv (.r rfl)) rfl<|VO.l (LO.as (.r rfl)) rfl<|VO.nil ?_)
      refine VE.seqN ?_
      refine VC.drawH [[0,1,2,3,4,5], [1,2,3,4,5]] [some 0, some 0, some 0, some 0, some 0, some 0, some 0, some 0, some 0, some 0, some 0, some 0, some 0, some 0, some 0, some 0, some 0, some 0, some 0, some 0, some 0, some 0, some 0, some 0, some 0, none] mixed (by kernel_rfl) rfl (LX.l (fun _ hJ => LO.mv (.r rfl)) rfl<|LX.l (fun _ hJ => LO.mv (.r rfl)) rfl<|LX.l (fun _ hJ => LO.ixa (j := 1) (r := 1) Tryz.underlying402 N3 (.r rfl) (.r rfl) rfl (by decide) rfl) rfl<|LX.l (fun _ hJ => LO.ld O3 (.r rfl) (fun _ hw => cells_at (hJ _ hw) 2 rfl ⟨_, rfl⟩)) rfl<|LX.l (fun _ hJ => LO.mv (.r rfl)) rfl<|LX.l (fun _ hJ => LO.len S40 (.r rfl) rfl) rfl<|LX.l (fun _ hJ => LO.call (xs := [_,_]) (vs := [_,_]) C179 ⟨(.r rfl), (.r rfl), trivial⟩ (fun w _ => down_c _ _ (by omega) (by omega) (by omega) w)) rfl<|LX.l (fun _ hJ => LO.fa (r := 2) F27_2 (.r rfl) rfl) rfl<|LX.l (fun _ hJ => LO.fa (r := 3) F25_1 (.r rfl) rfl) rfl<|LX.l (fun _ hJ => LO.ld O3 (.r rfl) (fun _ hw => cells_at (hJ _ hw) 4 rfl ⟨_, rfl⟩)) rfl<|LX.l (fun _ hJ => LO.sub (.r rfl) (.r rfl) (wi (by omega) (by omega))) rfl<|LX.l (fun _ hJ => LO.max (.r rfl) (.r rfl)) rfl<|LX.l (fun _ hJ => LO.mv (.r rfl)) rfl<|LX.l (fun _ hJ => LO.ixa (j := 1) (r := 1) Tryz.underlying402 N3 (.r rfl) (.r rfl) rfl (by decide) rfl) rfl<|LX.l (fun _ hJ => LO.ld O3 (.r rfl) (fun _ hw => cells_at (hJ _ hw) 1 rfl ⟨_, rfl⟩)) rfl<|LX.l (fun _ hJ => LO.mv (.r rfl)) rfl<|LX.l (fun _ hJ => LO.len S40 (.r rfl) rfl) rfl<|LX.l (fun _ hJ => LO.call (xs := [_,_]) (vs := [_,_]) C180 ⟨(.r rfl), (.r rfl), trivial⟩ (fun w _ => up_c _ _ (by omega) (by omega) (by omega) w)) rfl<|LX.l (fun _ hJ => LO.fa (r := 2) F27_2 (.r rfl) rfl) rfl<|LX.l (fun _ hJ => LO.fa (r := 2) F25_0 (.r rfl) rfl) rfl<|LX.l (fun _ hJ => LO.ld O3 (.r rfl) (fun _ hw => cells_at (hJ _ hw) 4 rfl ⟨_, rfl⟩)) rfl<|LX.l (fun _ hJ => LO.sub (.r rfl) (.r rfl) (wi (by unfold up; omega) (by unfold up; omega))) rfl<|LX.l (fun _ hJ => LO.max (.r rfl) (.r rfl)) rfl<|LX.l (fun _ hJ => LO.bd (ps := [(_,_), (_,_)]) (vs := [(_,_), (_,_)]) (C := [_,_]) B25  ⟨(.r rfl), (.r rfl), trivial⟩ rfl ⟨_, [_], [_,_], rfl, rfl, rfl, rfl, ⟨_, [_], [_,_], rfl, rfl, rfl, rfl, rfl⟩⟩) rfl<|LX.l (fun _ hJ => LO.ixa (j := 1) (r := 2) Tryz.underlying404 N25 (.r rfl) (.r rfl) rfl (by decide) rfl) rfl<|LX.s<|LX.nil) (HX.s<|HX.s<|HX.s<|HX.s<|HX.s<|HX.s<|HX.s<|HX.s<|HX.s<|HX.s<|HX.s<|HX.s<|HX.s<|HX.s<|HX.s<|HX.s<|HX.s<|HX.s<|HX.s<|HX.s<|HX.s<|HX.s<|HX.s<|HX.s<|HX.s<|HX.h0<|HO.st 0 (vs := [_,_]) (C' := [_,_,_,_]) (L' := [_,_,_,_,_,_]) N25 rfl rfl rfl rfl rfl rfl rfl rfl<|⟨fun _ hw => hw.sel [1,2,3,4,5] rfl, HX.nil ?_⟩)
      refine VE.inN (VE.seqN ?_)
      refine VC.reg (VO.l (LO.add (.r rfl) (.r rfl) (wi (by omega) (by omega))) rfl<|VO.l (LO.mv (.r rfl)) rfl<|VO.nil ?_)
      refine VE.thenN fun a w ha hw => ⟨((1 + 1),_,_,_,_), (by first | exact ⟨by omega, fun _ => ⟨rfl, rfl⟩, fun q => absurd q (by omega)⟩ | exact ⟨by omega, fun _ => hI1 (by omega), fun _ => ⟨rfl, rfl⟩⟩), (by dsimp only; omega), ha.sub (.cons rfl (.cons rfl (.cons rfl (.cons rfl (.cons rfl (.cons rfl (.cons rfl (.cons rfl .nil)))))))), hw⟩
  ·
    refine VC.exit (VE.thenX (VE.thenX (VE.inX (VE.seqN ?_))))
    refine VC.seq ?_
    have hi2 : i = 2 := by omega
    subst hi2
    obtain ⟨rfl, rfl⟩ := hI1 (by omega)
    obtain ⟨rfl, rfl⟩ := hI2 (by omega)
    refine VC.reg (VO.l (LO.ixa (j := 0) (r := 0) Tryz.underlying404 N25 (.r rfl) (.r rfl) rfl (by decide) rfl) rfl<|VO.l (LO.lda (vs := [_,_]) A25 (.r rfl) (fun _ hw => cells_at hw 0 rfl ⟨_, rfl⟩) rfl) rfl<|VO.l (LO.bd (ps := [(_,_), (_,_)]) (vs := [(_,_), (_,_)]) (C := [_,_,_,_,_,_,_,_,_,_,_,_,_,_]) B76  ⟨(.r rfl), (.r rfl), trivial⟩ rfl ⟨_, [_], [_,_,_,_,_,_,_,_,_,_,_,_,_,_], rfl, rfl, rfl, rfl, ⟨_, [_,_], [_,_,_,_,_,_,_,_,_,_,_,_,_,_], rfl, rfl, rfl, rfl, rfl⟩⟩) rfl<|VO.h rfl<|HO.alloc (C := #[_,_,_,_,_,_,_,_,_,_,_,_,_,_]) Z76 rfl fun b13 => VO.h0<|HO.st 0 (vs := [_,_,_,_,_,_,_,_,_,_,_,_,_,_]) (C' := [_,_,_,_,_,_,_,_,_,_,_,_,_,_]) (L' := [_,_,_,_,_,_,_]) N76 rfl rfl rfl rfl rfl rfl rfl rfl<|VO.nil ?_)
    refine VE.seqN ?_
    refine VC.seq ?_
    refine VC.seq ?_
    refine VC.reg (VO.l (LO.lda (vs := [_,_,_,_]) A404 (.r rfl) (fun _ hw => cells_at hw 1 rfl ⟨_, rfl⟩) rfl) rfl<|VO.l (LO.ixa (j := 0) (r := 0) Tryz.underlying404 N25 (.r rfl) (.r rfl) rfl (by decide) rfl) rfl<|VO.l (LO.fa (r := 1) F25_1 (.r rfl) rfl) rfl<|VO.l (LO.ld O3 (.r rfl) (fun _ hw => cells_at hw 1 rfl ⟨_, rfl⟩)) rfl<|VO.l (LO.bd (ps := [(_,_)]) (vs := [(_,_)]) (C := [_,_]) B25  ⟨(.r rfl), trivial⟩ rfl ⟨_, [_], [_,_], rfl, rfl, rfl, rfl, rfl⟩) rfl<|VO.l (LO.ixa (j := 1) (r := 2) Tryz.underlying404 N25 (.r rfl) (.r rfl) rfl (by decide) rfl) rfl<|VO.l (LO.lda (vs := [_,_]) A25 (.r rfl) (fun _ hw => cells_at hw 1 rfl ⟨_, rfl⟩) rfl) rfl<|VO.l (LO.bda (ps := [(_,_), (_,_)]) (vs := [(_,_), (_,_)]) (C := [_,_,_,_]) B404 rfl ⟨(.r rfl), (.r rfl), trivial⟩ rfl ⟨_, [_,_], [_,_,_,_], rfl, rfl, rfl, rfl, ⟨_, [_,_], [_,_,_,_], rfl, rfl, rfl, rfl, rfl⟩⟩) rfl<|VO.l (LO.eqA («as» := [_,_,_,_]) (bs := [_,_,_,_]) EA404 (.r rfl) (.r rfl) rfl rfl) rfl<|VO.nil ?_)
    refine VE.seqN ?_
    refine VC.cond rfl (fun h75 => ?_) (fun h75 => ?_)
    ·
      have hz : (pow0 r l).lo = 0 := by simpa using h75
      refine VC.seq ?_
      refine VC.reg (VO.l (LO.lda (vs := [_,_,_,_,_,_,_,_,_,_,_,_,_,_]) A76 (.r rfl) (fun _ hw => cells_at hw 0 rfl ⟨_, rfl⟩) rfl) rfl<|VO.h0<|HO.st 4 (vs := [_,_,_,_,_,_,_,_,_,_,_,_,_,_]) (C' := [_,_,_,_,_,_,_,_,_,_,_,_,_,_]) (L' := [_,_,_,_,_,_,_]) N76 rfl rfl rfl rfl rfl rfl rfl rfl<|VO.nil ?_)
      refine VE.seqN ?_
      refine VC.ret (VE.thenR (VE.res (vs := [_]) rfl ⟨RV.agg (vs := [_,_,_,_,_,_,_,_,_,_,_,_,_,_]) A76 rfl (cells_blk 4 rfl ⟨_, rfl⟩) rfl, trivial⟩ (fun w hw => ?_)))
      refine ⟨?_, hw.nil⟩
      simp only [resV]
      first | (rw [hearX, if_pos hz]; rfl) | (rw [hearX, if_neg hz, if_pos (fun q => h182 (good_iff.1 q))]; rfl) | (rw [hearX, if_neg hz, if_neg (fun q => q (good_iff.2 (Classical.not_not.1 h182))), meanS_eq, meanS_eq, meanS_eq, ← tlen]; rfl)
    ·
      have hz : ¬ (pow0 r l).lo = 0 := fun q => h75 (by rw [q])
      have hpw := pow_bd (r := r) (l := l) hr (by omega) hs
      have x1 := share_bd (a := sumX (-r.level) l) (by omega) (by omega)
      have x2 := share_bd (a := sumX r.level l) (by omega) (by omega)
      have y1 := prod_bd (A := 80000000) (B := 80000000) (x := sumH r.level l) (y := sumV r.level l) (by omega) (by omega) (by omega) (by omega)
      have y2 := prod_bd (A := 80000000) (B := 80000000) (x := sumH (-r.level) l) (y := sumV (-r.level) l) (by omega) (by omega) (by omega) (by omega)
      refine VC.skip (VE.seqN ?_)
      refine VC.seq ?_
      refine VC.drawH [[0,1,2,3,4,5,6], [1,2,3,4,5,6]] [some 0, some 0, some 0, some 0, some 0, some 0, some 0, some 0, some 0, some 0, some 0, some 0, some 0, some 0, some 0, some 0, some 0, some 0, some 0, some 0, none] mixed (by kernel_rfl) rfl (LX.l (fun _ hJ => LO.ixa (j := 1) (r := 2) Tryz.underlying404 N25 (.r rfl) (.r rfl) rfl (by decide) rfl) rfl<|LX.l (fun _ hJ => LO.fa (r := 2) F25_0 (.r rfl) rfl) rfl<|LX.l (fun _ hJ => LO.ld O3 (.r rfl) (fun _ hw => cells_at (hJ _ hw) 1 rfl ⟨_, rfl⟩)) rfl<|LX.l (fun _ hJ => LO.mul (.r rfl) (.r rfl) (wi (by omega) (by omega))) rfl<|LX.l (fun _ hJ => LO.ixa (j := 0) (r := 0) Tryz.underlying404 N25 (.r rfl) (.r rfl) rfl (by decide) rfl) rfl<|LX.l (fun _ hJ => LO.fa (r := 1) F25_1 (.r rfl) rfl) rfl<|LX.l (fun _ hJ => LO.ld O3 (.r rfl) (fun _ hw => cells_at (hJ _ hw) 1 rfl ⟨_, rfl⟩)) rfl<|LX.l (fun _ hJ => LO.quo (.r rfl) (.r rfl) (by omega) (quo_nn (by omega) (by omega) (by omega))) rfl<|LX.l (fun _ hJ => LO.min (.r rfl) (.r rfl)) rfl<|LX.l (fun _ hJ => LO.ixa (j := 1) (r := 2) Tryz.underlying404 N25 (.r rfl) (.r rfl) rfl (by decide) rfl) rfl<|LX.l (fun _ hJ => LO.fa (r := 3) F25_1 (.r rfl) rfl) rfl<|LX.l (fun _ hJ => LO.ld O3 (.r rfl) (fun _ hw => cells_at (hJ _ hw) 1 rfl ⟨_, rfl⟩)) rfl<|LX.l (fun _ hJ => LO.mul (.r rfl) (.r rfl) (wi (by omega) (by omega))) rfl<|LX.l (fun _ hJ => LO.ixa (j := 0) (r := 0) Tryz.underlying404 N25 (.r rfl) (.r rfl) rfl (by decide) rfl) rfl<|LX.l (fun _ hJ => LO.fa (r := 0) F25_0 (.r rfl) rfl) rfl<|LX.l (fun _ hJ => LO.ld O3 (.r rfl) (fun _ hw => cells_at (hJ _ hw) 1 rfl ⟨_, rfl⟩)) rfl<|LX.l (fun _ hJ => LO.call (xs := [_,_]) (vs := [_,_]) C180 ⟨(.r rfl), (.r rfl), trivial⟩ (fun w _ => up_c _ _ (by omega) (by omega) (by omega) w)) rfl<|LX.l (fun _ hJ => LO.min (.r rfl) (.r rfl)) rfl<|LX.l (fun _ hJ => LO.bd (ps := [(_,_), (_,_)]) (vs := [(_,_), (_,_)]) (C := [_,_]) B25  ⟨(.r rfl), (.r rfl), trivial⟩ rfl ⟨_, [_], [_,_], rfl, rfl, rfl, rfl, ⟨_, [_], [_,_], rfl, rfl, rfl, rfl, rfl⟩⟩) rfl<|LX.l (fun _ hJ => LO.fa (r := 8) F76_4 (.r rfl) rfl) rfl<|LX.s<|LX.nil) (HX.s<|HX.s<|HX.s<|HX.s<|HX.s<|HX.s<|HX.s<|HX.s<|HX.s<|HX.s<|HX.s<|HX.s<|HX.s<|HX.s<|HX.s<|HX.s<|HX.s<|HX.s<|HX.s<|HX.s<|HX.h0<|HO.st 0 (vs := [_,_]) (C' := [_,_,_,_,_,_,_,_,_,_,_,_,_,_]) (L' := [_,_,_,_,_,_,_]) N25 rfl rfl rfl rfl rfl rfl rfl rfl<|⟨fun _ hw => hw.sel [1,2,3,4,5,6] rfl, HX.nil ?_⟩)
      refine VE.seqN ?_
      refine VC.seq ?_
      refine VC.drawH [[0,1,2,3,4,5,6], [1,2,3,4,5,6]] [some 0, some 0, some 0, some 0, some 0, some 0, some 0, some 0, some 0, some 0, some 0, some 0, some 0, some 0, some 0, some 0, some 0, some 0, none] mixed (by kernel_rfl) rfl (LX.l (fun _ hJ => LO.ixa (j := 2) (r := 2) Tryz.underlying402 N3 (.r rfl) (.r rfl) rfl (by decide) rfl) rfl<|LX.l (fun _ hJ => LO.ld O3 (.r rfl) (fun _ hw => cells_at (hJ _ hw) 3 rfl ⟨_, rfl⟩)) rfl<|LX.l (fun _ hJ => LO.ixa (j := 0) (r := 0) Tryz.underlying402 N3 (.r rfl) (.r rfl) rfl (by decide) rfl) rfl<|LX.l (fun _ hJ => LO.ld O3 (.r rfl) (fun _ hw => cells_at (hJ _ hw) 2 rfl ⟨_, rfl⟩)) rfl<|LX.l (fun _ hJ => LO.ixa (j := 1) (r := 1) Tryz.underlying402 N3 (.r rfl) (.r rfl) rfl (by decide) rfl) rfl<|LX.l (fun _ hJ => LO.ld O3 (.r rfl) (fun _ hw => cells_at (hJ _ hw) 2 rfl ⟨_, rfl⟩)) rfl<|LX.l (fun _ hJ => LO.mul (.r rfl) (.r rfl) (wi (by omega) (by omega))) rfl<|LX.l (fun _ hJ => LO.call (xs := [_,_,_,_]) (vs := [_,_,_,_]) C181 ⟨(.r rfl), (.r rfl), (.r rfl), (.r rfl), trivial⟩ (fun w _ => shareD_c _ _ w (by omega) (by omega) (share_bd (by omega) (by omega)).2 (share_bd (by omega) (by omega)).1 (by omega))) rfl<|LX.l (fun _ hJ => LO.ixa (j := 2) (r := 2) Tryz.underlying402 N3 (.r rfl) (.r rfl) rfl (by decide) rfl) rfl<|LX.l (fun _ hJ => LO.ld O3 (.r rfl) (fun _ hw => cells_at (hJ _ hw) 2 rfl ⟨_, rfl⟩)) rfl<|LX.l (fun _ hJ => LO.ixa (j := 0) (r := 0) Tryz.underlying402 N3 (.r rfl) (.r rfl) rfl (by decide) rfl) rfl<|LX.l (fun _ hJ => LO.ld O3 (.r rfl) (fun _ hw => cells_at (hJ _ hw) 3 rfl ⟨_, rfl⟩)) rfl<|LX.l (fun _ hJ => LO.ixa (j := 1) (r := 1) Tryz.underlying402 N3 (.r rfl) (.r rfl) rfl (by decide) rfl) rfl<|LX.l (fun _ hJ => LO.ld O3 (.r rfl) (fun _ hw => cells_at (hJ _ hw) 3 rfl ⟨_, rfl⟩)) rfl<|LX.l (fun _ hJ => LO.mul (.r rfl) (.r rfl) (wi (by omega) (by omega))) rfl<|LX.l (fun _ hJ => LO.call (xs := [_,_,_,_]) (vs := [_,_,_,_]) C181 ⟨(.r rfl), (.r rfl), (.r rfl), (.r rfl), trivial⟩ (fun w _ => shareU_c _ _ w (by omega) (by omega) (share_bd (by omega) (by omega)).2 (share_bd (by omega) (by omega)).1 (by omega))) rfl<|LX.l (fun _ hJ => LO.bd (ps := [(_,_), (_,_)]) (vs := [(_,_), (_,_)]) (C := [_,_]) B25  ⟨(.r rfl), (.r rfl), trivial⟩ rfl ⟨_, [_], [_,_], rfl, rfl, rfl, rfl, ⟨_, [_], [_,_], rfl, rfl, rfl, rfl, rfl⟩⟩) rfl<|LX.l (fun _ hJ => LO.fa (r := 10) F76_5 (.r rfl) rfl) rfl<|LX.s<|LX.nil) (HX.s<|HX.s<|HX.s<|HX.s<|HX.s<|HX.s<|HX.s<|HX.s<|HX.s<|HX.s<|HX.s<|HX.s<|HX.s<|HX.s<|HX.s<|HX.s<|HX.s<|HX.s<|HX.h0<|HO.st 0 (vs := [_,_]) (C' := [_,_,_,_,_,_,_,_,_,_,_,_,_,_]) (L' := [_,_,_,_,_,_,_]) N25 rfl rfl rfl rfl rfl rfl rfl rfl<|⟨fun _ hw => hw.sel [1,2,3,4,5,6] rfl, HX.nil ?_⟩)
      refine VE.seqN ?_
      refine VC.seq ?_
      refine VC.reg (VO.h rfl<|HO.alloc (C := #[_,_]) Z406 rfl fun b20 => VO.nil ?_)
      refine VE.seqN ?_
      refine VC.weak (env' := [(2,_), (3,_), (4,_), (6,_), (11,_), (12,_)]) (.cons rfl (.cons rfl (.cons rfl (.cons rfl (.cons rfl (.cons rfl .nil)))))) (fun _ h => h) ?_
      refine VC.seq ?_
      refine VC.seq ?_
      refine VC.reg (VO.l (LO.lda (vs := [_,_,_,_,_]) A23 (.r rfl) (fun _ hw => cells_at hw 7 rfl ⟨_, rfl⟩) rfl) rfl<|VO.l (LO.mv (.r rfl)) rfl<|VO.h rfl<|HO.callx (xs := [_,_]) (vs := [_,_]) C182 ⟨(.r rfl), (.r rfl), trivial⟩ (fun w _ => steps_c t l p c w) fun q _ => VO.nil ?_)
      refine VE.seqN ?_
      refine VC.block ?_
      refine VC.rangeFuncF (α := Nat × (Option Addr × Nat) × (Option Addr × Nat)) (fun x => [own 3 1 x.2.1.1 x.2.1.2 ((stS ((stQ t.kind l (l.length - 1)).take x.1) 0).map intC), own 3 1 x.2.2.1 x.2.2.2 ((stS ((stQ t.kind l (l.length - 1)).take x.1) 1).map intC), blk b20 (.cells #[.slice x.2.1.1 (stS ((stQ t.kind l (l.length - 1)).take x.1) 0).length x.2.1.2, .slice x.2.2.1 (stS ((stQ t.kind l (l.length - 1)).take x.1) 1).length x.2.2.2] 406), blk q.1 (.cells #[.slice p l.length c] 40), blk q.2 (.cells #[.int .i64 t.lam, .int .i64 t.kind, .int .i64 t.first, .int .i64 t.second, .int .i64 t.count] 23), blk b13 (.cells #[.int .i64 1, .int .i64 (pow0 r l).lo, .int .i64 (pow0 r l).hi, .int .i64 0, .int .i64 0, .int .i64 0, .int .i64 0, .int .i64 0, .int .i64 (ratioS (pow0 r l) (pow1 r l)).lo, .int .i64 (ratioS (pow0 r l) (pow1 r l)).hi, .int .i64 (mtchS r l).lo, .int .i64 (mtchS r l).hi, .int .i64 0, .int .i64 0] 76), blk b3 (.cells #[.int .i64 0, .int .i64 0, .int .i64 0, .int .i64 0, .int .i64 0, .int .i64 0, .int .i64 0, .int .i64 0, .int .i64 0, .int .i64 0, .int .i64 0, .int .i64 0, .int .i64 0, .int .i64 0] 76), blk b2 (.cells #[.int .i64 r.level, .int .i64 r.phase, .int .i64 r.nlo, .int .i64 r.nhi] 27), blk b1 (.cells #[.int .i64 t.lam, .int .i64 t.kind, .int .i64 t.first, .int .i64 t.second, .int .i64 t.count] 23)]) (fun n x => x.1 = n ∧ n ≤ (stQ t.kind l (l.length - 1)).length) (fun c n x => False) (0, (none, 0), (none, 0)) (fun vs => [(13, vs.getD 0 (.bool false)), (14, vs.getD 1 (.bool false)), (12, .pointer (some ⟨b20,0, none⟩))]) rfl C226 (steps_seq t l p c q.1 q.2 hln.2 (by omega) hc htk hs) (fun _ h => ((h.sel [2,0,1,3,7,8,9] rfl).ownNil 3 1).ownNil 3 1) (⟨rfl, Nat.zero_le _⟩) (fun vs hv => by obtain ⟨n,_, rfl⟩ := List.mem_map.1 hv; rfl) (by decide) (fun n x w2 _ h hfr => ⟨cells_inv (h 3 _ rfl), cells_inv (h 4 _ rfl), ro_fr (fun k hk => hfr k hk (fun q => q)) hl⟩) ?_ ?_ ?_ ?_
      ·
        intro n x vs lY T w1 hI hxs hst
        obtain ⟨v, rfl, hv⟩ := pair_of hxs
        obtain ⟨xn, ⟨xp, xc⟩, xq, xd⟩ := x
        obtain ⟨hxn, hle⟩ := hI
        dsimp only at hxn
        subst hxn
        have hlt : xn < (stQ t.kind l (l.length - 1)).length := (List.getElem?_eq_some_iff.1 hv).1
        have hv01 := stQ_01 htk hv
        have hsl := stS_len (stQ_len t.kind l (l.length - 1)) (n := xn)
        refine VC.seq ?_
        refine VC.reg (VO.l (LO.as (.r rfl)) rfl<|VO.nil ?_)
        refine VE.seqN ?_
        refine VC.reg (VO.l (LO.as (.r rfl)) rfl<|VO.nil ?_)
        exact fun a w ha hw => ⟨rfl, ha.sub (.cons rfl (.cons rfl (.cons rfl .nil))), hw⟩
      ·
        intro n x vs lY T w1 hI hxs hst
        obtain ⟨v, rfl, hv⟩ := pair_of hxs
        obtain ⟨xn, ⟨xp, xc⟩, xq, xd⟩ := x
        obtain ⟨hxn, hle⟩ := hI
        dsimp only at hxn
        subst hxn
        have hlt : xn < (stQ t.kind l (l.length - 1)).length := (List.getElem?_eq_some_iff.1 hv).1
        have hv01 := stQ_01 htk hv
        have hsl := stS_len (stQ_len t.kind l (l.length - 1)) (n := xn)
        refine VC.block ?_
        rcases hv01 with hv0 | hv0
        ·
          refine VC.reg (VO.l (LO.mv (.r rfl)) rfl<|VO.l (LO.mv (.r rfl)) rfl<|VO.l (LO.ixa (j := 0) (r := 0) Tryz.underlying406 N112 (.r rfl) (.r rfl) hv0 (by decide) rfl) rfl<|VO.l (LO.ld O112 (.r rfl) (fun _ hw => cells_at hw 2 rfl ⟨_, rfl⟩)) rfl<|VO.l (LO.mv (.r rfl)) rfl<|VO.h rfl<|HO.bs (ps := [(_,_)]) (vs := [(_,_)]) (Z := [_]) (C := [_]) S112 Z3 N3 ⟨(.r rfl), trivial⟩ rfl rfl rfl rfl ⟨_, [_], [_], rfl, rfl, rfl, rfl, rfl⟩ fun b71 => VO.h rfl<|HO.appT (v.2) 1 0 (fun R => [_, R,_,_,_,_,_,_,_,_] ++ T) S112 S112 I3 (.r rfl) (.r rfl) rfl rfl rfl rfl rfl rfl rfl (fun _ => rfl) rfl (by dsimp only; omega) fun p6 c6 => VO.l (LO.ixa (j := 0) (r := 0) Tryz.underlying406 N112 (.r rfl) (.r rfl) hv0 (by decide) rfl) rfl<|VO.h0<|HO.st 3 (vs := [_]) (C' := [_,_]) N112 rfl rfl rfl rfl rfl rfl rfl rfl<|VO.nil ?_)
          refine VE.inN ?_
          first
          | exact fun a w ha hw => ⟨(xn + 1, (p6, c6), (xq, xd)), ⟨rfl, by omega⟩, hw.tl.eqL (by dsimp only; rw [stS_yes hv hv0, stS_no (w := 1) hv (by omega)]; rfl)⟩
          | exact fun a w ha hw => ⟨(xn + 1, (xp, xc), (p6, c6)), ⟨rfl, by omega⟩, hw.tl.eqL (by dsimp only; rw [stS_yes hv hv0, stS_no (w := 0) hv (by omega)]; rfl)⟩
        ·
          refine VC.reg (VO.l (LO.mv (.r rfl)) rfl<|VO.l (LO.mv (.r rfl)) rfl<|VO.l (LO.ixa (j := 1) (r := 1) Tryz.underlying406 N112 (.r rfl) (.r rfl) hv0 (by decide) rfl) rfl<|VO.l (LO.ld O112 (.r rfl) (fun _ hw => cells_at hw 2 rfl ⟨_, rfl⟩)) rfl<|VO.l (LO.mv (.r rfl)) rfl<|VO.h rfl<|HO.bs (ps := [(_,_)]) (vs := [(_,_)]) (Z := [_]) (C := [_]) S112 Z3 N3 ⟨(.r rfl), trivial⟩ rfl rfl rfl rfl ⟨_, [_], [_], rfl, rfl, rfl, rfl, rfl⟩ fun b73 => VO.h rfl<|HO.appT (v.2) 2 0 (fun R => [_,_, R,_,_,_,_,_,_,_] ++ T) S112 S112 I3 (.r rfl) (.r rfl) rfl rfl rfl rfl rfl rfl rfl (fun _ => rfl) rfl (by dsimp only; omega) fun p6 c6 => VO.l (LO.ixa (j := 1) (r := 1) Tryz.underlying406 N112 (.r rfl) (.r rfl) hv0 (by decide) rfl) rfl<|VO.h0<|HO.st 3 (vs := [_]) (C' := [_,_]) N112 rfl rfl rfl rfl rfl rfl rfl rfl<|VO.nil ?_)
          refine VE.inN ?_
          first
          | exact fun a w ha hw => ⟨(xn + 1, (p6, c6), (xq, xd)), ⟨rfl, by omega⟩, hw.tl.eqL (by dsimp only; rw [stS_yes hv hv0, stS_no (w := 1) hv (by omega)]; rfl)⟩
          | exact fun a w ha hw => ⟨(xn + 1, (xp, xc), (p6, c6)), ⟨rfl, by omega⟩, hw.tl.eqL (by dsimp only; rw [stS_yes hv hv0, stS_no (w := 0) hv (by omega)]; rfl)⟩
      ·
        intro D x hI
        obtain ⟨xn, ⟨xp, xc⟩, xq, xd⟩ := x
        obtain ⟨hxn, hle⟩ := hI
        have hxn : xn = (stQ t.kind l (l.length - 1)).length := by simpa [List.length_map] using hxn
        subst hxn
        dsimp only
        rw [List.take_length, stS_all 0 (by decide), stS_all 1 (by decide)]
        have l0 := stL_len t.kind l 0
        have l1 := stL_len t.kind l 1
        have s0T := stL_inT t.kind l 0
        have s1T := stL_inT t.kind l 1
        have w0 := wid_bd s0T
        have w1 := wid_bd s1T
        have e0 := arcR_bd s0T
        have e1 := arcR_bd s1T
        have tT := turnL_inT l
        have eT := arcR_bd tT
        have tlen : (turnL l).length = l.length := List.length_map ..
        have m0 : 0 ≤ arcSum (stL t.kind l 0) ∧ arcSum (stL t.kind l 0) ≤ 131070 * ((stL t.kind l 0).length : Int) := arcT_bd _ (by omega) (by omega)
        have m1 : 0 ≤ arcSum (stL t.kind l 1) ∧ arcSum (stL t.kind l 1) ≤ 131070 * ((stL t.kind l 1).length : Int) := arcT_bd _ (by omega) (by omega)
        have mT : 0 ≤ arcSum (turnL l) ∧ arcSum (turnL l) ≤ 131070 * ((turnL l).length : Int) := arcT_bd _ (by omega) (by omega)
        skip
        refine VE.inN (VE.seqN ?_)
        refine VC.seq ?_
        refine VC.reg (VO.l (LO.as (.r rfl)) rfl<|VO.nil ?_)
        refine VE.seqN ?_
        refine VC.seq ?_
        refine VC.seq ?_
        refine VC.reg (VO.l (LO.mv (.r rfl)) rfl<|VO.l (LO.len S40 (.r rfl) rfl) rfl<|VO.l (LO.mv (.r rfl)) rfl<|VO.nil ?_)
        refine VE.seqN ?_
        refine VC.block ?_
        refine VC.loopK (α := Nat × (List Int) × (Option Addr) × Nat) 0 (fun gx => [(15, .slice gx.2.2.1 gx.2.1.length gx.2.2.2), (130, .int .i64 (gx.1 : Nat))]) [(3,_), (4,_), (6,_), (11,_), (12,_), (128,_), (129,_)] (fun gx => [own 3 1 gx.2.2.1 gx.2.2.2 (gx.2.1.map intC)]) (fun gx => gx.1 ≤ l.length ∧ gx.2.1 = turnL (l.take gx.1)) (fun gx => l.length - gx.1) (0, [], none, 0) (by exact ⟨Nat.zero_le _, rfl⟩) (.cons rfl (.cons rfl (.cons rfl (.cons rfl (.cons rfl (.cons rfl (.cons rfl (.cons rfl (.cons rfl .nil))))))))) (fun _ h => (h.ownNil 3 1)) ?_
        rintro ⟨j, tl, pt, ct⟩ ⟨hj, hTl⟩
        show VC _ _ _ _ _ ([(15, .slice pt tl.length ct), (130, .int .i64 (j : Nat))] ++ _) ([own 3 1 pt ct (tl.map intC)] ++ _) _ _
        dsimp only at hj hTl
        have htl : tl.length = j := by rw [hTl]; simp [turnL]; omega
        refine VC.seq ?_
        refine VC.reg (VO.l (LO.lt (.r rfl) (.r rfl)) rfl<|VO.nil ?_)
        refine VE.seqN ?_
        refine VC.seq ?_
        refine VC.cond rfl (fun h3 => ?_) (fun h3 => ?_)
        ·
          refine VC.skip (VE.seqN ?_)
          refine VC.seq ?_
          refine VC.block ?_
          refine VC.seq ?_
          refine VC.reg (VO.l (LO.ixs S40 N50 hl.sm (.r rfl) (.r rfl) rfl (by omega)) rfl<|VO.l (LO.lda (vs := [_,_,_,_]) A50 (.r rfl) (fun w hw => cells_part (off := 0) ((hl.at zSm (j := j) (by omega)) w hw) ⟨_, rfl⟩) rfl) rfl<|VO.h rfl<|HO.alloc (C := #[_,_,_,_]) Z50 rfl fun b100 => VO.h0<|HO.st 0 (vs := [_,_,_,_]) (C' := [_,_,_,_]) N50 rfl rfl rfl rfl rfl rfl rfl rfl<|VO.nil ?_)
          refine VE.seqN ?_
          have q1 := hs _ (getD_mem (d := zSm) (show j < l.length by omega))
          unfold smpOk at q1
          refine VC.reg (VO.l (LO.mv (.r rfl)) rfl<|VO.l (LO.fa (r := 3) F50_3 (.r rfl) rfl) rfl<|VO.l (LO.ld O3 (.r rfl) (fun _ hw => cells_at hw 0 rfl ⟨_, rfl⟩)) rfl<|VO.l (LO.fa (r := 1) F50_1 (.r rfl) rfl) rfl<|VO.l (LO.ld O3 (.r rfl) (fun _ hw => cells_at hw 0 rfl ⟨_, rfl⟩)) rfl<|VO.l (LO.sub (.r rfl) (.r rfl) (wi (by omega) (by omega))) rfl<|VO.l (LO.call (xs := [_]) (vs := [_]) C112 ⟨(.r rfl), trivial⟩ (fun w _ => wrap_c _ w)) rfl<|VO.h rfl<|HO.bs (ps := [(_,_)]) (vs := [(_,_)]) (Z := [_]) (C := [_]) S112 Z3 N3 ⟨(.r rfl), trivial⟩ rfl rfl rfl rfl ⟨_, [_], [_], rfl, rfl, rfl, rfl, rfl⟩ fun b102 => VO.h rfl<|HO.appT ((wr ((l.getD j zSm).q - (l.getD j zSm).p))) 2 0 (fun R => [_,_, R,_,_,_,_,_,_,_,_,_,_]) S112 S112 I3 (.r rfl) (.r rfl) rfl rfl rfl rfl rfl rfl rfl (fun _ => rfl) rfl (by omega) fun p8 c8 => VO.h rfl<|HO.lo (LO.as (.r rfl))<|VO.nil ?_)
          refine VE.inN (VE.seqN ?_)
          refine VC.reg (VO.l (LO.add (.r rfl) (.r rfl) (wi (by omega) (by omega))) rfl<|VO.l (LO.mv (.r rfl)) rfl<|VO.nil ?_)
          refine VE.thenN fun a w ha hw => ⟨(j + 1, tl ++ [wr ((l.getD j zSm).q - (l.getD j zSm).p)], p8, c8), ⟨by dsimp only; omega, by dsimp only; rw [turn_step (by omega), hTl]⟩, (by dsimp only; omega), ha.sub (.cons rfl (.cons rfl (.cons rfl (.cons rfl (.cons rfl (.cons rfl (.cons rfl (.cons rfl (.cons rfl .nil))))))))), hw.sel [2,3,4,5,6,7,8,9,10,11,12] rfl⟩
        ·
          refine VC.exit (VE.thenX (VE.thenX (VE.inX (VE.seqN ?_))))
          refine VC.seq ?_
          have hj2 : j = l.length := by omega
          subst hj2
          rw [List.take_length] at hTl
          subst hTl
          refine VC.reg (VO.l (LO.fa (r := 0) F76_0 (.r rfl) rfl) rfl<|VO.h0<|HO.st 6 (vs := [_]) (C' := [_,_,_,_,_,_,_,_,_,_,_,_,_,_]) N3 rfl rfl rfl rfl rfl rfl rfl rfl<|VO.nil ?_)
          refine VE.seqN ?_
          refine VC.seq ?_
          refine VC.reg (VO.h rfl<|HO.alloc (C := #[_,_,_,_,_,_,_,_]) Z412 rfl fun b104 => VO.nil ?_)
          refine VE.seqN ?_
          refine VC.seq ?_
          refine VC.reg (VO.l (LO.mv (.r rfl)) rfl<|VO.l (LO.call (xs := [_]) (vs := [_]) C183 ⟨(.r rfl), trivial⟩ (fun w hw => arcOf_c (turnL l) _ _ w (by omega) (RO.of_own hw 1 rfl) tT)) rfl<|VO.h rfl<|HO.alloc (C := #[_,_,_,_]) Z411 rfl fun b105 => VO.h0<|HO.st 0 (vs := [_,_,_,_]) (C' := [_,_,_,_]) N411 rfl rfl rfl rfl rfl rfl rfl rfl<|VO.nil ?_)
          refine VE.seqN ?_
          refine VC.seq ?_
          refine VC.reg (VO.l (LO.lda (vs := [_,_,_,_]) A411 (.r rfl) (fun _ hw => cells_at hw 0 rfl ⟨_, rfl⟩) rfl) rfl<|VO.l (LO.fa (r := 1) F27_1 (.r rfl) rfl) rfl<|VO.l (LO.ld O3 (.r rfl) (fun _ hw => cells_at hw 10 rfl ⟨_, rfl⟩)) rfl<|VO.l (LO.call (xs := [_,_]) (vs := [_,_]) C184 ⟨(.r rfl), (.r rfl), trivial⟩ (fun w _ => tog_c _ _ _ _ _ w (by omega) (by omega) (by omega) (by omega))) rfl<|VO.l (LO.as (.r rfl)) rfl<|VO.nil ?_)
          refine VE.seqN ?_
          refine VC.seq ?_
          refine VC.seq ?_
          refine VC.reg (VO.l (LO.lda (vs := [_,_]) A406 (.r rfl) (fun _ hw => cells_at hw 5 rfl ⟨_, rfl⟩) rfl) rfl<|VO.l (LO.mv (.r rfl)) rfl<|VO.nil ?_)
          refine VE.seqN ?_
          refine VC.block ?_
          refine VC.perm [1,8,0,2,3,4,5,6,7,9,10,11,12] rfl ?_
          refine VC.loopK (α := Nat × Bool × Int × Int × Int × Int × Int × Int × Int × Int × Int) 2 (fun gx => [(20, .bool gx.2.1), (152, .int .i64 (gx.1 : Nat))]) [(3,_), (4,_), (6,_), (11,_), (18,_), (19,_), (151,_)] (fun gx => [blk b104 (.cells #[.int .i64 gx.2.2.2.1, .int .i64 gx.2.2.2.2.1, .int .i64 gx.2.2.2.2.2.1, .int .i64 gx.2.2.2.2.2.2.1, .int .i64 gx.2.2.2.2.2.2.2.1, .int .i64 gx.2.2.2.2.2.2.2.2.1, .int .i64 gx.2.2.2.2.2.2.2.2.2.1, .int .i64 gx.2.2.2.2.2.2.2.2.2.2] 412), blk b13 (.cells #[.int .i64 2, .int .i64 (pow0 r l).lo, .int .i64 (pow0 r l).hi, .int .i64 0, .int .i64 0, .int .i64 0, .int .i64 0, .int .i64 gx.2.2.1, .int .i64 (ratioS (pow0 r l) (pow1 r l)).lo, .int .i64 (ratioS (pow0 r l) (pow1 r l)).hi, .int .i64 (mtchS r l).lo, .int .i64 (mtchS r l).hi, .int .i64 0, .int .i64 0] 76)]) (fun gx => (gx.1 = 0 ∧ gx.2.1 = (togT (turnL l) r.phase) ∧ gx.2.2.1 = 0 ∧ gx.2.2.2.1 = 0 ∧ gx.2.2.2.2.1 = 0 ∧ gx.2.2.2.2.2.1 = 0 ∧ gx.2.2.2.2.2.2.1 = 0 ∧ gx.2.2.2.2.2.2.2.1 = 0 ∧ gx.2.2.2.2.2.2.2.2.1 = 0 ∧ gx.2.2.2.2.2.2.2.2.2.1 = 0 ∧ gx.2.2.2.2.2.2.2.2.2.2 = 0) ∨ (gx.1 = 1 ∧ gx.2.1 = ((togT (turnL l) r.phase) && (togV (stL t.kind l 0) r.phase)) ∧ gx.2.2.1 = (max 0 (wid (stL t.kind l 0))) ∧ gx.2.2.2.1 = (arcR (stL t.kind l 0)).1 ∧ gx.2.2.2.2.1 = (wid (stL t.kind l 0)) ∧ gx.2.2.2.2.2.1 = (arcSum (stL t.kind l 0)) ∧ gx.2.2.2.2.2.2.1 = ((stL t.kind l 0).length : Int) ∧ gx.2.2.2.2.2.2.2.1 = 0 ∧ gx.2.2.2.2.2.2.2.2.1 = 0 ∧ gx.2.2.2.2.2.2.2.2.2.1 = 0 ∧ gx.2.2.2.2.2.2.2.2.2.2 = 0) ∨ (gx.1 = 2 ∧ gx.2.1 = (((togT (turnL l) r.phase) && (togV (stL t.kind l 0) r.phase)) && (togV (stL t.kind l 1) r.phase)) ∧ gx.2.2.1 = (max (max 0 (wid (stL t.kind l 0))) (wid (stL t.kind l 1))) ∧ gx.2.2.2.1 = (arcR (stL t.kind l 0)).1 ∧ gx.2.2.2.2.1 = (wid (stL t.kind l 0)) ∧ gx.2.2.2.2.2.1 = (arcSum (stL t.kind l 0)) ∧ gx.2.2.2.2.2.2.1 = ((stL t.kind l 0).length : Int) ∧ gx.2.2.2.2.2.2.2.1 = (arcR (stL t.kind l 1)).1 ∧ gx.2.2.2.2.2.2.2.2.1 = (wid (stL t.kind l 1)) ∧ gx.2.2.2.2.2.2.2.2.2.1 = (arcSum (stL t.kind l 1)) ∧ gx.2.2.2.2.2.2.2.2.2.2 = ((stL t.kind l 1).length : Int))) (fun gx => 2 - gx.1) (0, (togT (turnL l) r.phase), 0,0,0,0,0,0,0,0,0) (by exact .inl ⟨rfl, rfl, rfl, rfl, rfl, rfl, rfl, rfl, rfl, rfl, rfl⟩) (.cons rfl (.cons rfl (.cons rfl (.cons rfl (.cons rfl (.cons rfl (.cons rfl (.cons rfl (.cons rfl .nil))))))))) (fun _ h => h) ?_
          rintro ⟨i, gd, spr, x00, x01, x02, x03, x10, x11, x12, x13⟩ hI
          show VC _ _ _ _ _ ([(20, .bool gd), (152, .int .i64 (i : Nat))] ++ _) ([blk b104 (.cells #[.int .i64 x00, .int .i64 x01, .int .i64 x02, .int .i64 x03, .int .i64 x10, .int .i64 x11, .int .i64 x12, .int .i64 x13] 412), blk b13 (.cells #[.int .i64 2, .int .i64 (pow0 r l).lo, .int .i64 (pow0 r l).hi, .int .i64 0, .int .i64 0, .int .i64 0, .int .i64 0, .int .i64 spr, .int .i64 (ratioS (pow0 r l) (pow1 r l)).lo, .int .i64 (ratioS (pow0 r l) (pow1 r l)).hi, .int .i64 (mtchS r l).lo, .int .i64 (mtchS r l).hi, .int .i64 0, .int .i64 0] 76)] ++ _) _ _
          dsimp only at hI
          refine VC.seq ?_
          refine VC.reg (VO.l (LO.lt (.r rfl) (.r rfl)) rfl<|VO.nil ?_)
          refine VE.seqN ?_
          refine VC.seq ?_
          refine VC.cond rfl (fun h4 => ?_) (fun h4 => ?_)
          ·
            refine VC.skip (VE.seqN ?_)
            refine VC.seq ?_
            refine VC.block ?_
            refine VC.seq ?_
            rcases hI with ⟨rfl, rfl, rfl, rfl, rfl, rfl, rfl, rfl, rfl, rfl, rfl⟩ | ⟨rfl, rfl, rfl, rfl, rfl, rfl, rfl, rfl, rfl, rfl, rfl⟩ | ⟨q,_⟩
            ·
              refine VC.reg (VO.l (LO.mv (.r rfl)) rfl<|VO.l (LO.ixv (j := 0) Tryz.underlying406 O112 (.r rfl) (.r rfl) rfl (by decide) rfl) rfl<|VO.l (LO.as (.r rfl)) rfl<|VO.l (LO.as (.r rfl)) rfl<|VO.nil ?_)
              refine VE.seqN ?_
              refine VC.seq ?_
              refine VC.seq ?_
              refine VC.reg (VO.l (LO.mv (.r rfl)) rfl<|VO.l (LO.len S112 (.r rfl) rfl) rfl<|VO.l (LO.gt (.r rfl) (.r rfl)) rfl<|VO.nil ?_)
              refine VE.seqN ?_
              refine VC.cond rfl (fun h158 => ?_) (fun h158 => ?_)
              ·
                refine VC.reg (VO.l (LO.mv (.r rfl)) rfl<|VO.l (LO.mv (.r rfl)) rfl<|VO.l (LO.call (xs := [_]) (vs := [_]) C183 ⟨(.r rfl), trivial⟩ (fun w hw => arcOf_c (stL t.kind l 0) _ _ w (by omega) (RO.of_own hw 4 rfl) s0T)) rfl<|VO.l (LO.ixa (j := 0) (r := 0) Tryz.underlying412 N411 (.r rfl) (.r rfl) rfl (by decide) rfl) rfl<|VO.h0<|HO.st 0 (vs := [_,_,_,_]) (C' := [_,_,_,_,_,_,_,_]) N411 rfl rfl rfl rfl rfl rfl rfl rfl<|VO.nil ?_)
                refine VE.seqN ?_
                refine VC.seq ?_
                refine VC.drawH [[0,1,2,3,4,5,6,7,8,9,10,11,12], [0,2,3,4,5,6,7,8,9,10,11,12]] [some 0, some 0, some 0, some 0, some 0, some 0, some 0, some 0, none] mixed (by kernel_rfl) rfl (LX.l (fun _ hJ => LO.fa (r := 7) F76_3 (.r rfl) rfl) rfl<|LX.l (fun _ hJ => LO.ld O3 (.r rfl) (fun _ hw => cells_at (hJ _ hw) 1 rfl ⟨_, rfl⟩)) rfl<|LX.l (fun _ hJ => LO.mv (.r rfl)) rfl<|LX.l (fun _ hJ => LO.ixa (j := 0) (r := 0) Tryz.underlying412 N411 (.r rfl) (.r rfl) rfl (by decide) rfl) rfl<|LX.l (fun _ hJ => LO.fa (r := 1) F411_1 (.r rfl) rfl) rfl<|LX.l (fun _ hJ => LO.ld O3 (.r rfl) (fun _ hw => cells_at (hJ _ hw) 0 rfl ⟨_, rfl⟩)) rfl<|LX.l (fun _ hJ => LO.max (.r rfl) (.r rfl)) rfl<|LX.l (fun _ hJ => LO.fa (r := 7) F76_3 (.r rfl) rfl) rfl<|LX.s<|LX.nil) (HX.s<|HX.s<|HX.s<|HX.s<|HX.s<|HX.s<|HX.s<|HX.s<|HX.h0<|HO.st 1 (vs := [_]) (C' := [_,_,_,_,_,_,_,_,_,_,_,_,_,_]) N3 rfl rfl rfl rfl rfl rfl rfl rfl<|⟨selJ (L1 := [_,_,_,_,_,_,_,_,_,_,_,_]) [0,2,3,4,5,6,7,8,9,10,11,12] rfl rfl rfl, HX.nil ?_⟩)
                refine VE.seqN ?_
                refine VC.draw mixed (LL.l (LO.mv (.r rfl)) rfl<|LL.l (LO.mv (.r rfl)) rfl<|LL.lg rfl rfl (GD.t _) (fun hg => LO.mv (.r rfl)) rfl<|LL.lg rfl rfl (GD.t _) (fun hg => LO.ixa (j := 0) (r := 0) Tryz.underlying412 N411 (.r rfl) (.g hg rfl) rfl (by decide) rfl) rfl<|LL.lg rfl rfl (GD.t _) (fun hg => LO.lda (vs := [_,_,_,_]) A411 (.g hg rfl) (fun _ hw => cells_at hw 0 rfl ⟨_, rfl⟩) rfl) rfl<|LL.lg rfl rfl (GD.t _) (fun hg => LO.fa (r := 1) F27_1 (.r rfl) rfl) rfl<|LL.lg rfl rfl (GD.t _) (fun hg => LO.ld O3 (.g hg rfl) (fun _ hw => cells_at hw 10 rfl ⟨_, rfl⟩)) rfl<|LL.lg rfl rfl (GD.t _) (fun hg => LO.call (xs := [_,_]) (vs := [_,_]) C184 ⟨(.g hg rfl), (.g hg rfl), trivial⟩ (fun w _ => tog_c _ _ _ _ _ w (by omega) (by omega) (by omega) (by omega))) rfl<|LL.l (LO.pkA (.r rfl) rfl rfl (.r rfl)) rfl<|LL.l (LO.as (.r rfl)) rfl<|LL.nil) (by kernel_rfl) ?_
                refine VE.inN (VE.seqN ?_)
                refine VC.reg (VO.l (LO.add (.r rfl) (.r rfl) (wi (by omega) (by omega))) rfl<|VO.l (LO.mv (.r rfl)) rfl<|VO.nil ?_)
                refine VE.thenN fun a w ha hw => ⟨((0 + 1), ((togT (turnL l) r.phase) && (togV (stL t.kind l 0) r.phase)), (max 0 (wid (stL t.kind l 0))), (arcR (stL t.kind l 0)).1, (wid (stL t.kind l 0)), (arcSum (stL t.kind l 0)), ((stL t.kind l 0).length : Int), 0,0,0,0), (by first | exact .inr (.inl ⟨rfl, rfl, rfl, rfl, rfl, rfl, rfl, rfl, rfl, rfl, rfl⟩) | exact .inr (.inr ⟨rfl, rfl, rfl, rfl, rfl, rfl, rfl, rfl, rfl, rfl, rfl⟩)), (by dsimp only; omega), ha.sub (.cons (by first | exact tgA h158 | exact tgB h158) (.cons rfl (.cons rfl (.cons rfl (.cons rfl (.cons rfl (.cons rfl (.cons rfl (.cons rfl .nil))))))))), (hw).eqL (by dsimp only; first | (rw [wid_pos h158]; rfl) | (rw [wid_neg h158, arc_neg h158, sum_neg h158, len_neg h158]; rfl))⟩
              ·
                refine VC.skip (VE.seqN ?_)
                refine VC.seq ?_
                refine VC.drawH [[0,1,2,3,4,5,6,7,8,9,10,11,12], [0,2,3,4,5,6,7,8,9,10,11,12]] [some 0, some 0, some 0, some 0, some 0, some 0, some 0, some 0, none] mixed (by kernel_rfl) rfl (LX.l (fun _ hJ => LO.fa (r := 7) F76_3 (.r rfl) rfl) rfl<|LX.l (fun _ hJ => LO.ld O3 (.r rfl) (fun _ hw => cells_at (hJ _ hw) 1 rfl ⟨_, rfl⟩)) rfl<|LX.l (fun _ hJ => LO.mv (.r rfl)) rfl<|LX.l (fun _ hJ => LO.ixa (j := 0) (r := 0) Tryz.underlying412 N411 (.r rfl) (.r rfl) rfl (by decide) rfl) rfl<|LX.l (fun _ hJ => LO.fa (r := 1) F411_1 (.r rfl) rfl) rfl<|LX.l (fun _ hJ => LO.ld O3 (.r rfl) (fun _ hw => cells_at (hJ _ hw) 0 rfl ⟨_, rfl⟩)) rfl<|LX.l (fun _ hJ => LO.max (.r rfl) (.r rfl)) rfl<|LX.l (fun _ hJ => LO.fa (r := 7) F76_3 (.r rfl) rfl) rfl<|LX.s<|LX.nil) (HX.s<|HX.s<|HX.s<|HX.s<|HX.s<|HX.s<|HX.s<|HX.s<|HX.h0<|HO.st 1 (vs := [_]) (C' := [_,_,_,_,_,_,_,_,_,_,_,_,_,_]) N3 rfl rfl rfl rfl rfl rfl rfl rfl<|⟨selJ (L1 := [_,_,_,_,_,_,_,_,_,_,_,_]) [0,2,3,4,5,6,7,8,9,10,11,12] rfl rfl rfl, HX.nil ?_⟩)
                refine VE.seqN ?_
                refine VC.draw mixed (LL.l (LO.mv (.r rfl)) rfl<|LL.l (LO.mv (.r rfl)) rfl<|LL.lg rfl rfl (GD.t _) (fun hg => LO.mv (.r rfl)) rfl<|LL.lg rfl rfl (GD.t _) (fun hg => LO.ixa (j := 0) (r := 0) Tryz.underlying412 N411 (.r rfl) (.g hg rfl) rfl (by decide) rfl) rfl<|LL.lg rfl rfl (GD.t _) (fun hg => LO.lda (vs := [_,_,_,_]) A411 (.g hg rfl) (fun _ hw => cells_at hw 0 rfl ⟨_, rfl⟩) rfl) rfl<|LL.lg rfl rfl (GD.t _) (fun hg => LO.fa (r := 1) F27_1 (.r rfl) rfl) rfl<|LL.lg rfl rfl (GD.t _) (fun hg => LO.ld O3 (.g hg rfl) (fun _ hw => cells_at hw 10 rfl ⟨_, rfl⟩)) rfl<|LL.lg rfl rfl (GD.t _) (fun hg => LO.call (xs := [_,_]) (vs := [_,_]) C184 ⟨(.g hg rfl), (.g hg rfl), trivial⟩ (fun w _ => tog_c _ _ _ _ _ w (by omega) (by omega) (by omega) (by omega))) rfl<|LL.l (LO.pkA (.r rfl) rfl rfl (.r rfl)) rfl<|LL.l (LO.as (.r rfl)) rfl<|LL.nil) (by kernel_rfl) ?_
                refine VE.inN (VE.seqN ?_)
                refine VC.reg (VO.l (LO.add (.r rfl) (.r rfl) (wi (by omega) (by omega))) rfl<|VO.l (LO.mv (.r rfl)) rfl<|VO.nil ?_)
                refine VE.thenN fun a w ha hw => ⟨((0 + 1), ((togT (turnL l) r.phase) && (togV (stL t.kind l 0) r.phase)), (max 0 (wid (stL t.kind l 0))), (arcR (stL t.kind l 0)).1, (wid (stL t.kind l 0)), (arcSum (stL t.kind l 0)), ((stL t.kind l 0).length : Int), 0,0,0,0), (by first | exact .inr (.inl ⟨rfl, rfl, rfl, rfl, rfl, rfl, rfl, rfl, rfl, rfl, rfl⟩) | exact .inr (.inr ⟨rfl, rfl, rfl, rfl, rfl, rfl, rfl, rfl, rfl, rfl, rfl⟩)), (by dsimp only; omega), ha.sub (.cons (by first | exact tgA h158 | exact tgB h158) (.cons rfl (.cons rfl (.cons rfl (.cons rfl (.cons rfl (.cons rfl (.cons rfl (.cons rfl .nil))))))))), (hw).eqL (by dsimp only; first | (rw [wid_pos h158]; rfl) | (rw [wid_neg h158, arc_neg h158, sum_neg h158, len_neg h158]; rfl))⟩
            ·
              refine VC.reg (VO.l (LO.mv (.r rfl)) rfl<|VO.l (LO.ixv (j := 1) Tryz.underlying406 O112 (.r rfl) (.r rfl) rfl (by decide) rfl) rfl<|VO.l (LO.as (.r rfl)) rfl<|VO.l (LO.as (.r rfl)) rfl<|VO.nil ?_)
              refine VE.seqN ?_
              refine VC.seq ?_
              refine VC.seq ?_
              refine VC.reg (VO.l (LO.mv (.r rfl)) rfl<|VO.l (LO.len S112 (.r rfl) rfl) rfl<|VO.l (LO.gt (.r rfl) (.r rfl)) rfl<|VO.nil ?_)
              refine VE.seqN ?_
              refine VC.cond rfl (fun h158 => ?_) (fun h158 => ?_)
              ·
                refine VC.reg (VO.l (LO.mv (.r rfl)) rfl<|VO.l (LO.mv (.r rfl)) rfl<|VO.l (LO.call (xs := [_]) (vs := [_]) C183 ⟨(.r rfl), trivial⟩ (fun w hw => arcOf_c (stL t.kind l 1) _ _ w (by omega) (RO.of_own hw 5 rfl) s1T)) rfl<|VO.l (LO.ixa (j := 1) (r := 4) Tryz.underlying412 N411 (.r rfl) (.r rfl) rfl (by decide) rfl) rfl<|VO.h0<|HO.st 0 (vs := [_,_,_,_]) (C' := [_,_,_,_,_,_,_,_]) N411 rfl rfl rfl rfl rfl rfl rfl rfl<|VO.nil ?_)
                refine VE.seqN ?_
                refine VC.seq ?_
                refine VC.drawH [[0,1,2,3,4,5,6,7,8,9,10,11,12], [0,2,3,4,5,6,7,8,9,10,11,12]] [some 0, some 0, some 0, some 0, some 0, some 0, some 0, some 0, none] mixed (by kernel_rfl) rfl (LX.l (fun _ hJ => LO.fa (r := 7) F76_3 (.r rfl) rfl) rfl<|LX.l (fun _ hJ => LO.ld O3 (.r rfl) (fun _ hw => cells_at (hJ _ hw) 1 rfl ⟨_, rfl⟩)) rfl<|LX.l (fun _ hJ => LO.mv (.r rfl)) rfl<|LX.l (fun _ hJ => LO.ixa (j := 1) (r := 4) Tryz.underlying412 N411 (.r rfl) (.r rfl) rfl (by decide) rfl) rfl<|LX.l (fun _ hJ => LO.fa (r := 5) F411_1 (.r rfl) rfl) rfl<|LX.l (fun _ hJ => LO.ld O3 (.r rfl) (fun _ hw => cells_at (hJ _ hw) 0 rfl ⟨_, rfl⟩)) rfl<|LX.l (fun _ hJ => LO.max (.r rfl) (.r rfl)) rfl<|LX.l (fun _ hJ => LO.fa (r := 7) F76_3 (.r rfl) rfl) rfl<|LX.s<|LX.nil) (HX.s<|HX.s<|HX.s<|HX.s<|HX.s<|HX.s<|HX.s<|HX.s<|HX.h0<|HO.st 1 (vs := [_]) (C' := [_,_,_,_,_,_,_,_,_,_,_,_,_,_]) N3 rfl rfl rfl rfl rfl rfl rfl rfl<|⟨selJ (L1 := [_,_,_,_,_,_,_,_,_,_,_,_]) [0,2,3,4,5,6,7,8,9,10,11,12] rfl rfl rfl, HX.nil ?_⟩)
                refine VE.seqN ?_
                refine VC.draw mixed (LL.l (LO.mv (.r rfl)) rfl<|LL.l (LO.mv (.r rfl)) rfl<|LL.lg rfl rfl (GD.t _) (fun hg => LO.mv (.r rfl)) rfl<|LL.lg rfl rfl (GD.t _) (fun hg => LO.ixa (j := 1) (r := 4) Tryz.underlying412 N411 (.r rfl) (.g hg rfl) rfl (by decide) rfl) rfl<|LL.lg rfl rfl (GD.t _) (fun hg => LO.lda (vs := [_,_,_,_]) A411 (.g hg rfl) (fun _ hw => cells_at hw 0 rfl ⟨_, rfl⟩) rfl) rfl<|LL.lg rfl rfl (GD.t _) (fun hg => LO.fa (r := 1) F27_1 (.r rfl) rfl) rfl<|LL.lg rfl rfl (GD.t _) (fun hg => LO.ld O3 (.g hg rfl) (fun _ hw => cells_at hw 10 rfl ⟨_, rfl⟩)) rfl<|LL.lg rfl rfl (GD.t _) (fun hg => LO.call (xs := [_,_]) (vs := [_,_]) C184 ⟨(.g hg rfl), (.g hg rfl), trivial⟩ (fun w _ => tog_c _ _ _ _ _ w (by omega) (by omega) (by omega) (by omega))) rfl<|LL.l (LO.pkA (.r rfl) rfl rfl (.r rfl)) rfl<|LL.l (LO.as (.r rfl)) rfl<|LL.nil) (by kernel_rfl) ?_
                refine VE.inN (VE.seqN ?_)
                refine VC.reg (VO.l (LO.add (.r rfl) (.r rfl) (wi (by omega) (by omega))) rfl<|VO.l (LO.mv (.r rfl)) rfl<|VO.nil ?_)
                refine VE.thenN fun a w ha hw => ⟨((1 + 1), (((togT (turnL l) r.phase) && (togV (stL t.kind l 0) r.phase)) && (togV (stL t.kind l 1) r.phase)), (max (max 0 (wid (stL t.kind l 0))) (wid (stL t.kind l 1))), (arcR (stL t.kind l 0)).1, (wid (stL t.kind l 0)), (arcSum (stL t.kind l 0)), ((stL t.kind l 0).length : Int), (arcR (stL t.kind l 1)).1, (wid (stL t.kind l 1)), (arcSum (stL t.kind l 1)), ((stL t.kind l 1).length : Int)), (by first | exact .inr (.inl ⟨rfl, rfl, rfl, rfl, rfl, rfl, rfl, rfl, rfl, rfl, rfl⟩) | exact .inr (.inr ⟨rfl, rfl, rfl, rfl, rfl, rfl, rfl, rfl, rfl, rfl, rfl⟩)), (by dsimp only; omega), ha.sub (.cons (by first | exact tgA h158 | exact tgB h158) (.cons rfl (.cons rfl (.cons rfl (.cons rfl (.cons rfl (.cons rfl (.cons rfl (.cons rfl .nil))))))))), (hw).eqL (by dsimp only; first | (rw [wid_pos h158]; rfl) | (rw [wid_neg h158, arc_neg h158, sum_neg h158, len_neg h158]; rfl))⟩
              ·
                refine VC.skip (VE.seqN ?_)
                refine VC.seq ?_
                refine VC.drawH [[0,1,2,3,4,5,6,7,8,9,10,11,12], [0,2,3,4,5,6,7,8,9,10,11,12]] [some 0, some 0, some 0, some 0, some 0, some 0, some 0, some 0, none] mixed (by kernel_rfl) rfl (LX.l (fun _ hJ => LO.fa (r := 7) F76_3 (.r rfl) rfl) rfl<|LX.l (fun _ hJ => LO.ld O3 (.r rfl) (fun _ hw => cells_at (hJ _ hw) 1 rfl ⟨_, rfl⟩)) rfl<|LX.l (fun _ hJ => LO.mv (.r rfl)) rfl<|LX.l (fun _ hJ => LO.ixa (j := 1) (r := 4) Tryz.underlying412 N411 (.r rfl) (.r rfl) rfl (by decide) rfl) rfl<|LX.l (fun _ hJ => LO.fa (r := 5) F411_1 (.r rfl) rfl) rfl<|LX.l (fun _ hJ => LO.ld O3 (.r rfl) (fun _ hw => cells_at (hJ _ hw) 0 rfl ⟨_, rfl⟩)) rfl<|LX.l (fun _ hJ => LO.max (.r rfl) (.r rfl)) rfl<|LX.l (fun _ hJ => LO.fa (r := 7) F76_3 (.r rfl) rfl) rfl<|LX.s<|LX.nil) (HX.s<|HX.s<|HX.s<|HX.s<|HX.s<|HX.s<|HX.s<|HX.s<|HX.h0<|HO.st 1 (vs := [_]) (C' := [_,_,_,_,_,_,_,_,_,_,_,_,_,_]) N3 rfl rfl rfl rfl rfl rfl rfl rfl<|⟨selJ (L1 := [_,_,_,_,_,_,_,_,_,_,_,_]) [0,2,3,4,5,6,7,8,9,10,11,12] rfl rfl rfl, HX.nil ?_⟩)
                refine VE.seqN ?_
                refine VC.draw mixed (LL.l (LO.mv (.r rfl)) rfl<|LL.l (LO.mv (.r rfl)) rfl<|LL.lg rfl rfl (GD.t _) (fun hg => LO.mv (.r rfl)) rfl<|LL.lg rfl rfl (GD.t _) (fun hg => LO.ixa (j := 1) (r := 4) Tryz.underlying412 N411 (.r rfl) (.g hg rfl) rfl (by decide) rfl) rfl<|LL.lg rfl rfl (GD.t _) (fun hg => LO.lda (vs := [_,_,_,_]) A411 (.g hg rfl) (fun _ hw => cells_at hw 0 rfl ⟨_, rfl⟩) rfl) rfl<|LL.lg rfl rfl (GD.t _) (fun hg => LO.fa (r := 1) F27_1 (.r rfl) rfl) rfl<|LL.lg rfl rfl (GD.t _) (fun hg => LO.ld O3 (.g hg rfl) (fun _ hw => cells_at hw 10 rfl ⟨_, rfl⟩)) rfl<|LL.lg rfl rfl (GD.t _) (fun hg => LO.call (xs := [_,_]) (vs := [_,_]) C184 ⟨(.g hg rfl), (.g hg rfl), trivial⟩ (fun w _ => tog_c _ _ _ _ _ w (by omega) (by omega) (by omega) (by omega))) rfl<|LL.l (LO.pkA (.r rfl) rfl rfl (.r rfl)) rfl<|LL.l (LO.as (.r rfl)) rfl<|LL.nil) (by kernel_rfl) ?_
                refine VE.inN (VE.seqN ?_)
                refine VC.reg (VO.l (LO.add (.r rfl) (.r rfl) (wi (by omega) (by omega))) rfl<|VO.l (LO.mv (.r rfl)) rfl<|VO.nil ?_)
                refine VE.thenN fun a w ha hw => ⟨((1 + 1), (((togT (turnL l) r.phase) && (togV (stL t.kind l 0) r.phase)) && (togV (stL t.kind l 1) r.phase)), (max (max 0 (wid (stL t.kind l 0))) (wid (stL t.kind l 1))), (arcR (stL t.kind l 0)).1, (wid (stL t.kind l 0)), (arcSum (stL t.kind l 0)), ((stL t.kind l 0).length : Int), (arcR (stL t.kind l 1)).1, (wid (stL t.kind l 1)), (arcSum (stL t.kind l 1)), ((stL t.kind l 1).length : Int)), (by first | exact .inr (.inl ⟨rfl, rfl, rfl, rfl, rfl, rfl, rfl, rfl, rfl, rfl, rfl⟩) | exact .inr (.inr ⟨rfl, rfl, rfl, rfl, rfl, rfl, rfl, rfl, rfl, rfl, rfl⟩)), (by dsimp only; omega), ha.sub (.cons (by first | exact tgA h158 | exact tgB h158) (.cons rfl (.cons rfl (.cons rfl (.cons rfl (.cons rfl (.cons rfl (.cons rfl (.cons rfl .nil))))))))), (hw).eqL (by dsimp only; first | (rw [wid_pos h158]; rfl) | (rw [wid_neg h158, arc_neg h158, sum_neg h158, len_neg h158]; rfl))⟩
            ·
              (exfalso; omega)
          ·
            refine VC.exit (VE.thenX (VE.thenX (VE.inX (VE.seqN ?_))))
            refine VC.seq ?_
            refine VC.seq ?_
            rcases hI with ⟨q,_⟩ | ⟨q,_⟩ | ⟨rfl, rfl, rfl, rfl, rfl, rfl, rfl, rfl, rfl, rfl, rfl⟩
            · omega
            · omega
            refine VC.reg (VO.l (LO.mv (.r rfl)) rfl<|VO.l (LO.not (.r rfl)) rfl<|VO.nil ?_)
            refine VE.seqN ?_
            refine VC.cond rfl (fun h182 => ?_) (fun h182 => ?_)
            ·
              refine VC.seq ?_
              refine VC.reg (VO.l (LO.lda (vs := [_,_,_,_,_,_,_,_,_,_,_,_,_,_]) A76 (.r rfl) (fun _ hw => cells_at hw 1 rfl ⟨_, rfl⟩) rfl) rfl<|VO.h0<|HO.st 9 (vs := [_,_,_,_,_,_,_,_,_,_,_,_,_,_]) (C' := [_,_,_,_,_,_,_,_,_,_,_,_,_,_]) N76 rfl rfl rfl rfl rfl rfl rfl rfl<|VO.nil ?_)
              refine VE.seqN ?_
              refine VC.ret (VE.thenR (VE.resD 12 (vs := [_]) rfl rfl rfl ⟨RV.agg (vs := [_,_,_,_,_,_,_,_,_,_,_,_,_,_]) A76 rfl (cells_blk 9 rfl ⟨_, rfl⟩) rfl, trivial⟩ (fun w hw => ?_)))
              refine ⟨?_, hw.nil⟩
              simp only [resV]
              first | (rw [hearX, if_pos hz]; rfl) | (rw [hearX, if_neg hz, if_pos (fun q => h182 (good_iff.1 q))]; rfl) | (rw [hearX, if_neg hz, if_neg (fun q => q (good_iff.2 (Classical.not_not.1 h182))), meanS_eq, meanS_eq, meanS_eq, ← tlen]; rfl)
            ·
              refine VC.skip (VE.seqN ?_)
              refine VC.seq ?_
              have z0 := prod_bd (x := 2 * r.phase) (y := ((turnL l).length : Int)) (A := 8192) (B := 64) (by omega) (by omega) (by omega) (by omega)
              have z1 := prod_bd (x := 2 * r.phase) (y := ((stL t.kind l 0).length : Int)) (A := 8192) (B := 64) (by omega) (by omega) (by omega) (by omega)
              have z2 := prod_bd (x := 2 * r.phase) (y := ((stL t.kind l 1).length : Int)) (A := 8192) (B := 64) (by omega) (by omega) (by omega) (by omega)
              refine VC.reg (VO.l (LO.fa (r := 0) F76_0 (.r rfl) rfl) rfl<|VO.h0<|HO.st 1 (vs := [_]) (C' := [_,_,_,_,_,_,_,_,_,_,_,_,_,_]) N3 rfl rfl rfl rfl rfl rfl rfl rfl<|VO.nil ?_)
              refine VE.seqN ?_
              refine VC.seq ?_
              refine VC.reg (VO.l (LO.lda (vs := [_,_,_,_]) A411 (.r rfl) (fun _ hw => cells_at hw 2 rfl ⟨_, rfl⟩) rfl) rfl<|VO.l (LO.fa (r := 1) F27_1 (.r rfl) rfl) rfl<|VO.l (LO.ld O3 (.r rfl) (fun _ hw => cells_at hw 10 rfl ⟨_, rfl⟩)) rfl<|VO.l (LO.mul (.r rfl) (.r rfl) (wi (by omega) (by omega))) rfl<|VO.l (LO.fa (r := 3) F411_3 (.r rfl) rfl) rfl<|VO.l (LO.ld O3 (.r rfl) (fun _ hw => cells_at hw 2 rfl ⟨_, rfl⟩)) rfl<|VO.l (LO.mul (.r rfl) (.r rfl) (wi (by omega) (by omega))) rfl<|VO.l (LO.call (xs := [_,_]) (vs := [_,_]) C185 ⟨(.r rfl), (.r rfl), trivial⟩ (fun w _ => mean_c _ _ _ _ _ w (by omega) (by omega) (by omega) (by omega) (by omega) (by omega))) rfl<|VO.l (LO.fa (r := 12) F76_6 (.r rfl) rfl) rfl<|VO.h0<|HO.st 1 (vs := [_,_]) (C' := [_,_,_,_,_,_,_,_,_,_,_,_,_,_]) N25 rfl rfl rfl rfl rfl rfl rfl rfl<|VO.nil ?_)
              refine VE.seqN ?_
              refine VC.seq ?_
              refine VC.seq ?_
              refine VC.reg (VO.l (LO.lda (vs := [_,_,_,_,_,_,_,_]) A412 (.r rfl) (fun _ hw => cells_at hw 0 rfl ⟨_, rfl⟩) rfl) rfl<|VO.l (LO.mv (.r rfl)) rfl<|VO.nil ?_)
              refine VE.seqN ?_
              refine VC.block ?_
              refine VC.perm [1,0,2,3,4,5,6,7,8,9,10,11,12] rfl ?_
              refine VC.loopK (α := Nat × Int × Int × Int × Int) 1 (fun gx => [(195, .int .i64 (gx.1 : Nat))]) [(3,_), (4,_), (6,_), (11,_), (194,_)] (fun gx => [blk b13 (.cells #[.int .i64 3, .int .i64 (pow0 r l).lo, .int .i64 (pow0 r l).hi, .int .i64 gx.2.1, .int .i64 gx.2.2.1, .int .i64 gx.2.2.2.1, .int .i64 gx.2.2.2.2, .int .i64 (max (max 0 (wid (stL t.kind l 0))) (wid (stL t.kind l 1))), .int .i64 (ratioS (pow0 r l) (pow1 r l)).lo, .int .i64 (ratioS (pow0 r l) (pow1 r l)).hi, .int .i64 (mtchS r l).lo, .int .i64 (mtchS r l).hi, .int .i64 (meanR (arcSum (turnL l)) ((turnL l).length : Int) (2 * r.phase * ((turnL l).length : Int))).lo, .int .i64 (meanR (arcSum (turnL l)) ((turnL l).length : Int) (2 * r.phase * ((turnL l).length : Int))).hi] 76)]) (fun gx => (gx.1 = 0 ∧ gx.2.1 = 0 ∧ gx.2.2.1 = 0 ∧ gx.2.2.2.1 = 0 ∧ gx.2.2.2.2 = 0) ∨ (gx.1 = 1 ∧ gx.2.1 = (meanR (arcSum (stL t.kind l 0)) ((stL t.kind l 0).length : Int) (slk t r (stL t.kind l 0))).lo ∧ gx.2.2.1 = (meanR (arcSum (stL t.kind l 0)) ((stL t.kind l 0).length : Int) (slk t r (stL t.kind l 0))).hi ∧ gx.2.2.2.1 = 0 ∧ gx.2.2.2.2 = 0) ∨ (gx.1 = 2 ∧ gx.2.1 = (meanR (arcSum (stL t.kind l 0)) ((stL t.kind l 0).length : Int) (slk t r (stL t.kind l 0))).lo ∧ gx.2.2.1 = (meanR (arcSum (stL t.kind l 0)) ((stL t.kind l 0).length : Int) (slk t r (stL t.kind l 0))).hi ∧ gx.2.2.2.1 = (meanR (arcSum (stL t.kind l 1)) ((stL t.kind l 1).length : Int) (slk t r (stL t.kind l 1))).lo ∧ gx.2.2.2.2 = (meanR (arcSum (stL t.kind l 1)) ((stL t.kind l 1).length : Int) (slk t r (stL t.kind l 1))).hi)) (fun gx => 2 - gx.1) (0,0,0,0,0) (by exact .inl ⟨rfl, rfl, rfl, rfl, rfl⟩) (.cons rfl (.cons rfl (.cons rfl (.cons rfl (.cons rfl (.cons rfl .nil)))))) (fun _ h => h) ?_
              rintro ⟨i, y0, y1, y2, y3⟩ hI
              show VC _ _ _ _ _ ([(195, .int .i64 (i : Nat))] ++ _) ([blk b13 (.cells #[.int .i64 3, .int .i64 (pow0 r l).lo, .int .i64 (pow0 r l).hi, .int .i64 y0, .int .i64 y1, .int .i64 y2, .int .i64 y3, .int .i64 (max (max 0 (wid (stL t.kind l 0))) (wid (stL t.kind l 1))), .int .i64 (ratioS (pow0 r l) (pow1 r l)).lo, .int .i64 (ratioS (pow0 r l) (pow1 r l)).hi, .int .i64 (mtchS r l).lo, .int .i64 (mtchS r l).hi, .int .i64 (meanR (arcSum (turnL l)) ((turnL l).length : Int) (2 * r.phase * ((turnL l).length : Int))).lo, .int .i64 (meanR (arcSum (turnL l)) ((turnL l).length : Int) (2 * r.phase * ((turnL l).length : Int))).hi] 76)] ++ _) _ _
              dsimp only at hI
              refine VC.seq ?_
              refine VC.reg (VO.l (LO.lt (.r rfl) (.r rfl)) rfl<|VO.nil ?_)
              refine VE.seqN ?_
              refine VC.seq ?_
              refine VC.cond rfl (fun h8 => ?_) (fun h8 => ?_)
              ·
                refine VC.skip (VE.seqN ?_)
                refine VC.seq ?_
                refine VC.block ?_
                refine VC.seq ?_
                rcases hI with ⟨rfl, rfl, rfl, rfl, rfl⟩ | ⟨rfl, rfl, rfl, rfl, rfl⟩ | ⟨q,_⟩
                ·
                  refine VC.reg (VO.l (LO.mv (.r rfl)) rfl<|VO.l (LO.ixg (j := 0) (vs := [_,_,_,_]) Tryz.underlying412 A411 (.r rfl) (.r rfl) rfl (by decide) rfl) rfl<|VO.h rfl<|HO.alloc (C := #[_,_,_,_]) Z411 rfl fun b120 => VO.l (LO.as (.r rfl)) rfl<|VO.h0<|HO.st 0 (vs := [_,_,_,_]) (C' := [_,_,_,_]) N411 rfl rfl rfl rfl rfl rfl rfl rfl<|VO.nil ?_)
                  refine VE.seqN ?_
                  refine VC.seq ?_
                  refine VC.reg (VO.l (LO.fa (r := 1) F27_1 (.r rfl) rfl) rfl<|VO.l (LO.ld O3 (.r rfl) (fun _ hw => cells_at hw 11 rfl ⟨_, rfl⟩)) rfl<|VO.l (LO.mul (.r rfl) (.r rfl) (wi (by omega) (by omega))) rfl<|VO.l (LO.as (.r rfl)) rfl<|VO.nil ?_)
                  refine VE.seqN ?_
                  refine VC.seq ?_
                  refine VC.seq ?_
                  refine VC.reg (VO.l (LO.fa (r := 1) F23_1 (.r rfl) rfl) rfl<|VO.l (LO.ld O3 (.r rfl) (fun _ hw => cells_at hw 12 rfl ⟨_, rfl⟩)) rfl<|VO.l (LO.eq (.r rfl) (.r rfl)) rfl<|VO.nil ?_)
                  refine VE.seqN ?_
                  refine VC.cond rfl (fun h204 => ?_) (fun h204 => ?_)
                  ·
                    refine VC.reg (VO.l (LO.mv (.r rfl)) rfl<|VO.l (LO.fa (r := 3) F411_3 (.r rfl) rfl) rfl<|VO.l (LO.ld O3 (.r rfl) (fun _ hw => cells_at hw 0 rfl ⟨_, rfl⟩)) rfl<|VO.l (LO.mul (.r rfl) (.r rfl) (wi (by omega) (by omega))) rfl<|VO.l (LO.as (.r rfl)) rfl<|VO.nil ?_)
                    refine VE.seqN ?_
                    refine VC.reg (VO.l (LO.mv (.r rfl)) rfl<|VO.l (LO.lda (vs := [_,_,_,_]) A411 (.r rfl) (fun _ hw => cells_at hw 0 rfl ⟨_, rfl⟩) rfl) rfl<|VO.l (LO.mv (.r rfl)) rfl<|VO.l (LO.call (xs := [_,_]) (vs := [_,_]) C185 ⟨(.r rfl), (.r rfl), trivial⟩ (fun w _ => mean_c _ _ _ _ _ w (by omega) (by omega) (by omega) (by omega) (by omega) (by omega))) rfl<|VO.l (LO.fa (r := 3) F76_2 (.r rfl) rfl) rfl<|VO.l (LO.ixa (j := 0) (r := 3) Tryz.underlying74 N25 (.r rfl) (.r rfl) rfl (by decide) rfl) rfl<|VO.h0<|HO.st 1 (vs := [_,_]) (C' := [_,_,_,_,_,_,_,_,_,_,_,_,_,_]) N25 rfl rfl rfl rfl rfl rfl rfl rfl<|VO.nil ?_)
                    refine VE.inN (VE.seqN ?_)
                    refine VC.reg (VO.l (LO.add (.r rfl) (.r rfl) (wi (by omega) (by omega))) rfl<|VO.l (LO.mv (.r rfl)) rfl<|VO.nil ?_)
                    refine VE.thenN fun a w ha hw => ⟨((0 + 1), (meanR (arcSum (stL t.kind l 0)) ((stL t.kind l 0).length : Int) (slk t r (stL t.kind l 0))).lo, (meanR (arcSum (stL t.kind l 0)) ((stL t.kind l 0).length : Int) (slk t r (stL t.kind l 0))).hi, 0,0), (by first | exact .inr (.inl ⟨rfl, rfl, rfl, rfl, rfl⟩) | exact .inr (.inr ⟨rfl, rfl, rfl, rfl, rfl⟩)), (by dsimp only; omega), ha.sub (.cons rfl (.cons rfl (.cons rfl (.cons rfl (.cons rfl (.cons rfl .nil)))))), (hw.sel [1,2,3,4,5,6,7,8,9,10,11,12,13] rfl).eqL (by dsimp only; first | (simp only [slk_3 h204] <;> rfl) | (simp only [slk_n h204] <;> rfl))⟩
                  ·
                    refine VC.skip (VE.seqN ?_)
                    refine VC.reg (VO.l (LO.mv (.r rfl)) rfl<|VO.l (LO.lda (vs := [_,_,_,_]) A411 (.r rfl) (fun _ hw => cells_at hw 0 rfl ⟨_, rfl⟩) rfl) rfl<|VO.l (LO.mv (.r rfl)) rfl<|VO.l (LO.call (xs := [_,_]) (vs := [_,_]) C185 ⟨(.r rfl), (.r rfl), trivial⟩ (fun w _ => mean_c _ _ _ _ _ w (by omega) (by omega) (by omega) (by omega) (by omega) (by omega))) rfl<|VO.l (LO.fa (r := 3) F76_2 (.r rfl) rfl) rfl<|VO.l (LO.ixa (j := 0) (r := 3) Tryz.underlying74 N25 (.r rfl) (.r rfl) rfl (by decide) rfl) rfl<|VO.h0<|HO.st 1 (vs := [_,_]) (C' := [_,_,_,_,_,_,_,_,_,_,_,_,_,_]) N25 rfl rfl rfl rfl rfl rfl rfl rfl<|VO.nil ?_)
                    refine VE.inN (VE.seqN ?_)
                    refine VC.reg (VO.l (LO.add (.r rfl) (.r rfl) (wi (by omega) (by omega))) rfl<|VO.l (LO.mv (.r rfl)) rfl<|VO.nil ?_)
                    refine VE.thenN fun a w ha hw => ⟨((0 + 1), (meanR (arcSum (stL t.kind l 0)) ((stL t.kind l 0).length : Int) (slk t r (stL t.kind l 0))).lo, (meanR (arcSum (stL t.kind l 0)) ((stL t.kind l 0).length : Int) (slk t r (stL t.kind l 0))).hi, 0,0), (by first | exact .inr (.inl ⟨rfl, rfl, rfl, rfl, rfl⟩) | exact .inr (.inr ⟨rfl, rfl, rfl, rfl, rfl⟩)), (by dsimp only; omega), ha.sub (.cons rfl (.cons rfl (.cons rfl (.cons rfl (.cons rfl (.cons rfl .nil)))))), (hw.sel [1,2,3,4,5,6,7,8,9,10,11,12,13] rfl).eqL (by dsimp only; first | (simp only [slk_3 h204] <;> rfl) | (simp only [slk_n h204] <;> rfl))⟩
                ·
                  refine VC.reg (VO.l (LO.mv (.r rfl)) rfl<|VO.l (LO.ixg (j := 1) (vs := [_,_,_,_]) Tryz.underlying412 A411 (.r rfl) (.r rfl) rfl (by decide) rfl) rfl<|VO.h rfl<|HO.alloc (C := #[_,_,_,_]) Z411 rfl fun b124 => VO.l (LO.as (.r rfl)) rfl<|VO.h0<|HO.st 0 (vs := [_,_,_,_]) (C' := [_,_,_,_]) N411 rfl rfl rfl rfl rfl rfl rfl rfl<|VO.nil ?_)
                  refine VE.seqN ?_
                  refine VC.seq ?_
                  refine VC.reg (VO.l (LO.fa (r := 1) F27_1 (.r rfl) rfl) rfl<|VO.l (LO.ld O3 (.r rfl) (fun _ hw => cells_at hw 11 rfl ⟨_, rfl⟩)) rfl<|VO.l (LO.mul (.r rfl) (.r rfl) (wi (by omega) (by omega))) rfl<|VO.l (LO.as (.r rfl)) rfl<|VO.nil ?_)
                  refine VE.seqN ?_
                  refine VC.seq ?_
                  refine VC.seq ?_
                  refine VC.reg (VO.l (LO.fa (r := 1) F23_1 (.r rfl) rfl) rfl<|VO.l (LO.ld O3 (.r rfl) (fun _ hw => cells_at hw 12 rfl ⟨_, rfl⟩)) rfl<|VO.l (LO.eq (.r rfl) (.r rfl)) rfl<|VO.nil ?_)
                  refine VE.seqN ?_
                  refine VC.cond rfl (fun h204 => ?_) (fun h204 => ?_)
                  ·
                    refine VC.reg (VO.l (LO.mv (.r rfl)) rfl<|VO.l (LO.fa (r := 3) F411_3 (.r rfl) rfl) rfl<|VO.l (LO.ld O3 (.r rfl) (fun _ hw => cells_at hw 0 rfl ⟨_, rfl⟩)) rfl<|VO.l (LO.mul (.r rfl) (.r rfl) (wi (by omega) (by omega))) rfl<|VO.l (LO.as (.r rfl)) rfl<|VO.nil ?_)
                    refine VE.seqN ?_
                    refine VC.reg (VO.l (LO.mv (.r rfl)) rfl<|VO.l (LO.lda (vs := [_,_,_,_]) A411 (.r rfl) (fun _ hw => cells_at hw 0 rfl ⟨_, rfl⟩) rfl) rfl<|VO.l (LO.mv (.r rfl)) rfl<|VO.l (LO.call (xs := [_,_]) (vs := [_,_]) C185 ⟨(.r rfl), (.r rfl), trivial⟩ (fun w _ => mean_c _ _ _ _ _ w (by omega) (by omega) (by omega) (by omega) (by omega) (by omega))) rfl<|VO.l (LO.fa (r := 3) F76_2 (.r rfl) rfl) rfl<|VO.l (LO.ixa (j := 1) (r := 5) Tryz.underlying74 N25 (.r rfl) (.r rfl) rfl (by decide) rfl) rfl<|VO.h0<|HO.st 1 (vs := [_,_]) (C' := [_,_,_,_,_,_,_,_,_,_,_,_,_,_]) N25 rfl rfl rfl rfl rfl rfl rfl rfl<|VO.nil ?_)
                    refine VE.inN (VE.seqN ?_)
                    refine VC.reg (VO.l (LO.add (.r rfl) (.r rfl) (wi (by omega) (by omega))) rfl<|VO.l (LO.mv (.r rfl)) rfl<|VO.nil ?_)
                    refine VE.thenN fun a w ha hw => ⟨((1 + 1), (meanR (arcSum (stL t.kind l 0)) ((stL t.kind l 0).length : Int) (slk t r (stL t.kind l 0))).lo, (meanR (arcSum (stL t.kind l 0)) ((stL t.kind l 0).length : Int) (slk t r (stL t.kind l 0))).hi, (meanR (arcSum (stL t.kind l 1)) ((stL t.kind l 1).length : Int) (slk t r (stL t.kind l 1))).lo, (meanR (arcSum (stL t.kind l 1)) ((stL t.kind l 1).length : Int) (slk t r (stL t.kind l 1))).hi), (by first | exact .inr (.inl ⟨rfl, rfl, rfl, rfl, rfl⟩) | exact .inr (.inr ⟨rfl, rfl, rfl, rfl, rfl⟩)), (by dsimp only; omega), ha.sub (.cons rfl (.cons rfl (.cons rfl (.cons rfl (.cons rfl (.cons rfl .nil)))))), (hw.sel [1,2,3,4,5,6,7,8,9,10,11,12,13] rfl).eqL (by dsimp only; first | (simp only [slk_3 h204] <;> rfl) | (simp only [slk_n h204] <;> rfl))⟩
                  ·
                    refine VC.skip (VE.seqN ?_)
                    refine VC.reg (VO.l (LO.mv (.r rfl)) rfl<|VO.l (LO.lda (vs := [_,_,_,_]) A411 (.r rfl) (fun _ hw => cells_at hw 0 rfl ⟨_, rfl⟩) rfl) rfl<|VO.l (LO.mv (.r rfl)) rfl<|VO.l (LO.call (xs := [_,_]) (vs := [_,_]) C185 ⟨(.r rfl), (.r rfl), trivial⟩ (fun w _ => mean_c _ _ _ _ _ w (by omega) (by omega) (by omega) (by omega) (by omega) (by omega))) rfl<|VO.l (LO.fa (r := 3) F76_2 (.r rfl) rfl) rfl<|VO.l (LO.ixa (j := 1) (r := 5) Tryz.underlying74 N25 (.r rfl) (.r rfl) rfl (by decide) rfl) rfl<|VO.h0<|HO.st 1 (vs := [_,_]) (C' := [_,_,_,_,_,_,_,_,_,_,_,_,_,_]) N25 rfl rfl rfl rfl rfl rfl rfl rfl<|VO.nil ?_)
                    refine VE.inN (VE.seqN ?_)
                    refine VC.reg (VO.l (LO.add (.r rfl) (.r rfl) (wi (by omega) (by omega))) rfl<|VO.l (LO.mv (.r rfl)) rfl<|VO.nil ?_)
                    refine VE.thenN fun a w ha hw => ⟨((1 + 1), (meanR (arcSum (stL t.kind l 0)) ((stL t.kind l 0).length : Int) (slk t r (stL t.kind l 0))).lo, (meanR (arcSum (stL t.kind l 0)) ((stL t.kind l 0).length : Int) (slk t r (stL t.kind l 0))).hi, (meanR (arcSum (stL t.kind l 1)) ((stL t.kind l 1).length : Int) (slk t r (stL t.kind l 1))).lo, (meanR (arcSum (stL t.kind l 1)) ((stL t.kind l 1).length : Int) (slk t r (stL t.kind l 1))).hi), (by first | exact .inr (.inl ⟨rfl, rfl, rfl, rfl, rfl⟩) | exact .inr (.inr ⟨rfl, rfl, rfl, rfl, rfl⟩)), (by dsimp only; omega), ha.sub (.cons rfl (.cons rfl (.cons rfl (.cons rfl (.cons rfl (.cons rfl .nil)))))), (hw.sel [1,2,3,4,5,6,7,8,9,10,11,12,13] rfl).eqL (by dsimp only; first | (simp only [slk_3 h204] <;> rfl) | (simp only [slk_n h204] <;> rfl))⟩
                ·
                  (exfalso; omega)
              ·
                refine VC.exit (VE.thenX (VE.thenX (VE.inX (VE.seqN ?_))))
                refine VC.seq ?_
                rcases hI with ⟨q,_⟩ | ⟨q,_⟩ | ⟨rfl, rfl, rfl, rfl, rfl⟩
                · omega
                · omega
                refine VC.reg (VO.l (LO.lda (vs := [_,_,_,_,_,_,_,_,_,_,_,_,_,_]) A76 (.r rfl) (fun _ hw => cells_at hw 0 rfl ⟨_, rfl⟩) rfl) rfl<|VO.h0<|HO.st 9 (vs := [_,_,_,_,_,_,_,_,_,_,_,_,_,_]) (C' := [_,_,_,_,_,_,_,_,_,_,_,_,_,_]) N76 rfl rfl rfl rfl rfl rfl rfl rfl<|VO.nil ?_)
                refine VE.seqN ?_
                refine VC.ret (VE.resD 12 (vs := [_]) rfl rfl rfl ⟨RV.agg (vs := [_,_,_,_,_,_,_,_,_,_,_,_,_,_]) A76 rfl (cells_blk 9 rfl ⟨_, rfl⟩) rfl, trivial⟩ (fun w hw => ?_))
                refine ⟨?_, hw.nil⟩
                simp only [resV]
                first | (rw [hearX, if_pos hz]; rfl) | (rw [hearX, if_neg hz, if_pos (fun q => h182 (good_iff.1 q))]; rfl) | (rw [hearX, if_neg hz, if_neg (fun q => q (good_iff.2 (Classical.not_not.1 h182))), meanS_eq, meanS_eq, meanS_eq, ← tlen]; rfl)
      ·
        intro D c n x hn hI
        exact hI.elim

end Go.Proofs.YtffbohecdocajaaGreat

namespace Go.Proofs.YtffbohecdocajaaGreat
open Go.SL Go.Proofs Go.Pulse
set_option linter.unusedVariables false

theorem C45 : IsFn Tryz.prog 45 := ⟨_, Tryz.func45, by decide, rfl⟩
theorem A27 : IsAgg Tryz.prog 27 4 := ⟨⟨_, Tryz.underlying27, rfl⟩, by kernel_rfl⟩
theorem C46 : IsFn Tryz.prog 46 := ⟨_, Tryz.func46, by decide, rfl⟩
theorem C113 : IsFn Tryz.prog 113 := ⟨_, Tryz.func113, by decide, rfl⟩
theorem Z23 : ZeroOf Tryz.prog 23 (.agg #[.int .i64 0, .int .i64 0, .int .i64 0, .int .i64 0, .int .i64 0]) := by unfold ZeroOf; kernel_rfl
theorem B23 : Builds Tryz.prog 23 [(0,1), (1,1), (2,1), (3,1), (4,1)] [.int .i64 0, .int .i64 0, .int .i64 0, .int .i64 0, .int .i64 0] := Builds.mk fun _ => by kernel_rfl
theorem N23 : (Tryz.prog.info? 23).map (·.size) = some 5 := by kernel_rfl
theorem B50 : Builds Tryz.prog 50 [(0,1), (1,1), (2,1), (3,1)] [.int .i64 0, .int .i64 0, .int .i64 0, .int .i64 0] := Builds.mk fun _ => by kernel_rfl


theorem train_of {t : Train} (h : ¬ ¬ trainE t = 0) : kndOk t.kind ∧ trainOk t := by
  have h := Classical.not_not.1 h
  unfold trainE at h
  by_cases k : kndOk t.kind
  · rw [if_pos k] at h
    by_cases q : trainOk t
    · exact ⟨k, q⟩
    · rw [if_neg q] at h; exact absurd h (by decide)
  · rw [if_neg k] at h; exact absurd h (by decide)
theorem recv_of {r : Recv} (h : ¬ ¬ recvE r = 0) : recvOk r := by
  have h := Classical.not_not.1 h
  unfold recvE at h
  by_cases q : recvOk r
  · exact q
  · rw [if_neg q] at h; exact absurd h (by decide)
theorem all_smp {l : List Sample} {j : Nat} (hz : ∀ k, k < j → smpOk (l.getD k zSm)) (hj : l.length ≤ j) : ∀ x ∈ l, smpOk x := fun x hx => by
  obtain ⟨k, hk, rfl⟩ := mem_getD (d := zSm) hx
  exact hz k (by omega)
section
variable {t : Train} {r : Recv} {l : List Sample}
theorem hE1 (h : ¬ trainE t = 0) : hearE t r l = trainE t := if_pos h
theorem hE2 (h : ¬ ¬ trainE t = 0) (k : ¬ recvE r = 0) : hearE t r l = recvE r := by unfold hearE; rw [if_neg h, if_pos k]
theorem hE3 (h : ¬ ¬ trainE t = 0) (k : ¬ ¬ recvE r = 0) (q : ¬ (l.length : Int) = t.count) : hearE t r l = 11 := by unfold hearE; rw [if_neg h, if_neg k, if_pos q]
theorem hE4 {j : Nat} (h : ¬ ¬ trainE t = 0) (k : ¬ ¬ recvE r = 0) (q : ¬ ¬ (l.length : Int) = t.count) (hj : j < l.length) (hb : ¬ smpOk (l.getD j zSm)) : hearE t r l = 3 := by
  unfold hearE; rw [if_neg h, if_neg k, if_neg q, if_neg (fun a => hb (a _ (getD_mem hj)))]
theorem hE5 {j : Nat} (h : ¬ ¬ trainE t = 0) (k : ¬ ¬ recvE r = 0) (q : ¬ ¬ (l.length : Int) = t.count) (hz : ∀ k, k < j → smpOk (l.getD k zSm)) (hj : l.length ≤ j) : hearE t r l = 0 := by
  unfold hearE; rw [if_neg h, if_neg k, if_neg q, if_pos (all_smp hz hj)]
theorem hX {n : Int} (h : hearE t r l = n) (hn : ¬ n = 0) : Ending.returned (.tuple #[.agg #[.int .i64 0, .int .i64 0, .int .i64 0, .int .i64 0, .int .i64 0, .int .i64 0, .int .i64 0, .int .i64 0, .int .i64 0, .int .i64 0, .int .i64 0, .int .i64 0, .int .i64 0, .int .i64 0], .int .i64 n]) = .returned (.tuple #[echoV (hearR t r l), .int .i64 (hearE t r l)]) := by
  have e : hearR t r l = zE := if_neg (by rw [h]; exact hn)
  rw [e, h]; rfl
theorem hX0 (h : hearE t r l = 0) : Ending.returned (.tuple #[echoV (hearX t r l), .int .i64 0]) = .returned (.tuple #[echoV (hearR t r l), .int .i64 (hearE t r l)]) := by
  have e : hearR t r l = hearX t r l := if_pos h
  rw [e, h]
end

set_option maxRecDepth 20000 in
theorem Hear_c (t : Train) (r : Recv) (l : List Sample) (p : Option Addr) (c : Nat) (w : World) (hn : l.length < 1000000000) (hc : l.length ≤ c) (hl : Smps w p l) :
  Calls Tryz.prog 47 #[trainV t, recvV r, .slice p l.length c] w fun e w' => e = .returned (.tuple #[echoV (hearR t r l), .int .i64 (hearE t r l)]) ∧ St (bs w) [] w' := by
  refine enter (vs := [_,_,_]) (env := [(0,_), (1,_), (2,_)]) Tryz.func47 rfl rfl rfl rfl ?_
  refine VC.seq ?_
  refine VC.reg (VO.h rfl<|HO.box (C := #[_,_,_,_,_]) rfl rfl fun b1 => VO.h rfl<|HO.box (C := #[_,_,_,_]) rfl rfl fun b2 => VO.h rfl<|HO.alloc (C := #[_,_,_,_,_,_,_,_,_,_,_,_,_,_]) Z76 rfl fun b3 => VO.l (LO.as (.r rfl)) rfl<|VO.nil ?_)
  refine VE.seqN ?_
  refine VC.seq ?_
  refine VC.seq ?_
  refine VC.reg (VO.l (LO.lda (vs := [_,_,_,_,_]) A23 (.r rfl) (fun _ hw => cells_at hw 2 rfl ⟨_, rfl⟩) rfl) rfl<|VO.l (LO.call (xs := [_]) (vs := [_]) C45 ⟨(.r rfl), trivial⟩ (fun w _ => trainP_c t w)) rfl<|VO.l (LO.as (.r rfl)) rfl<|VO.nil ?_)
  refine VE.seqN ?_
  refine VC.seq ?_
  refine VC.reg (VO.l (LO.mv (.r rfl)) rfl<|VO.l (LO.ne (.r rfl) (.r rfl)) rfl<|VO.nil ?_)
  refine VE.seqN ?_
  refine VC.cond rfl (fun h15 => ?_) (fun h15 => ?_)
  ·
    refine VC.seq ?_
    refine VC.reg (VO.l (LO.bd (ps := []) (vs := []) (C := [_,_,_,_,_,_,_,_,_,_,_,_,_,_]) B76  trivial rfl rfl) rfl<|VO.l (LO.mv (.r rfl)) rfl<|VO.h0<|HO.st 0 (vs := [_,_,_,_,_,_,_,_,_,_,_,_,_,_]) (C' := [_,_,_,_,_,_,_,_,_,_,_,_,_,_]) (L' := [_,_,_]) N76 rfl rfl rfl rfl rfl rfl rfl rfl<|VO.l (LO.as (.r rfl)) rfl<|VO.nil ?_)
    refine VE.seqN ?_
    refine VC.ret (VE.thenR (VE.res (vs := [_,_]) rfl ⟨RV.agg (vs := [_,_,_,_,_,_,_,_,_,_,_,_,_,_]) A76 rfl (cells_blk 0 rfl ⟨_, rfl⟩) rfl, rfl, trivial⟩ (fun w hw => ?_)))
    refine ⟨?_, hw.nil⟩
    simp only [resV]
    first | exact hX (hE1 h15) h15 | exact hX (hE2 h15 h21) h21 | exact hX (hE3 h15 h21 h28) (by decide) | exact hX (hE4 h15 h21 h28 (j := j) (by omega) (by unfold smpOk; unfold wr at h67; omega)) (by decide) | exact hX0 (hE5 h15 h21 h28 hz (by omega))
  ·
    refine VC.skip (VE.seqN ?_)
    refine VC.seq ?_
    refine VC.seq ?_
    refine VC.reg (VO.l (LO.lda (vs := [_,_,_,_]) A27 (.r rfl) (fun _ hw => cells_at hw 1 rfl ⟨_, rfl⟩) rfl) rfl<|VO.l (LO.call (xs := [_]) (vs := [_]) C46 ⟨(.r rfl), trivial⟩ (fun w _ => recvP_c r w)) rfl<|VO.l (LO.as (.r rfl)) rfl<|VO.nil ?_)
    refine VE.seqN ?_
    refine VC.seq ?_
    refine VC.reg (VO.l (LO.mv (.r rfl)) rfl<|VO.l (LO.ne (.r rfl) (.r rfl)) rfl<|VO.nil ?_)
    refine VE.seqN ?_
    refine VC.cond rfl (fun h21 => ?_) (fun h21 => ?_)
    ·
      refine VC.seq ?_
      refine VC.reg (VO.l (LO.bd (ps := []) (vs := []) (C := [_,_,_,_,_,_,_,_,_,_,_,_,_,_]) B76  trivial rfl rfl) rfl<|VO.l (LO.mv (.r rfl)) rfl<|VO.h0<|HO.st 0 (vs := [_,_,_,_,_,_,_,_,_,_,_,_,_,_]) (C' := [_,_,_,_,_,_,_,_,_,_,_,_,_,_]) (L' := [_,_,_]) N76 rfl rfl rfl rfl rfl rfl rfl rfl<|VO.l (LO.as (.r rfl)) rfl<|VO.nil ?_)
      refine VE.seqN ?_
      refine VC.ret (VE.thenR (VE.res (vs := [_,_]) rfl ⟨RV.agg (vs := [_,_,_,_,_,_,_,_,_,_,_,_,_,_]) A76 rfl (cells_blk 0 rfl ⟨_, rfl⟩) rfl, rfl, trivial⟩ (fun w hw => ?_)))
      refine ⟨?_, hw.nil⟩
      simp only [resV]
      first | exact hX (hE1 h15) h15 | exact hX (hE2 h15 h21) h21 | exact hX (hE3 h15 h21 h28) (by decide) | exact hX (hE4 h15 h21 h28 (j := j) (by omega) (by unfold smpOk; unfold wr at h67; omega)) (by decide) | exact hX0 (hE5 h15 h21 h28 hz (by omega))
    ·
      refine VC.skip (VE.seqN ?_)
      refine VC.seq ?_
      refine VC.seq ?_
      refine VC.reg (VO.l (LO.mv (.r rfl)) rfl<|VO.l (LO.len S40 (.r rfl) rfl) rfl<|VO.l (LO.fa (r := 4) F23_4 (.r rfl) rfl) rfl<|VO.l (LO.ld O3 (.r rfl) (fun _ hw => cells_at hw 2 rfl ⟨_, rfl⟩)) rfl<|VO.l (LO.ne (.r rfl) (.r rfl)) rfl<|VO.nil ?_)
      refine VE.seqN ?_
      refine VC.cond rfl (fun h28 => ?_) (fun h28 => ?_)
      ·
        refine VC.seq ?_
        refine VC.reg (VO.l (LO.bd (ps := []) (vs := []) (C := [_,_,_,_,_,_,_,_,_,_,_,_,_,_]) B76  trivial rfl rfl) rfl<|VO.h0<|HO.st 0 (vs := [_,_,_,_,_,_,_,_,_,_,_,_,_,_]) (C' := [_,_,_,_,_,_,_,_,_,_,_,_,_,_]) (L' := [_,_,_]) N76 rfl rfl rfl rfl rfl rfl rfl rfl<|VO.l (LO.as (.r rfl)) rfl<|VO.nil ?_)
        refine VE.seqN ?_
        refine VC.ret (VE.thenR (VE.res (vs := [_,_]) rfl ⟨RV.agg (vs := [_,_,_,_,_,_,_,_,_,_,_,_,_,_]) A76 rfl (cells_blk 0 rfl ⟨_, rfl⟩) rfl, rfl, trivial⟩ (fun w hw => ?_)))
        refine ⟨?_, hw.nil⟩
        simp only [resV]
        first | exact hX (hE1 h15) h15 | exact hX (hE2 h15 h21) h21 | exact hX (hE3 h15 h21 h28) (by decide) | exact hX (hE4 h15 h21 h28 (j := j) (by omega) (by unfold smpOk; unfold wr at h67; omega)) (by decide) | exact hX0 (hE5 h15 h21 h28 hz (by omega))
      ·
        refine VC.skip (VE.seqN ?_)
        refine VC.seq ?_
        refine VC.seq ?_
        refine VC.reg (VO.l (LO.mv (.r rfl)) rfl<|VO.l (LO.len S40 (.r rfl) rfl) rfl<|VO.l (LO.mv (.r rfl)) rfl<|VO.nil ?_)
        refine VE.seqN ?_
        refine VC.block ?_
        refine VC.loopK (α := Nat) 0 (fun gx => [(32, .int .i64 (gx : Nat))]) [(2,_), (3,_), (4,_), (6,_), (30,_), (31,_)] (fun gx => []) (fun gx => gx ≤ l.length ∧ ∀ k, k < gx → smpOk (l.getD k zSm)) (fun gx => l.length - gx) 0 (by exact ⟨by omega, fun k hk => by omega⟩) (.cons rfl (.cons rfl (.cons rfl (.cons rfl (.cons rfl (.cons rfl (.cons rfl .nil))))))) (fun _ h => h) ?_
        rintro j ⟨hj, hz⟩
        refine VC.seq ?_
        refine VC.reg (VO.l (LO.lt (.r rfl) (.r rfl)) rfl<|VO.nil ?_)
        refine VE.seqN ?_
        refine VC.seq ?_
        refine VC.cond rfl (fun h4 => ?_) (fun h4 => ?_)
        ·
          refine VC.skip (VE.seqN ?_)
          refine VC.seq ?_
          refine VC.block ?_
          refine VC.seq ?_
          refine VC.reg (VO.l (LO.ixs S40 N50 hl.sm (.r rfl) (.r rfl) rfl (by omega)) rfl<|VO.l (LO.lda (vs := [_,_,_,_]) A50 (.r rfl) (fun w hw => cells_part (off := 0) ((hl.at zSm (j := j) (by omega)) w hw) ⟨_, rfl⟩) rfl) rfl<|VO.h rfl<|HO.alloc (C := #[_,_,_,_]) Z50 rfl fun b7 => VO.h0<|HO.st 0 (vs := [_,_,_,_]) (C' := [_,_,_,_]) (L' := [_,_,_,_]) N50 rfl rfl rfl rfl rfl rfl rfl rfl<|VO.nil ?_)
          refine VE.seqN ?_
          refine VC.seq ?_
          refine VC.draw mixed (LL.l (LO.fa (r := 0) F50_0 (.r rfl) rfl) rfl<|LL.l (LO.ld O3 (.r rfl) (fun _ hw => cells_at hw 0 rfl ⟨_, rfl⟩)) rfl<|LL.l (LO.fa (r := 2) F50_2 (.r rfl) rfl) rfl<|LL.l (LO.ld O3 (.r rfl) (fun _ hw => cells_at hw 0 rfl ⟨_, rfl⟩)) rfl<|LL.l (LO.min (.r rfl) (.r rfl)) rfl<|LL.l (LO.call (xs := [_,_,_]) (vs := [_,_,_]) C54 ⟨(.r rfl), (.r rfl), (.r rfl), trivial⟩ (fun w _ => within_c _ _ _ w)) rfl<|LL.l (LO.not (.r rfl)) rfl<|LL.l (LO.mv (.r rfl)) rfl<|LL.lg rfl rfl (GD.f _) (fun hg => LO.fa (r := 0) F50_0 (.r rfl) rfl) rfl<|LL.lg rfl rfl (GD.f _) (fun hg => LO.ld O3 (.g hg rfl) (fun _ hw => cells_at hw 0 rfl ⟨_, rfl⟩)) rfl<|LL.lg rfl rfl (GD.f _) (fun hg => LO.fa (r := 2) F50_2 (.r rfl) rfl) rfl<|LL.lg rfl rfl (GD.f _) (fun hg => LO.ld O3 (.g hg rfl) (fun _ hw => cells_at hw 0 rfl ⟨_, rfl⟩)) rfl<|LL.lg rfl rfl (GD.f _) (fun hg => LO.max (.g hg rfl) (.g hg rfl)) rfl<|LL.lg rfl rfl (GD.f _) (fun hg => LO.call (xs := [_,_,_]) (vs := [_,_,_]) C54 ⟨(.g hg rfl), (.r rfl), (.r rfl), trivial⟩ (fun w _ => within_c _ _ _ w)) rfl<|LL.lg rfl rfl (GD.f _) (fun hg => LO.not (.g hg rfl)) rfl<|LL.l (LO.pkO (.r rfl) (.r rfl) rfl rfl) rfl<|LL.l (LO.mv (.r rfl)) rfl<|LL.lg rfl rfl (GD.f _) (fun hg => LO.fa (r := 1) F50_1 (.r rfl) rfl) rfl<|LL.lg rfl rfl (GD.f _) (fun hg => LO.ld O3 (.g hg rfl) (fun _ hw => cells_at hw 0 rfl ⟨_, rfl⟩)) rfl<|LL.lg rfl rfl (GD.f _) (fun hg => LO.call (xs := [_]) (vs := [_]) C112 ⟨(.g hg rfl), trivial⟩ (fun w _ => wrap_c _ w)) rfl<|LL.lg rfl rfl (GD.f _) (fun hg => LO.fa (r := 1) F50_1 (.r rfl) rfl) rfl<|LL.lg rfl rfl (GD.f _) (fun hg => LO.ld O3 (.g hg rfl) (fun _ hw => cells_at hw 0 rfl ⟨_, rfl⟩)) rfl<|LL.lg rfl rfl (GD.f _) (fun hg => LO.ne (.g hg rfl) (.g hg rfl)) rfl<|LL.l (LO.pkO (.r rfl) (.r rfl) rfl rfl) rfl<|LL.l (LO.mv (.r rfl)) rfl<|LL.lg rfl rfl (GD.f _) (fun hg => LO.fa (r := 3) F50_3 (.r rfl) rfl) rfl<|LL.lg rfl rfl (GD.f _) (fun hg => LO.ld O3 (.g hg rfl) (fun _ hw => cells_at hw 0 rfl ⟨_, rfl⟩)) rfl<|LL.lg rfl rfl (GD.f _) (fun hg => LO.call (xs := [_]) (vs := [_]) C112 ⟨(.g hg rfl), trivial⟩ (fun w _ => wrap_c _ w)) rfl<|LL.lg rfl rfl (GD.f _) (fun hg => LO.fa (r := 3) F50_3 (.r rfl) rfl) rfl<|LL.lg rfl rfl (GD.f _) (fun hg => LO.ld O3 (.g hg rfl) (fun _ hw => cells_at hw 0 rfl ⟨_, rfl⟩)) rfl<|LL.lg rfl rfl (GD.f _) (fun hg => LO.ne (.g hg rfl) (.g hg rfl)) rfl<|LL.l (LO.pkO (.r rfl) (.r rfl) rfl rfl) rfl<|LL.nil) (by kernel_rfl) ?_
          refine VE.seqN ?_
          refine VC.cond rfl (fun h67 => ?_) (fun h67 => ?_)
          ·
            refine VC.seq ?_
            refine VC.reg (VO.l (LO.bd (ps := []) (vs := []) (C := [_,_,_,_,_,_,_,_,_,_,_,_,_,_]) B76  trivial rfl rfl) rfl<|VO.h0<|HO.st 1 (vs := [_,_,_,_,_,_,_,_,_,_,_,_,_,_]) (C' := [_,_,_,_,_,_,_,_,_,_,_,_,_,_]) (L' := [_,_,_,_]) N76 rfl rfl rfl rfl rfl rfl rfl rfl<|VO.l (LO.as (.r rfl)) rfl<|VO.nil ?_)
            refine VE.seqN ?_
            refine VC.ret (VE.inR (VE.thenR (VE.thenR (VE.inR (VE.thenR (VE.res (vs := [_,_]) rfl ⟨RV.agg (vs := [_,_,_,_,_,_,_,_,_,_,_,_,_,_]) A76 rfl (cells_blk 1 rfl ⟨_, rfl⟩) rfl, rfl, trivial⟩ (fun w hw => ?_)))))))
            refine ⟨?_, hw.nil⟩
            simp only [resV]
            first | exact hX (hE1 h15) h15 | exact hX (hE2 h15 h21) h21 | exact hX (hE3 h15 h21 h28) (by decide) | exact hX (hE4 h15 h21 h28 (j := j) (by omega) (by unfold smpOk; unfold wr at h67; omega)) (by decide) | exact hX0 (hE5 h15 h21 h28 hz (by omega))
          ·
            refine VC.skip (VE.inN (VE.seqN ?_))
            refine VC.reg (VO.l (LO.add (.r rfl) (.r rfl) (wi (by omega) (by omega))) rfl<|VO.l (LO.mv (.r rfl)) rfl<|VO.nil ?_)
            refine VE.thenN fun a w ha hw => ⟨j + 1, ⟨by omega, all_step hz (by unfold smpOk; unfold wr at h67; omega)⟩, (by omega), ha.sub (.cons rfl (.cons rfl (.cons rfl (.cons rfl (.cons rfl (.cons rfl (.cons rfl .nil))))))), hw.sel [1,2,3] rfl⟩
        ·
          refine VC.exit (VE.thenX (VE.thenX (VE.inX (VE.seqN ?_))))
          refine VC.seq ?_
          refine VC.reg (VO.l (LO.lda (vs := [_,_,_,_,_]) A23 (.r rfl) (fun _ hw => cells_at hw 2 rfl ⟨_, rfl⟩) rfl) rfl<|VO.l (LO.lda (vs := [_,_,_,_]) A27 (.r rfl) (fun _ hw => cells_at hw 1 rfl ⟨_, rfl⟩) rfl) rfl<|VO.l (LO.mv (.r rfl)) rfl<|VO.l (LO.call (xs := [_,_,_]) (vs := [_,_,_]) C113 ⟨(.r rfl), (.r rfl), (.r rfl), trivial⟩ (fun w hw => heard_c t r l p c w (train_of h15).1 (train_of h15).2 (recv_of h21) (by omega) (all_smp hz (by omega)) hc (hl.keep w hw))) rfl<|VO.h0<|HO.st 0 (vs := [_,_,_,_,_,_,_,_,_,_,_,_,_,_]) (C' := [_,_,_,_,_,_,_,_,_,_,_,_,_,_]) (L' := [_,_,_]) N76 rfl rfl rfl rfl rfl rfl rfl rfl<|VO.l (LO.as (.r rfl)) rfl<|VO.nil ?_)
          refine VE.seqN ?_
          refine VC.ret (VE.res (vs := [_,_]) rfl ⟨RV.agg (vs := [_,_,_,_,_,_,_,_,_,_,_,_,_,_]) A76 rfl (cells_blk 0 rfl ⟨_, rfl⟩) rfl, rfl, trivial⟩ (fun w hw => ?_))
          refine ⟨?_, hw.nil⟩
          simp only [resV]
          first | exact hX (hE1 h15) h15 | exact hX (hE2 h15 h21) h21 | exact hX (hE3 h15 h21 h28) (by decide) | exact hX (hE4 h15 h21 h28 (j := j) (by omega) (by unfold smpOk; unfold wr at h67; omega)) (by decide) | exact hX0 (hE5 h15 h21 h28 hz (by omega))

end Go.Proofs.YtffbohecdocajaaGreat

namespace Go.Proofs.YtffbohecdocajaaGreat
open Go.SL Go.Proofs Go.Pulse
set_option linter.unusedVariables false

theorem B27 : Builds Tryz.prog 27 [(0,1), (1,1), (2,2)] [.int .i64 0, .int .i64 0, .int .i64 0, .int .i64 0] := Builds.mk fun _ => by kernel_rfl
theorem C47 : IsFn Tryz.prog 47 := ⟨_, Tryz.func47, by decide, rfl⟩
end Go.Proofs.YtffbohecdocajaaGreat

namespace Go.Proofs.YtffbohecdocajaaGreat
open Go.SL Go.Proofs Go.Pulse
set_option linter.unusedVariables false

theorem C55 : IsFn Tryz.prog 55 := ⟨_, Tryz.func55, by decide, rfl⟩
end Go.Proofs.YtffbohecdocajaaGreat

namespace Go.Proofs.YtffbohecdocajaaGreat
open Go.SL Go.Proofs Go.Pulse
set_option linter.unusedVariables false

theorem B78 : BuildsA Tryz.prog 78 [(0,1), (1,1)] [.int .i64 0, .int .i64 0] := BuildsA.mk (z := 1) (n := 2) (fun _ => by kernel_rfl) rfl
theorem Z78 : ZeroOf Tryz.prog 78 (.agg #[.int .i64 0, .int .i64 0]) := by unfold ZeroOf; kernel_rfl
theorem N78 : (Tryz.prog.info? 78).map (·.size) = some 2 := by kernel_rfl
theorem C276 : IsFn Tryz.prog 276 := ⟨_, Tryz.func276, by decide, rfl⟩
theorem C277 : IsFn Tryz.prog 277 := ⟨_, Tryz.func277, by decide, rfl⟩
def timeE (t : Train) (wh : Int) : Int := if trainE t ≠ 0 then trainE t else if wh = 0 then 0 else if wh = 1 ∧ t.kind ≠ 1 then 0 else 2
def timeV (t : Train) (wh : Int) : Int := if timeE t wh = 0 then (if wh = 0 then t.first else t.second) else 0
def spdE (t : Train) (wh : Int) (s : Span) (wl : Int) : Int := if timeE t wh ≠ 0 then timeE t wh else if ¬ (inS s (-131072) 131072 ∧ -64 ≤ wl ∧ wl ≤ 64) then 3 else 0
def spdV (t : Train) (wh : Int) (s : Span) (wl : Int) : Span := if spdE t wh s wl = 0 then ⟨500 * t.lam * (s.lo + wl * 65536) / (65536 * timeV t wh), up (500 * t.lam * (s.hi + wl * 65536)) (65536 * timeV t wh)⟩ else zs
section
variable {t : Train} {wh : Int} {s : Span} {wl : Int}
theorem tmX {n : Int} (h : timeE t wh = n) (hn : n ≠ 0) : Ending.returned (.tuple #[.int .i64 0, .int .i64 n]) = .returned (.tuple #[.int .i64 (timeV t wh), .int .i64 (timeE t wh)]) := by
  have e : timeV t wh = 0 := if_neg (by rw [h]; exact hn)
  rw [e, h]
theorem tm1 (h : ¬ trainE t = 0) : Ending.returned (.tuple #[.int .i64 0, .int .i64 (trainE t)]) = .returned (.tuple #[.int .i64 (timeV t wh), .int .i64 (timeE t wh)]) := tmX (if_pos h) h
theorem tm2 (h : ¬ ¬ trainE t = 0) (k : ¬ wh = 0 ∧ ¬ (wh = 1 ∧ t.kind ≠ 1)) : Ending.returned (.tuple #[.int .i64 0, .int .i64 2]) = .returned (.tuple #[.int .i64 (timeV t wh), .int .i64 (timeE t wh)]) := tmX (by unfold timeE; rw [if_neg h, if_neg k.1, if_neg k.2]) (by decide)
theorem tm3 (h : ¬ ¬ trainE t = 0) (k : wh = 0) : Ending.returned (.tuple #[.int .i64 t.first, .int .i64 0]) = .returned (.tuple #[.int .i64 (timeV t wh), .int .i64 (timeE t wh)]) := by
  have e : timeE t wh = 0 := by unfold timeE; rw [if_neg h, if_pos k]
  have v : timeV t wh = t.first := by unfold timeV; rw [if_pos e, if_pos k]
  rw [e, v]
theorem tm4 (h : ¬ ¬ trainE t = 0) (k : wh = 1) (q : t.kind ≠ 1) : Ending.returned (.tuple #[.int .i64 t.second, .int .i64 0]) = .returned (.tuple #[.int .i64 (timeV t wh), .int .i64 (timeE t wh)]) := by
  have e : timeE t wh = 0 := by unfold timeE; rw [if_neg h, if_neg (by omega), if_pos ⟨k, q⟩]
  have v : timeV t wh = t.second := by unfold timeV; rw [if_pos e, if_neg (by omega)]
  rw [e, v]
theorem timeE_ok (h : ¬ ¬ timeE t wh = 0) : trainOk t ∧ 200 ≤ timeV t wh ∧ timeV t wh ≤ 5000 := by
  have h := Classical.not_not.1 h
  have ht : ¬ ¬ trainE t = 0 := fun q => by unfold timeE at h; rw [if_pos q] at h; exact q h
  have hk := train_of ht
  have ho := hk.2
  have hk1 := hk.1
  unfold trainOk at ho
  unfold kndOk at hk1
  refine ⟨hk.2, ?_⟩
  have e := h
  unfold timeE at h
  rw [if_neg ht] at h
  unfold timeV
  rw [if_pos e]
  by_cases q : wh = 0
  · rw [if_pos q]; omega
  · rw [if_neg q] at h ⊢
    by_cases r : wh = 1 ∧ t.kind ≠ 1
    · omega
    · rw [if_neg r] at h; exact absurd h (by decide)
def spdOk (lam wl us q : Int) : Prop := (0 ≤ lam ∧ lam ≤ 1000000) ∧ (-64 ≤ wl ∧ wl ≤ 64) ∧ (200 ≤ us ∧ us ≤ 5000) ∧ (-131072 ≤ q ∧ q ≤ 131072) ∧ -9000000000000000 ≤ 500 * lam * (q + wl * 65536) ∧ 500 * lam * (q + wl * 65536) ≤ 9000000000000000
theorem spdOk_of {us q : Int} (ht : trainOk t) (hu1 : 200 ≤ us) (hu2 : us ≤ 5000) (h1 : -64 ≤ wl) (h2 : wl ≤ 64) (h3 : -131072 ≤ q) (h4 : q ≤ 131072) : spdOk t.lam wl us q := by
  unfold trainOk at ht
  have a := prod_bd (x := 500 * t.lam) (y := q + wl * 65536 + 5000000) (A := 500000000) (B := 10000000) (by omega) (by omega) (by omega) (by omega)
  rw [Int.mul_add (500 * t.lam) (q + wl * 65536)] at a
  exact ⟨by omega, by omega, by omega, by omega, by omega, by omega⟩
theorem spX {n : Int} (h : spdE t wh s wl = n) (hn : n ≠ 0) : Ending.returned (.tuple #[.agg #[.int .i64 0, .int .i64 0], .int .i64 n]) = .returned (.tuple #[spanV (spdV t wh s wl), .int .i64 (spdE t wh s wl)]) := by
  have e : spdV t wh s wl = zs := if_neg (by rw [h]; exact hn)
  rw [e, h]; rfl
theorem sp1 (h : ¬ timeE t wh = 0) : Ending.returned (.tuple #[.agg #[.int .i64 0, .int .i64 0], .int .i64 (timeE t wh)]) = .returned (.tuple #[spanV (spdV t wh s wl), .int .i64 (spdE t wh s wl)]) := spX (if_pos h) h
theorem sp2 (h : ¬ ¬ timeE t wh = 0) (k : ¬ (inS s (-131072) 131072 ∧ -64 ≤ wl ∧ wl ≤ 64)) : Ending.returned (.tuple #[.agg #[.int .i64 0, .int .i64 0], .int .i64 3]) = .returned (.tuple #[spanV (spdV t wh s wl), .int .i64 (spdE t wh s wl)]) := spX (by unfold spdE; rw [if_neg h, if_pos k]) (by decide)
theorem sp3 (h : ¬ ¬ timeE t wh = 0) (k : inS s (-131072) 131072 ∧ -64 ≤ wl ∧ wl ≤ 64) : Ending.returned (.tuple #[.agg #[.int .i64 (500 * t.lam * (s.lo + wl * 65536) / (65536 * timeV t wh)), .int .i64 (up (500 * t.lam * (s.hi + wl * 65536)) (65536 * timeV t wh))], .int .i64 0]) = .returned (.tuple #[spanV (spdV t wh s wl), .int .i64 (spdE t wh s wl)]) := by
  have e : spdE t wh s wl = 0 := by unfold spdE; rw [if_neg h, if_neg (fun q => q k)]
  have v : spdV t wh s wl = ⟨500 * t.lam * (s.lo + wl * 65536) / (65536 * timeV t wh), up (500 * t.lam * (s.hi + wl * 65536)) (65536 * timeV t wh)⟩ := if_pos e
  rw [e, v]
end

set_option maxRecDepth 20000 in
theorem time_c (t : Train) (wh : Int) (w : World) :
  Calls Tryz.prog 276 #[trainV t, .int .i64 wh] w fun e w' => e = .returned (.tuple #[.int .i64 (timeV t wh), .int .i64 (timeE t wh)]) ∧ St (bs w) [] w' := by
  refine enter (vs := [_,_]) (env := [(0,_), (1,_)]) Tryz.func276 rfl rfl rfl rfl ?_
  refine VC.seq ?_
  refine VC.reg (VO.h rfl<|HO.box (C := #[_,_,_,_,_]) rfl rfl fun b1 => VO.l (LO.as (.r rfl)) rfl<|VO.l (LO.as (.r rfl)) rfl<|VO.nil ?_)
  refine VE.seqN ?_
  refine VC.seq ?_
  refine VC.seq ?_
  refine VC.reg (VO.l (LO.lda (vs := [_,_,_,_,_]) A23 (.r rfl) (fun _ hw => cells_at hw 0 rfl ⟨_, rfl⟩) rfl) rfl<|VO.l (LO.call (xs := [_]) (vs := [_]) C45 ⟨(.r rfl), trivial⟩ (fun w _ => trainP_c t w)) rfl<|VO.l (LO.as (.r rfl)) rfl<|VO.nil ?_)
  refine VE.seqN ?_
  refine VC.seq ?_
  refine VC.reg (VO.l (LO.mv (.r rfl)) rfl<|VO.l (LO.ne (.r rfl) (.r rfl)) rfl<|VO.nil ?_)
  refine VE.seqN ?_
  refine VC.cond rfl (fun h11 => ?_) (fun h11 => ?_)
  ·
    refine VC.seq ?_
    refine VC.reg (VO.l (LO.mv (.r rfl)) rfl<|VO.l (LO.as (.r rfl)) rfl<|VO.l (LO.as (.r rfl)) rfl<|VO.nil ?_)
    refine VE.seqN ?_
    refine VC.ret (VE.thenR (VE.res (vs := [_,_]) rfl ⟨rfl, rfl, trivial⟩ (fun w hw => ?_)))
    refine ⟨?_, hw.nil⟩
    simp only [resV]
    first | exact tm1 h11 | exact tm2 h11 (by omega) | exact tm3 h11 rfl | exact tm4 h11 rfl (by omega)
  ·
    have hk := (train_of h11).1
    have ht := (train_of h11).2
    unfold trainOk at ht
    refine VC.skip (VE.seqN ?_)
    refine VC.seq ?_
    refine VC.reg (VO.l (LO.fa (r := 2) F23_2 (.r rfl) rfl) rfl<|VO.l (LO.ld O3 (.r rfl) (fun _ hw => cells_at hw 0 rfl ⟨_, rfl⟩)) rfl<|VO.l (LO.fa (r := 3) F23_3 (.r rfl) rfl) rfl<|VO.l (LO.ld O3 (.r rfl) (fun _ hw => cells_at hw 0 rfl ⟨_, rfl⟩)) rfl<|VO.l (LO.bda (ps := [(_,_), (_,_)]) (vs := [(_,_), (_,_)]) (C := [_,_]) B78 rfl ⟨(.r rfl), (.r rfl), trivial⟩ rfl ⟨_, [_], [_,_], rfl, rfl, rfl, rfl, ⟨_, [_], [_,_], rfl, rfl, rfl, rfl, rfl⟩⟩) rfl<|VO.h rfl<|HO.alloc (C := #[_,_]) Z78 rfl fun b2 => VO.h0<|HO.st 0 (vs := [_,_]) (C' := [_,_]) (L' := [_,_]) N78 rfl rfl rfl rfl rfl rfl rfl rfl<|VO.nil ?_)
    refine VE.seqN ?_
    refine VC.seq ?_
    refine VC.seq ?_
    rcases (show wh = 0 ∨ wh = 1 ∨ (wh ≠ 0 ∧ wh ≠ 1) by omega) with rfl | rfl | hw01
    ·
      refine VC.reg (VO.l (LO.mv (.r rfl)) rfl<|VO.l (LO.call (xs := [_,_,_]) (vs := [_,_,_]) C54 ⟨(.r rfl), (.r rfl), (.r rfl), trivial⟩ (fun w _ => within_c _ _ _ w)) rfl<|VO.l (LO.not (.r rfl)) rfl<|VO.l (LO.mv (.r rfl)) rfl<|VO.lg rfl rfl (GD.f _) (fun hg => LO.mv (.r rfl)) rfl<|VO.lg rfl rfl (GD.f _) (fun hg => LO.ixa (j := 0) (r := 0) Tryz.underlying78 N3 (.r rfl) (.g hg rfl) rfl (by decide) rfl) rfl<|VO.lg rfl rfl (GD.f _) (fun hg => LO.ld O3 (.g hg rfl) (fun _ hw => cells_at hw 0 rfl ⟨_, rfl⟩)) rfl<|VO.lg rfl rfl (GD.f _) (fun hg => LO.eq (.g hg rfl) (.r rfl)) rfl<|VO.l (LO.pkO (.r rfl) (.r rfl) rfl rfl) rfl<|VO.nil ?_)
      refine VE.seqN ?_
      refine VC.cond rfl (fun h26 => ?_) (fun h26 => ?_)
      ·
        refine VC.seq ?_
        refine VC.reg (VO.l (LO.as (.r rfl)) rfl<|VO.l (LO.as (.r rfl)) rfl<|VO.nil ?_)
        refine VE.seqN ?_
        refine VC.ret (VE.thenR (VE.res (vs := [_,_]) rfl ⟨rfl, rfl, trivial⟩ (fun w hw => ?_)))
        refine ⟨?_, hw.nil⟩
        simp only [resV]
        first | exact tm1 h11 | exact tm2 h11 (by omega) | exact tm3 h11 rfl | exact tm4 h11 rfl (by omega)
      ·
        refine VC.skip (VE.seqN ?_)
        refine VC.seq ?_
        refine VC.reg (VO.l (LO.mv (.r rfl)) rfl<|VO.l (LO.ixa (j := 0) (r := 0) Tryz.underlying78 N3 (.r rfl) (.r rfl) rfl (by decide) rfl) rfl<|VO.l (LO.ld O3 (.r rfl) (fun _ hw => cells_at hw 0 rfl ⟨_, rfl⟩)) rfl<|VO.l (LO.as (.r rfl)) rfl<|VO.l (LO.as (.r rfl)) rfl<|VO.nil ?_)
        refine VE.seqN ?_
        refine VC.ret (VE.res (vs := [_,_]) rfl ⟨rfl, rfl, trivial⟩ (fun w hw => ?_))
        refine ⟨?_, hw.nil⟩
        simp only [resV]
        first | exact tm1 h11 | exact tm2 h11 (by omega) | exact tm3 h11 rfl | exact tm4 h11 rfl (by omega)
    ·
      refine VC.reg (VO.l (LO.mv (.r rfl)) rfl<|VO.l (LO.call (xs := [_,_,_]) (vs := [_,_,_]) C54 ⟨(.r rfl), (.r rfl), (.r rfl), trivial⟩ (fun w _ => within_c _ _ _ w)) rfl<|VO.l (LO.not (.r rfl)) rfl<|VO.l (LO.mv (.r rfl)) rfl<|VO.lg rfl rfl (GD.f _) (fun hg => LO.mv (.r rfl)) rfl<|VO.lg rfl rfl (GD.f _) (fun hg => LO.ixa (j := 1) (r := 1) Tryz.underlying78 N3 (.r rfl) (.g hg rfl) rfl (by decide) rfl) rfl<|VO.lg rfl rfl (GD.f _) (fun hg => LO.ld O3 (.g hg rfl) (fun _ hw => cells_at hw 0 rfl ⟨_, rfl⟩)) rfl<|VO.lg rfl rfl (GD.f _) (fun hg => LO.eq (.g hg rfl) (.r rfl)) rfl<|VO.l (LO.pkO (.r rfl) (.r rfl) rfl rfl) rfl<|VO.nil ?_)
      refine VE.seqN ?_
      refine VC.cond rfl (fun h26 => ?_) (fun h26 => ?_)
      ·
        refine VC.seq ?_
        refine VC.reg (VO.l (LO.as (.r rfl)) rfl<|VO.l (LO.as (.r rfl)) rfl<|VO.nil ?_)
        refine VE.seqN ?_
        refine VC.ret (VE.thenR (VE.res (vs := [_,_]) rfl ⟨rfl, rfl, trivial⟩ (fun w hw => ?_)))
        refine ⟨?_, hw.nil⟩
        simp only [resV]
        first | exact tm1 h11 | exact tm2 h11 (by omega) | exact tm3 h11 rfl | exact tm4 h11 rfl (by omega)
      ·
        refine VC.skip (VE.seqN ?_)
        refine VC.seq ?_
        refine VC.reg (VO.l (LO.mv (.r rfl)) rfl<|VO.l (LO.ixa (j := 1) (r := 1) Tryz.underlying78 N3 (.r rfl) (.r rfl) rfl (by decide) rfl) rfl<|VO.l (LO.ld O3 (.r rfl) (fun _ hw => cells_at hw 0 rfl ⟨_, rfl⟩)) rfl<|VO.l (LO.as (.r rfl)) rfl<|VO.l (LO.as (.r rfl)) rfl<|VO.nil ?_)
        refine VE.seqN ?_
        refine VC.ret (VE.res (vs := [_,_]) rfl ⟨rfl, rfl, trivial⟩ (fun w hw => ?_))
        refine ⟨?_, hw.nil⟩
        simp only [resV]
        first | exact tm1 h11 | exact tm2 h11 (by omega) | exact tm3 h11 rfl | exact tm4 h11 rfl (by omega)
    ·
      refine VC.reg (VO.l (LO.mv (.r rfl)) rfl<|VO.l (LO.call (xs := [_,_,_]) (vs := [_,_,_]) C54 ⟨(.r rfl), (.r rfl), (.r rfl), trivial⟩ (fun w _ => within_c _ _ _ w)) rfl<|VO.l (LO.not (.r rfl)) rfl<|VO.l (LO.mv (.r rfl)) rfl<|VO.lg rfl rfl (GD.f _) (fun hg => LO.mv (.r rfl)) rfl<|VO.lg rfl rfl (GD.f _) (fun hg => LO.ixa (j := 0) (r := 0) Tryz.underlying78 N3 (.r rfl) (.g hg rfl) (by have q := IsP.yes inferInstance hg; omega) (by decide) rfl) rfl<|VO.lg rfl rfl (GD.f _) (fun hg => LO.ld O3 (.g hg rfl) (fun _ hw => cells_at hw 0 rfl ⟨_, rfl⟩)) rfl<|VO.lg rfl rfl (GD.f _) (fun hg => LO.eq (.g hg rfl) (.r rfl)) rfl<|VO.l (LO.pkO (.r rfl) (.r rfl) rfl rfl) rfl<|VO.nil ?_)
      refine VE.seqN ?_
      refine VC.cond rfl (fun h26 => ?_) (fun h26 => ?_)
      ·
        refine VC.seq ?_
        refine VC.reg (VO.l (LO.as (.r rfl)) rfl<|VO.l (LO.as (.r rfl)) rfl<|VO.nil ?_)
        refine VE.seqN ?_
        refine VC.ret (VE.thenR (VE.res (vs := [_,_]) rfl ⟨rfl, rfl, trivial⟩ (fun w hw => ?_)))
        refine ⟨?_, hw.nil⟩
        simp only [resV]
        first | exact tm1 h11 | exact tm2 h11 (by omega) | exact tm3 h11 rfl | exact tm4 h11 rfl (by omega)
      ·
        (exfalso; omega)

set_option maxRecDepth 20000 in
theorem spdD_c (q lam kd fi se wl us : Int) (n5 : Int) (bt bw bu : Nat) (w : World) (hp : spdOk lam wl us q) (ht : Cells w ⟨bt, 0, none⟩ [.int .i64 lam, .int .i64 kd, .int .i64 fi, .int .i64 se, .int .i64 n5]) (hw_ : Cells w ⟨bw, 0, none⟩ [.int .i64 wl]) (hu : Cells w ⟨bu, 0, none⟩ [.int .i64 us]) :
  Calls Tryz.prog 277 #[.int .i64 q, .func (.func 179) #[] #[], .pointer (some ⟨bt, 0, none⟩), .pointer (some ⟨bw, 0, none⟩), .pointer (some ⟨bu, 0, none⟩)] w fun e w' => e = .returned (.int .i64 (500 * lam * (q + wl * 65536) / (65536 * us))) ∧ St (bs w) [] w' := by
  obtain ⟨a1, a2, a3, a4, a5, a6⟩ := hp
  refine enter (vs := [_,_,_,_,_]) (env := [(0,_), (1,_), (2,_), (3,_), (4,_)]) Tryz.func277 rfl rfl rfl rfl ?_
  refine VC.seq ?_
  refine VC.reg (VO.l (LO.as (.r rfl)) rfl<|VO.nil ?_)
  refine VE.seqN ?_
  refine VC.seq ?_
  refine VC.reg (VO.l (LO.mv (.r rfl)) rfl<|VO.l (LO.fa (r := 0) F23_0 (.r rfl) rfl) rfl<|VO.l (LO.ld O3 (.r rfl) (cells_keep (sub_cells (off := 0) ht ⟨_, rfl⟩))) rfl<|VO.l (LO.mul (.r rfl) (.r rfl) (wi (by omega) (by omega))) rfl<|VO.l (LO.mv (.r rfl)) rfl<|VO.l (LO.ld O3 (.r rfl) (cells_keep (sub_cells (off := 0) hw_ ⟨_, rfl⟩))) rfl<|VO.l (LO.mul (.r rfl) (.r rfl) (wi (by omega) (by omega))) rfl<|VO.l (LO.add (.r rfl) (.r rfl) (wi (by omega) (by omega))) rfl<|VO.l (LO.mul (.r rfl) (.r rfl) (wi (by omega) (by omega))) rfl<|VO.l (LO.ld O3 (.r rfl) (cells_keep (sub_cells (off := 0) hu ⟨_, rfl⟩))) rfl<|VO.l (LO.mul (.r rfl) (.r rfl) (wi (by omega) (by omega))) rfl<|VO.l (LO.callv (first := []) (cap := []) (xs := [_,_]) (vs := [_,_]) (.r rfl) C179 ⟨(.r rfl), (.r rfl), trivial⟩ (fun w _ => down_c _ _ (by omega) (by omega) (by omega) w)) rfl<|VO.l (LO.as (.r rfl)) rfl<|VO.nil ?_)
  refine VE.seqN ?_
  refine VC.ret (VE.res (vs := [_]) rfl ⟨rfl, trivial⟩ (fun w hw => ?_))
  exact ⟨rfl, hw.nil⟩

set_option maxRecDepth 20000 in
theorem spdU_c (q lam kd fi se wl us : Int) (n5 : Int) (bt bw bu : Nat) (w : World) (hp : spdOk lam wl us q) (ht : Cells w ⟨bt, 0, none⟩ [.int .i64 lam, .int .i64 kd, .int .i64 fi, .int .i64 se, .int .i64 n5]) (hw_ : Cells w ⟨bw, 0, none⟩ [.int .i64 wl]) (hu : Cells w ⟨bu, 0, none⟩ [.int .i64 us]) :
  Calls Tryz.prog 277 #[.int .i64 q, .func (.func 180) #[] #[], .pointer (some ⟨bt, 0, none⟩), .pointer (some ⟨bw, 0, none⟩), .pointer (some ⟨bu, 0, none⟩)] w fun e w' => e = .returned (.int .i64 (up (500 * lam * (q + wl * 65536)) (65536 * us))) ∧ St (bs w) [] w' := by
  obtain ⟨a1, a2, a3, a4, a5, a6⟩ := hp
  refine enter (vs := [_,_,_,_,_]) (env := [(0,_), (1,_), (2,_), (3,_), (4,_)]) Tryz.func277 rfl rfl rfl rfl ?_
  refine VC.seq ?_
  refine VC.reg (VO.l (LO.as (.r rfl)) rfl<|VO.nil ?_)
  refine VE.seqN ?_
  refine VC.seq ?_
  refine VC.reg (VO.l (LO.mv (.r rfl)) rfl<|VO.l (LO.fa (r := 0) F23_0 (.r rfl) rfl) rfl<|VO.l (LO.ld O3 (.r rfl) (cells_keep (sub_cells (off := 0) ht ⟨_, rfl⟩))) rfl<|VO.l (LO.mul (.r rfl) (.r rfl) (wi (by omega) (by omega))) rfl<|VO.l (LO.mv (.r rfl)) rfl<|VO.l (LO.ld O3 (.r rfl) (cells_keep (sub_cells (off := 0) hw_ ⟨_, rfl⟩))) rfl<|VO.l (LO.mul (.r rfl) (.r rfl) (wi (by omega) (by omega))) rfl<|VO.l (LO.add (.r rfl) (.r rfl) (wi (by omega) (by omega))) rfl<|VO.l (LO.mul (.r rfl) (.r rfl) (wi (by omega) (by omega))) rfl<|VO.l (LO.ld O3 (.r rfl) (cells_keep (sub_cells (off := 0) hu ⟨_, rfl⟩))) rfl<|VO.l (LO.mul (.r rfl) (.r rfl) (wi (by omega) (by omega))) rfl<|VO.l (LO.callv (first := []) (cap := []) (xs := [_,_]) (vs := [_,_]) (.r rfl) C180 ⟨(.r rfl), (.r rfl), trivial⟩ (fun w _ => up_c _ _ (by omega) (by omega) (by omega) w)) rfl<|VO.l (LO.as (.r rfl)) rfl<|VO.nil ?_)
  refine VE.seqN ?_
  refine VC.ret (VE.res (vs := [_]) rfl ⟨rfl, trivial⟩ (fun w hw => ?_))
  exact ⟨rfl, hw.nil⟩

set_option maxRecDepth 20000 in
theorem Speed_c (t : Train) (wh : Int) (s : Span) (wl : Int) (w : World) :
  Calls Tryz.prog 241 #[trainV t, .int .i64 wh, spanV s, .int .i64 wl] w fun e w' => e = .returned (.tuple #[spanV (spdV t wh s wl), .int .i64 (spdE t wh s wl)]) ∧ St (bs w) [] w' := by
  refine enter (vs := [_,_,_,_]) (env := [(0,_), (1,_), (2,_), (3,_)]) Tryz.func241 rfl rfl rfl rfl ?_
  refine VC.seq ?_
  refine VC.reg (VO.h rfl<|HO.box (C := #[_,_,_,_,_]) rfl rfl fun b1 => VO.h rfl<|HO.box (C := #[_,_]) rfl rfl fun b2 => VO.h rfl<|HO.box (C := #[_]) rfl rfl fun b3 => VO.h rfl<|HO.alloc (C := #[_,_]) Z25 rfl fun b4 => VO.l (LO.as (.r rfl)) rfl<|VO.nil ?_)
  refine VE.seqN ?_
  refine VC.seq ?_
  refine VC.reg (VO.l (LO.lda (vs := [_,_,_,_,_]) A23 (.r rfl) (fun _ hw => cells_at hw 3 rfl ⟨_, rfl⟩) rfl) rfl<|VO.l (LO.mv (.r rfl)) rfl<|VO.l (LO.call (xs := [_,_]) (vs := [_,_]) C276 ⟨(.r rfl), (.r rfl), trivial⟩ (fun w _ => time_c t wh w)) rfl<|VO.l (LO.mv (.r rfl)) rfl<|VO.l (LO.ex (.r rfl) rfl) rfl<|VO.l (LO.ex (.r rfl) rfl) rfl<|VO.h rfl<|HO.alloc (C := #[_]) Z3 rfl fun b5 => VO.h0<|HO.st 0 (vs := [_]) (C' := [_]) (L' := [_,_,_,_,_]) N3 rfl rfl rfl rfl rfl rfl rfl rfl<|VO.l (LO.as (.r rfl)) rfl<|VO.nil ?_)
  refine VE.seqN ?_
  refine VC.seq ?_
  refine VC.block ?_
  refine VC.seq ?_
  refine VC.reg (VO.l (LO.mv (.r rfl)) rfl<|VO.l (LO.ne (.r rfl) (.r rfl)) rfl<|VO.l (LO.as (.r rfl)) rfl<|VO.nil ?_)
  refine VE.seqN ?_
  refine VC.cond rfl (fun h19 => ?_) (fun h19 => ?_)
  ·
    refine VC.seq ?_
    refine VC.reg (VO.l (LO.bd (ps := []) (vs := []) (C := [_,_]) B25  trivial rfl rfl) rfl<|VO.l (LO.mv (.r rfl)) rfl<|VO.h0<|HO.st 1 (vs := [_,_]) (C' := [_,_]) (L' := [_,_,_,_,_]) N25 rfl rfl rfl rfl rfl rfl rfl rfl<|VO.l (LO.as (.r rfl)) rfl<|VO.nil ?_)
    refine VE.seqN ?_
    refine VC.ret (VE.inR (VE.thenR (VE.res (vs := [_,_]) rfl ⟨RV.agg (vs := [_,_]) A25 rfl (cells_blk 1 rfl ⟨_, rfl⟩) rfl, rfl, trivial⟩ (fun w hw => ?_))))
    refine ⟨?_, hw.nil⟩
    simp only [resV]
    first | exact sp1 h19 | exact sp2 h19 (by unfold inS; omega) | exact sp3 h19 (by unfold inS; omega)
  ·
    have ht := timeE_ok (t := t) h19
    refine VC.seq ?_
    refine VC.reg (VO.l (LO.lda (vs := [_,_]) A25 (.r rfl) (fun _ hw => cells_at hw 3 rfl ⟨_, rfl⟩) rfl) rfl<|VO.l (LO.call (xs := [_,_,_]) (vs := [_,_,_]) C111 ⟨(.r rfl), (.r rfl), (.r rfl), trivial⟩ (fun w _ => inside_c _ _ _ _ w)) rfl<|VO.l (LO.not (.r rfl)) rfl<|VO.l (LO.mv (.r rfl)) rfl<|VO.lg rfl rfl (GD.f _) (fun hg => LO.ld O3 (.r rfl) (fun _ hw => cells_at hw 2 rfl ⟨_, rfl⟩)) rfl<|VO.lg rfl rfl (GD.f _) (fun hg => LO.call (xs := [_,_,_]) (vs := [_,_,_]) C54 ⟨(.g hg rfl), (.r rfl), (.r rfl), trivial⟩ (fun w _ => within_c _ _ _ w)) rfl<|VO.lg rfl rfl (GD.f _) (fun hg => LO.not (.g hg rfl)) rfl<|VO.l (LO.pkO (.r rfl) (.r rfl) rfl rfl) rfl<|VO.l (LO.as (.r rfl)) rfl<|VO.nil ?_)
    refine VE.seqN ?_
    refine VC.cond rfl (fun h24 => ?_) (fun h24 => ?_)
    ·
      refine VC.seq ?_
      refine VC.reg (VO.l (LO.bd (ps := []) (vs := []) (C := [_,_]) B25  trivial rfl rfl) rfl<|VO.h0<|HO.st 1 (vs := [_,_]) (C' := [_,_]) (L' := [_,_,_,_,_]) N25 rfl rfl rfl rfl rfl rfl rfl rfl<|VO.l (LO.as (.r rfl)) rfl<|VO.nil ?_)
      refine VE.seqN ?_
      refine VC.ret (VE.inR (VE.thenR (VE.res (vs := [_,_]) rfl ⟨RV.agg (vs := [_,_]) A25 rfl (cells_blk 1 rfl ⟨_, rfl⟩) rfl, rfl, trivial⟩ (fun w hw => ?_))))
      refine ⟨?_, hw.nil⟩
      simp only [resV]
      first | exact sp1 h19 | exact sp2 h19 (by unfold inS; omega) | exact sp3 h19 (by unfold inS; omega)
    ·
      refine VC.skip (VE.inN (VE.seqN ?_))
      refine VC.seq ?_
      refine VC.reg (VO.h rfl<|HO.lo (LO.mf (cap := [_,_,_]) ⟨(.r rfl), (.r rfl), (.r rfl), trivial⟩)<|VO.h rfl<|HO.lo (LO.as (.r rfl))<|VO.nil ?_)
      refine VE.seqN ?_
      refine VC.seq ?_
      refine VC.drawH [[0,1,2,3,4], [0,2,3,4]] [some 0, some 0, some 0, some 0, some 0, some 0, some 0, some 0, some 0, none, some 1] mixed (by kernel_rfl) rfl (LX.l (fun _ hJ => LO.mv (.r rfl)) rfl<|LX.l (fun _ hJ => LO.fa (r := 0) F25_0 (.r rfl) rfl) rfl<|LX.l (fun _ hJ => LO.ld O3 (.r rfl) (fun _ hw => cells_at (hJ _ hw) 3 rfl ⟨_, rfl⟩)) rfl<|LX.l (fun _ hJ => LO.callv (first := []) (cap := [_,_,_]) (xs := [_,_]) (vs := [_,_]) (.r rfl) C277 ⟨(.r rfl), (.r rfl), trivial⟩ (fun w hw => spdD_c _ _ _ _ _ _ _ _ _ _ _ w (spdOk_of ht.1 ht.2.1 ht.2.2 (by omega) (by omega) (by omega) (by omega)) (cells_at (hJ _ hw) 4 rfl ⟨[], rfl⟩) (cells_at (hJ _ hw) 2 rfl ⟨[], rfl⟩) (cells_at (hJ _ hw) 0 rfl ⟨[], rfl⟩))) rfl<|LX.l (fun _ hJ => LO.mv (.r rfl)) rfl<|LX.l (fun _ hJ => LO.fa (r := 1) F25_1 (.r rfl) rfl) rfl<|LX.l (fun _ hJ => LO.ld O3 (.r rfl) (fun _ hw => cells_at (hJ _ hw) 3 rfl ⟨_, rfl⟩)) rfl<|LX.l (fun _ hJ => LO.callv (first := []) (cap := [_,_,_]) (xs := [_,_]) (vs := [_,_]) (.r rfl) C277 ⟨(.r rfl), (.r rfl), trivial⟩ (fun w hw => spdU_c _ _ _ _ _ _ _ _ _ _ _ w (spdOk_of ht.1 ht.2.1 ht.2.2 (by omega) (by omega) (by omega) (by omega)) (cells_at (hJ _ hw) 4 rfl ⟨[], rfl⟩) (cells_at (hJ _ hw) 2 rfl ⟨[], rfl⟩) (cells_at (hJ _ hw) 0 rfl ⟨[], rfl⟩))) rfl<|LX.l (fun _ hJ => LO.bd (ps := [(_,_), (_,_)]) (vs := [(_,_), (_,_)]) (C := [_,_]) B25  ⟨(.r rfl), (.r rfl), trivial⟩ rfl ⟨_, [_], [_,_], rfl, rfl, rfl, rfl, ⟨_, [_], [_,_], rfl, rfl, rfl, rfl, rfl⟩⟩) rfl<|LX.s<|LX.l (fun _ hJ => LO.as (.r rfl)) rfl<|LX.nil) (HX.s<|HX.s<|HX.s<|HX.s<|HX.s<|HX.s<|HX.s<|HX.s<|HX.s<|HX.h0<|HO.st 1 (vs := [_,_]) (C' := [_,_]) (L' := [_,_,_,_,_]) N25 rfl rfl rfl rfl rfl rfl rfl rfl<|⟨fun _ hw => hw.sel [0,2,3,4] rfl, HX.s<|HX.nil ?_⟩)
      refine VE.seqN ?_
      refine VC.ret (VE.res (vs := [_,_]) rfl ⟨RV.agg (vs := [_,_]) A25 rfl (cells_blk 1 rfl ⟨_, rfl⟩) rfl, rfl, trivial⟩ (fun w hw => ?_))
      refine ⟨?_, hw.nil⟩
      simp only [resV]
      first | exact sp1 h19 | exact sp2 h19 (by unfold inS; omega) | exact sp3 h19 (by unfold inS; omega)

end Go.Proofs.YtffbohecdocajaaGreat

namespace Go.Proofs.YtffbohecdocajaaGreat
open Go.SL Go.Proofs Go.Pulse
set_option linter.unusedVariables false

theorem C241 : IsFn Tryz.prog 241 := ⟨_, Tryz.func241, by decide, rfl⟩
end Go.Proofs.YtffbohecdocajaaGreat

namespace Go.Proofs.YtffbohecdocajaaGreat
open Go.SL Go.Proofs Go.Pulse
set_option linter.unusedVariables false



section
variable {a b n m S sl : Int}
theorem div_mono2 (hm : 0 < m) (hmn : m ≤ n) (hb : 0 ≤ b) (hab : a ≤ b) : a / n ≤ b / m := by
  have h1 : a / n ≤ b / n := Int.ediv_le_ediv (by omega) hab
  have h2 : 0 ≤ b / n := Int.ediv_nonneg hb (by omega)
  have h3 := Int.mul_ediv_add_emod b n
  have h6 := Int.emod_nonneg b (show n ≠ 0 by omega)
  have h4 : b / n * m ≤ b / n * n := Int.mul_le_mul_of_nonneg_left hmn h2
  rw [Int.mul_comm (b / n) n] at h4
  have h5 := Int.le_ediv_of_mul_le hm (show b / n * m ≤ b by omega)
  omega
theorem le_up_mul (hm : 0 < m) : b ≤ up b m * m := by
  unfold up
  have h1 := Int.mul_ediv_add_emod (-b) m
  have h2 := Int.emod_nonneg (-b) (show m ≠ 0 by omega)
  rw [Int.neg_mul, Int.mul_comm]; omega
theorem up_nn (hm : 0 < m) (hb : 0 ≤ b) : 0 ≤ up b m := by
  unfold up
  have := Int.ediv_le_ediv hm (show -b ≤ 0 by omega)
  rw [Int.zero_ediv] at this; omega
theorem div_le_up2 (hm : 0 < m) (hmn : m ≤ n) (hb : 0 ≤ b) (hab : a ≤ b) : a / n ≤ up b m := by
  have h1 := div_mono2 hm hmn hb hab
  have h2 := div_up (n := m) hm (Int.le_refl b)
  omega
theorem mean_wid (hn : 0 < n) (h0 : 0 ≤ sl) (h1 : sl ≤ 8192 * n) : (S - sl) / n ≤ up (S + sl) n ∧ up (S + sl) n - (S - sl) / n ≤ 16386 := by
  refine ⟨div_up hn (by omega), ?_⟩
  have e1 := Int.mul_ediv_add_emod (S - sl) n
  have e2 := Int.emod_lt_of_pos (S - sl) hn
  have e3 := Int.mul_ediv_add_emod (-(S + sl)) n
  have e4 := Int.emod_lt_of_pos (-(S + sl)) hn
  have e5 := Int.emod_nonneg (S - sl) (show n ≠ 0 by omega)
  have e6 := Int.emod_nonneg (-(S + sl)) (show n ≠ 0 by omega)
  have k : n * (up (S + sl) n - (S - sl) / n) < n * 16387 := by
    unfold up
    rw [Int.mul_sub, Int.mul_neg]; omega
  have := Int.lt_of_mul_lt_mul_left k (by omega)
  omega
end
theorem meanS_nil (sl : Int) : meanS [] sl = zs := rfl
theorem mean_ok {s : List Int} {sl : Int} (h0 : 0 ≤ sl) (h1 : s ≠ [] → sl ≤ 8192 * (s.length : Int)) : turnS (meanS s sl) := by
  by_cases h : s = []
  · subst h; rw [meanS_nil]; decide
  · have hn : 0 < (s.length : Int) := by cases s with | nil => exact absurd rfl h | cons => simp
    have w1 := mean_wid (S := arcSum s) hn h0 (h1 h)
    unfold meanS turnS
    rw [if_neg h]
    dsimp only
    have w2 := wr_bd ((arcSum s - sl) / (s.length : Int) + 32768)
    omega
theorem prX_le {a c m n : Int} (h : m ≤ n) : max 0 (a + m) * max 0 (c + m) ≤ max 0 (a + n) * max 0 (c + n) := Int.mul_le_mul (by omega) (by omega) (by omega) (by omega)
theorem Bet.own {r : Recv} {l : List Sample} (hr : recvOk r) (hs : ∀ x ∈ l, smpOk x) : sumH (-r.level) l ≤ sumH r.level l ∧ sumV (-r.level) l ≤ sumV r.level l ∧ sumX (-r.level) l ≤ sumX r.level l := by
  unfold recvOk at hr
  exact ⟨sum_le (fun x _ => sq_le (by omega)), sum_le (fun x _ => sq_le (by omega)), sum_le (fun x _ => prX_le (by omega))⟩
theorem sh_bd {a b : Int} (ha : 0 ≤ a) (hb : 0 ≤ b) : (0 ≤ shareD a b ∧ shareD a b ≤ 1000) ∧ 0 ≤ shareU a b ∧ shareU a b ≤ 1000 := by
  have h1 : 0 ≤ 1000 * a * a := Int.mul_nonneg (by omega) ha
  unfold shareD shareU
  by_cases h : b = 0
  · rw [if_pos h, if_pos h]; omega
  · rw [if_neg h, if_neg h]
    have := Int.ediv_nonneg h1 hb
    have := up_nn (m := b) (b := 1000 * a * a) (by omega) h1
    omega
theorem sq3 {a b : Int} (ha : 0 ≤ a) (h : a ≤ b) : 1000 * a * a ≤ 1000 * b * b ∧ 0 ≤ 1000 * b * b := ⟨Int.mul_le_mul (by omega) h ha (by omega), Int.mul_nonneg (by omega) (by omega)⟩
theorem sh_le {a a' b b' : Int} (ha : 0 ≤ a) (h : a ≤ a') (hb : 0 ≤ b') (hbb : b' ≤ b) : shareD a b ≤ shareU a' b' := by
  by_cases q : b' = 0
  · rw [show shareU a' b' = 1000 from if_pos q]; exact (sh_bd ha (by omega)).1.2
  · unfold shareD shareU
    rw [if_neg q, if_neg (by omega)]
    have h2 := sq3 ha h
    have := div_le_up2 (n := b) (m := b') (by omega) hbb h2.2 h2.1
    omega
section
variable {r r' : Recv} {l l' : List Sample}
theorem sums_nn (hr : recvOk r) (hs : ∀ x ∈ l, smpOk x) : (0 ≤ sumH (-r.level) l ∧ 0 ≤ sumH r.level l) ∧ (0 ≤ sumV (-r.level) l ∧ 0 ≤ sumV r.level l) ∧ 0 ≤ sumX (-r.level) l ∧ 0 ≤ sumX r.level l := by
  unfold recvOk at hr
  have a1 := sumH_bd (m := -r.level) (l := l) (by omega) (by omega) hs
  have a2 := sumH_bd (m := r.level) (l := l) (by omega) (by omega) hs
  have a3 := sumV_bd (m := -r.level) (l := l) (by omega) (by omega) hs
  have a4 := sumV_bd (m := r.level) (l := l) (by omega) (by omega) hs
  have a5 := sumX_bd (m := -r.level) (l := l) (by omega) (by omega) hs
  have a6 := sumX_bd (m := r.level) (l := l) (by omega) (by omega) hs
  omega
theorem mtch_bd (hr : recvOk r) (hs : ∀ x ∈ l, smpOk x) : inS (mtchS r l) 0 1000 := by
  have z := sums_nn hr hs
  have o := Bet.own hr hs
  have m1 := Int.mul_nonneg z.1.1 z.2.1.1
  have m2 : sumH (-r.level) l * sumV (-r.level) l ≤ sumH r.level l * sumV r.level l := Int.mul_le_mul o.1 o.2.1 z.2.1.1 z.1.2
  have b1 := sh_bd (a := sumX (-r.level) l) (b := sumH r.level l * sumV r.level l) z.2.2.1 (by omega)
  have b2 := sh_bd (a := sumX r.level l) (b := sumH (-r.level) l * sumV (-r.level) l) z.2.2.2 m1
  have b3 := sh_le z.2.2.1 o.2.2 m1 m2
  unfold inS mtchS
  dsimp only
  omega
theorem ratio_bd (hr : recvOk r) (hn : 0 < (l.length : Int)) (hs : ∀ x ∈ l, smpOk x) (hz : 0 < (pow0 r l).lo) : inS (ratioS (pow0 r l) (pow1 r l)) 0 1000000 := by
  have p := pow_bd hr hn hs
  have d := div_le_up2 (a := 1000 * (pow1 r l).lo) (b := 1000 * (pow1 r l).hi) (n := (pow0 r l).hi) (m := (pow0 r l).lo) hz (by omega) (by omega) (by omega)
  have e := Int.ediv_nonneg (a := 1000 * (pow1 r l).lo) (b := (pow0 r l).hi) (by omega) (by omega)
  unfold inS ratioS
  dsimp only
  omega
end
section
variable {t : Train} {r : Recv} {l : List Sample}
theorem slk_bd {s : List Int} (hr : recvOk r) : 0 ≤ slk t r s ∧ (s ≠ [] → slk t r s ≤ 8192 * (s.length : Int)) := by
  unfold recvOk at hr
  have p := prod_bd (x := 2 * r.phase) (y := (s.length : Int)) (A := 8192) (B := (s.length : Int)) (by omega) (by omega) (by omega) (Int.le_refl _)
  refine ⟨?_, fun h => ?_⟩
  · unfold slk; split <;> omega
  · have hn : 0 < (s.length : Int) := by cases s with | nil => exact absurd rfl h | cons => simp
    unfold slk; split <;> omega
theorem slkT_bd (hr : recvOk r) : 0 ≤ 2 * r.phase * (l.length : Int) ∧ (turnL l ≠ [] → 2 * r.phase * (l.length : Int) ≤ 8192 * ((turnL l).length : Int)) := by
  unfold recvOk at hr
  have p := prod_bd (x := 2 * r.phase) (y := (l.length : Int)) (A := 8192) (B := (l.length : Int)) (by omega) (by omega) (by omega) (Int.le_refl _)
  rw [show (turnL l).length = l.length from List.length_map ..]
  exact ⟨p.1, fun _ => p.2⟩
theorem spread_bd : 0 ≤ spreadL t l ∧ spreadL t l ≤ 65535 := by
  have a := wid_bd (stL_inT t.kind l 0)
  have b := wid_bd (stL_inT t.kind l 1)
  unfold spreadL; omega
theorem hear_ok (hr : recvOk r) (hn : 0 < (l.length : Int)) (hs : ∀ x ∈ l, smpOk x) : echoE (hearX t r l) = 0 := by
  have p := pow_bd hr hn hs
  have sb := spread_bd (t := t) (l := l)
  have pw : inS (pow0 r l) 0 1073741824 := by unfold inS; omega
  unfold hearX
  by_cases hz : (pow0 r l).lo = 0
  · rw [if_pos hz]
    generalize pow0 r l = q at *
    obtain ⟨a, b⟩ := q
    dsimp only at hz
    subst hz
    unfold echoE
    rw [if_pos (.inl rfl), if_pos ⟨pw, .inl ⟨rfl, rfl⟩⟩]
  · rw [if_neg hz]
    have rb := ratio_bd hr hn hs (by omega)
    have mb := mtch_bd hr hs
    by_cases g : goodT t r l
    · rw [if_neg (fun q => q g)]
      unfold echoE
      rw [if_pos (.inr (.inr rfl)), if_pos ⟨pw, .inr ⟨.inr rfl, by dsimp only; omega, rb, mb, sb, .inr ⟨rfl, mean_ok (slk_bd hr).1 (slk_bd hr).2, mean_ok (slk_bd hr).1 (slk_bd hr).2, mean_ok (slkT_bd hr).1 (slkT_bd hr).2⟩⟩⟩]
    · rw [if_pos g]
      unfold echoE
      rw [if_pos (.inr (.inl rfl)), if_pos ⟨pw, .inr ⟨.inl rfl, by dsimp only; omega, rb, mb, sb, .inl ⟨rfl, rfl, rfl, rfl⟩⟩⟩]
end

section
variable {t : Train} {r r' : Recv} {l : List Sample}
theorem hearX_1 (hz : (pow0 r l).lo = 0) : hearX t r l = { zE with kind := 1, power := pow0 r l } := if_pos hz
theorem hearX_2 (hz : ¬ (pow0 r l).lo = 0) (g : ¬ goodT t r l) : hearX t r l = { zE with kind := 2, power := pow0 r l, spread := spreadL t l, ratio := ratioS (pow0 r l) (pow1 r l), mtch := mtchS r l } := by unfold hearX; rw [if_neg hz, if_pos g]
theorem hearX_3 (hz : ¬ (pow0 r l).lo = 0) (g : goodT t r l) : hearX t r l = ⟨3, pow0 r l, meanS (stL t.kind l 0) (slk t r (stL t.kind l 0)), meanS (stL t.kind l 1) (slk t r (stL t.kind l 1)), spreadL t l, ratioS (pow0 r l) (pow1 r l), mtchS r l, meanS (turnL l) (2 * r.phase * l.length)⟩ := by unfold hearX; rw [if_neg hz, if_neg (fun q => q g)]
end
end Go.Proofs.YtffbohecdocajaaGreat

namespace Go.Proofs.YtffbohecdocajaaGreat
open Go.SL Go.Proofs Go.Pulse
set_option linter.unusedVariables false

theorem N28 : (Tryz.prog.info? 28).map (·.size) = some 1 := by kernel_rfl
theorem O28 : IsOne Tryz.prog 28 := ⟨⟨_, Tryz.underlying28, rfl⟩, by kernel_rfl⟩
theorem Z27 : ZeroOf Tryz.prog 27 (.agg #[.int .i64 0, .int .i64 0, .int .i64 0, .int .i64 0]) := by unfold ZeroOf; kernel_rfl
theorem N27 : (Tryz.prog.info? 27).map (·.size) = some 4 := by kernel_rfl
end Go.Proofs.YtffbohecdocajaaGreat

namespace Go.Proofs.YtffbohecdocajaaGreat
open Go.SL Go.Proofs Go.Pulse
set_option linter.unusedVariables false



theorem sum_abs {f : Nat → Int} {B : Int} : ∀ {l : List Nat}, (∀ i ∈ l, -B ≤ f i ∧ f i ≤ B) → -(B * (l.length : Int)) ≤ (l.map f).sum ∧ (l.map f).sum ≤ B * (l.length : Int)
  | [],_ => by simp
  | x :: l, h => by
    have h1 := h x (by simp)
    have h2 := sum_abs (f := f) (B := B) (l := l) (fun y hy => h y (by simp [hy]))
    simp only [List.map_cons, List.sum_cons, List.length_cons]
    rw [show ((l.length + 1 : Nat) : Int) = (l.length : Int) + 1 by omega, Int.mul_add, Int.mul_one]
    omega
end Go.Proofs.YtffbohecdocajaaGreat

namespace Go.Proofs.YtffbohecdocajaaGreat
open Go.SL Go.Proofs Go.Pulse
set_option linter.unusedVariables false



structure Q4 where
  a : Int
  b : Int
  c : Int
  d : Int
section
variable {l : List Sample} {r : Recv} {ds : List Q4} {t : Train}
end
theorem tele {o : Nat → Int} {a b : Nat} (hab : a ≤ b) : ∀ m : Nat, (((List.range m).filter fun i => decide (a ≤ i ∧ i < b)).map fun i => o (i + 1) - o i).sum = o (max a (min m b)) - o a
  | 0 => by simp
  | m + 1 => by
    have ih := tele (o := o) hab m
    rw [List.range_succ, List.filter_append, List.map_append, List.sum_append, ih]
    by_cases h : a ≤ m ∧ m < b
    · rw [show max a (min m b) = m by omega, show max a (min (m + 1) b) = m + 1 by omega]
      simp [h]; omega
    · rw [show max a (min (m + 1) b) = max a (min m b) by omega]
      simp [h]
def stI (k : Int) (n : Nat) (w : Int) : List Nat := (List.range (n - 1)).filter fun i => decide (stW k n i = w)
end Go.Proofs.YtffbohecdocajaaGreat

namespace Go.Proofs.YtffbohecdocajaaGreat
open Go.SL Go.Proofs Go.Pulse
set_option linter.unusedVariables false



section
variable {l : List Sample} {r : Recv} {ds : List Q4} {t : Train} {k w : Int}
theorem stL_I : stL k l w = (stI k l.length w).map (stD l) := rfl
theorem stI_lt {n i : Nat} (hi : i ∈ stI k n w) : i + 1 < n := by
  have := (List.mem_filter.1 hi).1
  rw [List.mem_range] at this; omega
theorem stI_ab (n : Nat) (hk : k = 1 ∨ k = 2) (hw : w = 0 ∨ w = 1) : ∃ a b : Nat, a ≤ b ∧ stI k n w = (List.range (n - 1)).filter fun i => decide (a ≤ i ∧ i < b) := by
  have key : ∀ a b : Nat, a ≤ b → (∀ i, i < n - 1 → (stW k n i = w ↔ (a ≤ i ∧ i < b))) → ∃ a b : Nat, a ≤ b ∧ stI k n w = (List.range (n - 1)).filter fun i => decide (a ≤ i ∧ i < b) := fun a b hab h => ⟨a, b, hab, List.filter_congr fun i hi => by
    rw [List.mem_range] at hi
    exact decide_eq_decide.2 (h i hi)⟩
  rcases hk with rfl | rfl
  · rcases hw with rfl | rfl
    · exact key 0 n (by omega) fun i hi => by unfold stW; rw [if_pos rfl]; omega
    · exact key 0 0 (by omega) fun i hi => by unfold stW; rw [if_pos rfl]; omega
  · rcases hw with rfl | rfl
    · exact key 0 (n / 2 - 1) (by omega) fun i hi => by
        unfold stW; rw [if_neg (by decide), if_pos rfl]
        by_cases p : i + 1 = n / 2
        · rw [if_pos p]; omega
        · rw [if_neg p]
          by_cases q : n / 2 ≤ i
          · rw [if_pos q]; omega
          · rw [if_neg q]; omega
    · exact key (n / 2) n (by omega) fun i hi => by
        unfold stW; rw [if_neg (by decide), if_pos rfl]
        by_cases p : i + 1 = n / 2
        · rw [if_pos p]; omega
        · rw [if_neg p]
          by_cases q : n / 2 ≤ i
          · rw [if_pos q]; omega
          · rw [if_neg q]; omega
end
end Go.Proofs.YtffbohecdocajaaGreat

namespace Go.Proofs.YtffbohecdocajaaGreat
open Go.SL Go.Proofs Go.Pulse
set_option linter.unusedVariables false

/-- What a span of steps has, if each number differs by little from a quotient X / D, and so does their sum. -/
theorem arc_speed {I : List Nat} {d δ : Nat → Int} {X D e sl : Int} (hI : I ≠ []) (hD : 0 < D) (he : 0 ≤ e) (hd : ∀ i ∈ I, d i = wr (δ i)) (hδ : ∀ i ∈ I, -(2 * e * D) ≤ D * δ i - X ∧ D * δ i - X ≤ 2 * e * D)
    (hS : -(sl * D) ≤ (I.map fun i => D * δ i - X).sum ∧ (I.map fun i => D * δ i - X).sum ≤ sl * D) (hg : tog (I.map d) e) :
    ∃ k : Int, D * ((meanS (I.map d) sl).lo + k * 65536) ≤ X ∧ X ≤ D * ((meanS (I.map d) sl).hi + k * 65536) := by
  have hne : I.map d ≠ [] := fun q => hI (List.map_eq_nil_iff.1 q)
  have hW : (arcR (I.map d)).2 + 4 * e < 32768 := by
    rcases hg with h | h
    · exact absurd h hne
    · exact h
  have hP := arcR_is hne
  generalize hb : (arcR (I.map d)).1 = b at hP
  generalize hw : (arcR (I.map d)).2 = W at hP hW
  have hu : ∀ i ∈ I, 0 ≤ wr (d i - b) ∧ wr (d i - b) ≤ W := fun i hi => by
    have := arcW_ge (l := I.map d) (d := b) (x := d i) (List.mem_map_of_mem hi)
    rw [← hP.2.1] at this
    exact ⟨(wr_bd _).1, this⟩
  have hq : ∀ i ∈ I, wr (d i - b) = δ i - b - 65536 * ((δ i - b) / 65536) := fun i hi => by
    rw [hd i hi]
    have : wr (wr (δ i) - b) = wr (δ i - b) := by unfold wr; omega
    rw [this]
    unfold wr
    have := Int.mul_ediv_add_emod (δ i - b) 65536
    omega
  obtain ⟨i0, hi0⟩ := List.exists_mem_of_ne_nil I hI
  have hK : ∀ i ∈ I, (δ i - b) / 65536 = (δ i0 - b) / 65536 := fun i hi => by
    have a1 := hu i hi
    have a2 := hu i0 hi0
    have b1 := hq i hi
    have b2 := hq i0 hi0
    have c1 := hδ i hi
    have c2 := hδ i0 hi0
    generalize (δ i - b) / 65536 = q at *
    generalize (δ i0 - b) / 65536 = q0 at *
    have e1 : -(4 * e) ≤ δ i - δ i0 ∧ δ i - δ i0 ≤ 4 * e := by
      have k1 : D * (δ i - δ i0) ≤ D * (4 * e) := by
        have : D * (δ i - δ i0) = (D * δ i - X) - (D * δ i0 - X) := by rw [Int.mul_sub]; omega
        have : D * (4 * e) = 2 * e * D + 2 * e * D := by grind
        omega
      have k2 : D * (-(4 * e)) ≤ D * (δ i - δ i0) := by
        have : D * (δ i - δ i0) = (D * δ i - X) - (D * δ i0 - X) := by rw [Int.mul_sub]; omega
        have : D * (-(4 * e)) = -(2 * e * D) + -(2 * e * D) := by grind
        omega
      exact ⟨Int.le_of_mul_le_mul_left k2 hD, Int.le_of_mul_le_mul_left k1 hD⟩
    omega
  generalize hk : (δ i0 - b) / 65536 = K at hK
  have hn : 0 < (I.length : Int) := by
    have := List.length_pos_iff.2 hI
    omega
  have hsum : D * arcSum (I.map d) = (I.map fun i => D * δ i - X).sum + (X - D * (65536 * K)) * (I.length : Int) := by
    have e0 : arcSum (I.map d) = (I.map fun i => δ i - 65536 * K).sum := by
      unfold arcSum arcT
      rw [hb, List.map_map]
      congr 1
      refine List.map_congr_left fun i hi => ?_
      show b + wr (d i - b) = _
      rw [hq i hi, hK i hi]; omega
    have e1 : ∀ l : List Nat, D * (l.map fun i => δ i - 65536 * K).sum = (l.map fun i => D * δ i - X).sum + (X - D * (65536 * K)) * (l.length : Int) := fun l => by
      induction l with
      | nil => simp
      | cons a l ih =>
        simp only [List.map_cons, List.sum_cons, List.length_cons]
        rw [Int.mul_add, ih, Int.mul_sub]
        have : (X - D * (65536 * K)) * ((l.length + 1 : Nat) : Int) = (X - D * (65536 * K)) * (l.length : Int) + (X - D * (65536 * K)) := by
          rw [show ((l.length + 1 : Nat) : Int) = (l.length : Int) + 1 by omega, Int.mul_add, Int.mul_one]
        omega
    rw [e0]; exact e1 I
  have em : meanS (I.map d) sl = ⟨wr ((arcSum (I.map d) - sl) / (I.length : Int) + 32768) - 32768, wr ((arcSum (I.map d) - sl) / (I.length : Int) + 32768) - 32768 + up (arcSum (I.map d) + sl) (I.length : Int) - (arcSum (I.map d) - sl) / (I.length : Int)⟩ := by
    unfold meanS
    rw [if_neg hne, List.length_map]
  rw [em]
  generalize hs : arcSum (I.map d) = s at *
  generalize hlo : (s - sl) / (I.length : Int) = lo
  generalize hhi : up (s + sl) (I.length : Int) = hi
  generalize hnn : (I.length : Int) = n at *
  have l1 : lo * n ≤ s - sl := by rw [← hlo]; have := Int.mul_ediv_add_emod (s - sl) n; have := Int.emod_nonneg (s - sl) (show n ≠ 0 by omega); rw [Int.mul_comm]; omega
  have l2 : s + sl ≤ hi * n := by rw [← hhi]; exact le_up_mul hn
  have m1 : D * (lo + 65536 * K) ≤ X := by
    have h1 : D * (lo * n) ≤ D * (s - sl) := Int.mul_le_mul_of_nonneg_left l1 (by omega)
    refine Int.le_of_mul_le_mul_left (a := n) ?_ hn
    grind
  have m2 : X ≤ D * (hi + 65536 * K) := by
    have h1 : D * (s + sl) ≤ D * (hi * n) := Int.mul_le_mul_of_nonneg_left l2 (by omega)
    refine Int.le_of_mul_le_mul_left (a := n) ?_ hn
    grind
  have hj : wr (lo + 32768) - 32768 = lo - 65536 * ((lo + 32768) / 65536) := by
    unfold wr
    have := Int.mul_ediv_add_emod (lo + 32768) 65536
    omega
  refine ⟨K + (lo + 32768) / 65536, ?_, ?_⟩
  · show D * (wr (lo + 32768) - 32768 + _) ≤ X
    rw [hj, show lo - 65536 * ((lo + 32768) / 65536) + (K + (lo + 32768) / 65536) * 65536 = lo + 65536 * K by omega]
    exact m1
  · show X ≤ D * (wr (lo + 32768) - 32768 + hi - lo + _)
    rw [hj, show lo - 65536 * ((lo + 32768) / 65536) + hi - lo + (K + (lo + 32768) / 65536) * 65536 = hi + 65536 * K by omega]
    exact m2
/-! ### Phases of something that moves -/
/-- The time from a pulse to the next one. -/
def timU (t : Train) (i : Nat) : Int := if (t.kind = 2 ∧ t.count / 2 ≤ (i : Int)) ∨ (t.kind = 3 ∧ i % 2 = 1) then t.second else t.first
def timT (t : Train) : Nat → Int
  | 0 => 0
  | i + 1 => timT t i + timU t i
def usW (t : Train) (w : Int) : Int := if w = 1 then t.second else t.first
/-- A phase before it is turned back: of a speed v, with a slip. -/
def phA (t : Train) (v : Int) (sl : Nat → Int) (i : Nat) : Int := v * 65536 * timT t i / (500 * t.lam) + sl i
theorem timU_w {t : Train} {l : List Sample} {w : Int} {i : Nat} (hl : (l.length : Int) = t.count) (hk : kndOk t.kind) (hw : w = 0 ∨ w = 1) (hi : i ∈ stI t.kind l.length w) : timU t i = usW t w := by
  have h := (List.mem_filter.1 hi).2
  have h2 : stW t.kind l.length i = w := of_decide_eq_true h
  unfold stW at h2
  unfold timU usW
  rcases hk with e | e | e <;> rw [e] at h2 ⊢
  · rw [if_pos rfl] at h2
    rw [if_neg (by omega), if_neg (by omega)]
  · rw [if_neg (by decide), if_pos rfl] at h2
    split at h2
    · omega
    · split at h2
      · rw [if_pos (.inl ⟨rfl, by omega⟩), if_pos h2.symm]
      · rw [if_neg (by omega), if_neg (by omega)]
  · rw [if_neg (by decide), if_neg (by decide)] at h2
    rcases hw with q | q
    · rw [if_neg (by omega), if_neg (by omega)]
    · rw [if_pos (.inr ⟨rfl, by omega⟩), if_pos q]
/-- How far a phase is from the true one: below so much. -/
theorem phA_off {t : Train} {v e : Int} {sl : Nat → Int} (hD : 0 < t.lam) (hs : ∀ i, -(e - 1) ≤ sl i ∧ sl i ≤ e - 1) (i : Nat) :
    -(e * (500 * t.lam)) ≤ 500 * t.lam * phA t v sl i - v * 65536 * timT t i ∧ 500 * t.lam * phA t v sl i - v * 65536 * timT t i ≤ (e - 1) * (500 * t.lam) := by
  have hs := hs i
  unfold phA
  generalize hA : v * 65536 * timT t i = A
  generalize hD' : 500 * t.lam = D
  have hDp : 0 < D := by omega
  have h1 := Int.mul_ediv_add_emod A D
  have h2 := Int.emod_nonneg A (show D ≠ 0 by omega)
  have h3 := Int.emod_lt_of_pos A hDp
  have k1 : D * sl i ≤ D * (e - 1) := Int.mul_le_mul_of_nonneg_left hs.2 (by omega)
  have k2 : D * (-(e - 1)) ≤ D * sl i := Int.mul_le_mul_of_nonneg_left hs.1 (by omega)
  generalize A / D = q at *
  generalize A % D = r at *
  rw [Int.mul_add]
  constructor <;> grind
theorem speed_in {t : Train} {r : Recv} {l : List Sample} {v : Int} {sl : Nat → Int} {w : Int} (hk : kndOk t.kind) (hw : w = 0 ∨ w = 1) (hD : 0 < t.lam) (he : 1 ≤ r.phase) (hl : (l.length : Int) = t.count)
    (hp : ∀ i, i < l.length → (l.getD i zSm).p = wr (phA t v sl i)) (hs : ∀ i, -(r.phase - 1) ≤ sl i ∧ sl i ≤ r.phase - 1) (hne : stL t.kind l w ≠ []) (hg : tog (stL t.kind l w) r.phase) :
    ∃ k : Int, 500 * t.lam * ((meanS (stL t.kind l w) (slk t r (stL t.kind l w))).lo + k * 65536) ≤ v * 65536 * usW t w ∧ v * 65536 * usW t w ≤ 500 * t.lam * ((meanS (stL t.kind l w) (slk t r (stL t.kind l w))).hi + k * 65536) := by
  rw [stL_I] at hne hg ⊢
  have hI : stI t.kind l.length w ≠ [] := fun q => hne (by rw [q]; rfl)
  generalize hDD : 500 * t.lam = D
  have hDp : 0 < D := by omega
  have off := fun i => phA_off (v := v) hD hs i
  rw [hDD] at off
  have step : ∀ i ∈ stI t.kind l.length w, D * (phA t v sl (i + 1) - phA t v sl i) - v * 65536 * usW t w = (D * phA t v sl (i + 1) - v * 65536 * timT t (i + 1)) - (D * phA t v sl i - v * 65536 * timT t i) := fun i hi => by
    have := timU_w hl hk hw hi
    have e : timT t (i + 1) = timT t i + usW t w := by rw [← this]; rfl
    rw [e]; grind
  refine arc_speed (δ := fun i => phA t v sl (i + 1) - phA t v sl i) hI hDp (show 0 ≤ r.phase by omega) (fun i hi => ?_) (fun i hi => ?_) ?_ hg
  · have := stI_lt hi
    unfold stD
    rw [hp _ (by omega), hp _ (by omega)]
    unfold wr; omega
  · rw [step i hi]
    have a := off (i + 1)
    have b := off i
    constructor <;> grind
  · have hone : ∀ i ∈ stI t.kind l.length w, -(2 * r.phase * D) ≤ D * (phA t v sl (i + 1) - phA t v sl i) - v * 65536 * usW t w ∧ D * (phA t v sl (i + 1) - phA t v sl i) - v * 65536 * usW t w ≤ 2 * r.phase * D := fun i hi => by
      rw [step i hi]
      have a := off (i + 1)
      have b := off i
      constructor <;> grind
    unfold slk
    split
    · have := sum_abs hone
      rw [List.length_map]
      constructor <;> grind
    · rename_i h3
      obtain ⟨a, b, hab, hE⟩ := stI_ab (w := w) (k := t.kind) l.length (by rcases hk with e | e | e <;> omega) hw
      have e1 : ((stI t.kind l.length w).map fun i => D * (phA t v sl (i + 1) - phA t v sl i) - v * 65536 * usW t w) = (stI t.kind l.length w).map fun i => (fun i => D * phA t v sl i - v * 65536 * timT t i) (i + 1) - (fun i => D * phA t v sl i - v * 65536 * timT t i) i := List.map_congr_left fun i hi => step i hi
      rw [e1, hE, tele (o := fun i => D * phA t v sl i - v * 65536 * timT t i) hab (l.length - 1)]
      have a1 := off (max a (min (l.length - 1) b))
      have b1 := off a
      constructor <;> grind
/-- The number of whole turns is small. -/
theorem whole_bd {t : Train} {v lo hi us k : Int} (hlam : 60000 ≤ t.lam) (hv : -40000 ≤ v ∧ v ≤ 40000) (hus : 0 ≤ us ∧ us ≤ 2500) (h1 : 500 * t.lam * (lo + k * 65536) ≤ v * 65536 * us) (h2 : v * 65536 * us ≤ 500 * t.lam * (hi + k * 65536)) (hlo : -32768 ≤ lo) (hhi : hi ≤ 98302) : -6 ≤ k ∧ k ≤ 6 := by
  generalize hDD : 500 * t.lam = D at *
  have hD : 30000000 ≤ D := by omega
  have a1 : v * us ≤ 100000000 := by
    have : v * us ≤ 40000 * 2500 := Int.le_trans (Int.mul_le_mul_of_nonneg_right hv.2 hus.1) (Int.mul_le_mul_of_nonneg_left hus.2 (by omega))
    omega
  have a2 : -100000000 ≤ v * us := by
    have : -40000 * us ≤ v * us := Int.mul_le_mul_of_nonneg_right hv.1 hus.1
    omega
  have e : v * 65536 * us = 65536 * (v * us) := by grind
  rw [e] at h1 h2
  generalize v * us = X at *
  constructor
  · rcases Int.lt_or_le k (-6) with q | q
    · exfalso
      have : D * (hi + k * 65536) ≤ D * (-327680) := Int.mul_le_mul_of_nonneg_left (by omega) (by omega)
      omega
    · exact q
  · rcases Int.lt_or_le 6 k with q | q
    · exfalso
      have : D * 327680 ≤ D * (lo + k * 65536) := Int.mul_le_mul_of_nonneg_left (by omega) (by omega)
      omega
    · exact q
/-- The span of speeds of so many whole turns. -/
def spdS (t : Train) (us : Int) (s : Span) (k : Int) : Span := ⟨500 * t.lam * (s.lo + k * 65536) / (65536 * us), up (500 * t.lam * (s.hi + k * 65536)) (65536 * us)⟩
theorem spv_in {t : Train} {us v k : Int} {s : Span} (hu : 0 < us) (h1 : 500 * t.lam * (s.lo + k * 65536) ≤ v * 65536 * us) (h2 : v * 65536 * us ≤ 500 * t.lam * (s.hi + k * 65536)) : (spdS t us s k).lo ≤ v ∧ v ≤ (spdS t us s k).hi := by
  have e : v * 65536 * us = v * (65536 * us) := by rw [Int.mul_assoc]
  have hm : 0 < 65536 * us := by omega
  rw [e] at h1 h2
  constructor
  · have := Int.ediv_le_ediv hm h1
    rwa [Int.mul_ediv_cancel _ (by omega)] at this
  · have := le_up_mul (b := 500 * t.lam * (s.hi + k * 65536)) hm
    exact Int.le_of_mul_le_mul_right (Int.le_trans h2 this) hm
end Go.Proofs.YtffbohecdocajaaGreat

namespace Go.Proofs.YtffbohecdocajaaGreat
open Go.SL Go.Proofs Go.Pulse
set_option linter.unusedVariables false

/-! ### Sets of speeds -/
/-- Whether the half of a number lies in a set. -/
def memH (l : List Span) (z : Int) : Prop := ∃ s, s ∈ l ∧ 2 * s.lo ≤ z ∧ z ≤ 2 * s.hi
instance (l : List Span) (z : Int) : Decidable (memH l z) := by
  unfold memH
  exact decidable_of_iff (∃ s ∈ l, 2 * s.lo ≤ z ∧ z ≤ 2 * s.hi) ⟨fun ⟨s, h, k⟩ => ⟨s, h, k⟩, fun ⟨s, h, k⟩ => ⟨s, h, k⟩⟩
def valS (l : List Span) : Prop := ∀ s, s ∈ l → s.lo ≤ s.hi
structure CanS (l : List Span) : Prop where
  v : valS l
  a : l.Pairwise fun a b => a.hi < b.lo
def zS : Span := ⟨0,0⟩
def unStep (o : List Span) (x : Span) : List Span :=
  if 0 < o.length ∧ x.lo ≤ (o.getD (o.length - 1) zS).hi then o.set (o.length - 1) ⟨(o.getD (o.length - 1) zS).lo, max (o.getD (o.length - 1) zS).hi x.hi⟩ else o ++ [x]
section
variable {o l s t a b m : List Span} {x : Span} {z : Int}
theorem memH_nil : ¬ memH [] z := fun ⟨_, h,_⟩ => by cases h
theorem memH_app : memH (a ++ b) z ↔ memH a z ∨ memH b z := by
  constructor
  · rintro ⟨s, h, k⟩
    rcases List.mem_append.1 h with h | h
    · exact .inl ⟨s, h, k⟩
    · exact .inr ⟨s, h, k⟩
  · rintro (⟨s, h, k⟩ | ⟨s, h, k⟩)
    · exact ⟨s, List.mem_append_left _ h, k⟩
    · exact ⟨s, List.mem_append_right _ h, k⟩
theorem memH_one : memH [x] z ↔ 2 * x.lo ≤ z ∧ z ≤ 2 * x.hi := by
  constructor
  · rintro ⟨s, h, k⟩
    rw [List.mem_singleton.1 h] at k; exact k
  · exact fun k => ⟨x, List.mem_singleton.2 rfl, k⟩
theorem memH_cons : memH (x :: l) z ↔ (2 * x.lo ≤ z ∧ z ≤ 2 * x.hi) ∨ memH l z := by
  rw [show x :: l = [x] ++ l from rfl, memH_app, memH_one]
theorem valS_app (ha : valS a) (hb : valS b) : valS (a ++ b) := fun s hs => (List.mem_append.1 hs).elim (ha s) (hb s)
theorem last_split : ∀ {o : List Span}, 0 < o.length → ∃ i y, o = i ++ [y] ∧ o.getD (o.length - 1) zS = y ∧ ∀ q, o.set (o.length - 1) q = i ++ [q]
  | o, h => by
    have hne : o ≠ [] := List.length_pos_iff.1 h
    refine ⟨o.dropLast, o.getLast hne, (List.dropLast_concat_getLast hne).symm, ?_, fun q => ?_⟩
    · rw [List.getD_eq_getElem?_getD, List.getElem?_eq_getElem (by omega), List.getLast_eq_getElem]; rfl
    · have e := (List.dropLast_concat_getLast hne).symm
      have hl : o.dropLast.length = o.length - 1 := List.length_dropLast
      conv => lhs; rw [e]
      rw [List.set_append_right _ _ (by rw [← e, hl]; exact Nat.le_refl _)]
      rw [← e, hl, Nat.sub_self]; rfl
/-- The spans so far: canonical, and none begins behind what follows. -/
theorem un_step (h : CanS o) (hx : x.lo ≤ x.hi) (hs : ∀ s, s ∈ o → s.lo ≤ x.lo) : CanS (unStep o x) ∧ (∀ z, memH (unStep o x) z ↔ memH o z ∨ (2 * x.lo ≤ z ∧ z ≤ 2 * x.hi)) ∧ ∀ s, s ∈ unStep o x → s.lo ≤ x.lo := by
  unfold unStep
  split
  · rename_i hc
    obtain ⟨i, y, e, e1, e2⟩ := last_split hc.1
    rw [e1] at hc
    rw [e2, e1]
    rw [e] at h hs
    have hy := hs y (by simp)
    have hyv := h.v y (by simp)
    refine ⟨⟨?_, ?_⟩, fun z => ?_, ?_⟩
    · intro s hs'
      rcases List.mem_append.1 hs' with q | q
      · exact h.v s (List.mem_append_left _ q)
      · rw [List.mem_singleton.1 q]; show y.lo ≤ max y.hi x.hi; omega
    · have p := List.pairwise_append.1 h.a
      refine List.pairwise_append.2 ⟨p.1, List.pairwise_singleton _ _, fun s hs' q hq => ?_⟩
      rw [List.mem_singleton.1 hq]
      exact p.2.2 s hs' y (by simp)
    · rw [e, memH_app, memH_app, memH_one, memH_one]
      show (_ ∨ (2 * y.lo ≤ z ∧ z ≤ 2 * max y.hi x.hi)) ↔ _
      have : (2 * y.lo ≤ z ∧ z ≤ 2 * max y.hi x.hi) ↔ ((2 * y.lo ≤ z ∧ z ≤ 2 * y.hi) ∨ (2 * x.lo ≤ z ∧ z ≤ 2 * x.hi)) := by omega
      rw [this, or_assoc]
    · intro s hs'
      rcases List.mem_append.1 hs' with q | q
      · exact hs s (List.mem_append_left _ q)
      · rw [List.mem_singleton.1 q]; exact hy
  · rename_i hc
    refine ⟨⟨valS_app h.v (fun s hs' => by rw [List.mem_singleton.1 hs']; exact hx), ?_⟩, fun z => by rw [memH_app, memH_one], ?_⟩
    · refine List.pairwise_append.2 ⟨h.a, List.pairwise_singleton _ _, fun s hs' q hq => ?_⟩
      rw [List.mem_singleton.1 hq]
      have hp : 0 < o.length := List.length_pos_of_mem hs'
      obtain ⟨i, y, e, e1, e2⟩ := last_split hp
      rw [e1] at hc
      have hy : y.hi < x.lo := by omega
      rw [e] at hs' h
      rcases List.mem_append.1 hs' with k | k
      · have := (List.pairwise_append.1 h.a).2.2 s k y (by simp)
        have := h.v y (by simp)
        omega
      · rw [List.mem_singleton.1 k]; exact hy
    · intro s hs'
      rcases List.mem_append.1 hs' with q | q
      · exact hs s q
      · rw [List.mem_singleton.1 q]; exact Int.le_refl _
theorem unStep_len : (unStep o x).length ≤ o.length + 1 := by
  unfold unStep
  split
  · rw [List.length_set]; omega
  · rw [List.length_append]; exact Nat.le_refl _
/-- What united has come to. -/
structure UnI (m o : List Span) (n : Nat) : Prop where
  c : CanS o
  me : ∀ z, memH o z ↔ memH (m.take n) z
  l : ∀ s, s ∈ o → ∀ k, n ≤ k → k < m.length → s.lo ≤ (m.getD k zS).lo
  nn : o.length ≤ n
theorem UnI.zero (m : List Span) : UnI m [] 0 := ⟨⟨fun s h => (by cases h), List.Pairwise.nil⟩, fun z => Iff.rfl, fun s h => (by cases h), Nat.le_refl _⟩
theorem UnI.step {n : Nat} (h : UnI m o n) (hv : valS m) (hs : m.Pairwise fun a b => a.lo ≤ b.lo) (hn : n < m.length) : UnI m (unStep o (m.getD n zS)) (n + 1) := by
  have e : m.getD n zS = m[n] := by rw [List.getD_eq_getElem?_getD, List.getElem?_eq_getElem hn]; rfl
  obtain ⟨h1, h2, h3⟩ := un_step h.c (x := m.getD n zS) (by rw [e]; exact hv _ (List.getElem_mem hn)) (fun s hs => h.l s hs n (Nat.le_refl n) hn)
  refine ⟨h1, fun z => ?_, fun s hs' k hk hk2 => ?_, ?_⟩
  · rw [h2, h.me, List.take_succ_eq_append_getElem hn, memH_app, memH_one, e]
  · have := h3 s hs'
    have q := List.pairwise_iff_getElem.1 hs n k hn hk2 (by omega)
    have e2 : m.getD k zS = m[k] := by rw [List.getD_eq_getElem?_getD, List.getElem?_eq_getElem hk2]; rfl
    rw [e2]; rw [e] at this; omega
  · have := unStep_len (o := o) (x := m.getD n zS)
    have := h.nn
    omega
theorem memH_perm (h : a.Perm b) : memH a z ↔ memH b z := ⟨fun ⟨s, k, q⟩ => ⟨s, h.mem_iff.1 k, q⟩, fun ⟨s, k, q⟩ => ⟨s, h.mem_iff.2 k, q⟩⟩
/-! ### What two sets have in common -/
structure MeI (s t o : List Span) (i k : Nat) : Prop where
  hi : i ≤ s.length
  hk : k ≤ t.length
  v : valS o
  sub : ∀ z, memH o z → memH s z ∧ memH t z
  sup : ∀ z, memH s z → memH t z → memH o z ∨ (memH (s.drop i) z ∧ memH (t.drop k) z)
  nn : o.length ≤ i + k
def comS (a b : Span) : Span := ⟨max a.lo b.lo, min a.hi b.hi⟩
theorem MeI.zero : MeI s t [] 0 0 := ⟨Nat.zero_le _, Nat.zero_le _, fun s h => (by cases h), fun z h => absurd h memH_nil, fun z h k => .inr ⟨h, k⟩, Nat.le_refl _⟩
theorem MeI.done {i k : Nat} (h : MeI s t o i k) (hd : s.length ≤ i ∨ t.length ≤ k) : ∀ z, memH o z ↔ memH s z ∧ memH t z := fun z => by
  refine ⟨h.sub z, fun ⟨a, b⟩ => ?_⟩
  rcases h.sup z a b with q | ⟨q1, q2⟩
  · exact q
  · rcases hd with e | e
    · rw [List.drop_eq_nil_of_le e] at q1; exact absurd q1 memH_nil
    · rw [List.drop_eq_nil_of_le e] at q2; exact absurd q2 memH_nil
def meOut (o : List Span) (x y : Span) : List Span := if (comS x y).lo ≤ (comS x y).hi then o ++ [comS x y] else o
theorem MeI.step {i k : Nat} (h : MeI s t o i k) (hs : CanS s) (ht : CanS t) (hi : i < s.length) (hk : k < t.length) :
    MeI s t (meOut o (s.getD i zS) (t.getD k zS)) (if (s.getD i zS).hi < (t.getD k zS).hi then i + 1 else i) (if (s.getD i zS).hi < (t.getD k zS).hi then k else k + 1) := by
  have ei : s.getD i zS = s[i] := by rw [List.getD_eq_getElem?_getD, List.getElem?_eq_getElem hi]; rfl
  have ek : t.getD k zS = t[k] := by rw [List.getD_eq_getElem?_getD, List.getElem?_eq_getElem hk]; rfl
  have ds : s.drop i = s[i] :: s.drop (i + 1) := List.drop_eq_getElem_cons hi
  have dt : t.drop k = t[k] :: t.drop (k + 1) := List.drop_eq_getElem_cons hk
  have vs := hs.v _ (List.getElem_mem hi)
  have vt := ht.v _ (List.getElem_mem hk)
  have ps : ∀ z, memH (s.drop (i + 1)) z → 2 * s[i].hi < z := fun z ⟨q, hq, k1, k2⟩ => by
    have p := hs.a.sublist (List.drop_sublist i s)
    rw [ds] at p
    have := (List.pairwise_cons.1 p).1 q hq
    omega
  have pt : ∀ z, memH (t.drop (k + 1)) z → 2 * t[k].hi < z := fun z ⟨q, hq, k1, k2⟩ => by
    have p := ht.a.sublist (List.drop_sublist k t)
    rw [dt] at p
    have := (List.pairwise_cons.1 p).1 q hq
    omega
  rw [ei, ek]
  generalize s[i] = x at *
  generalize t[k] = y at *
  have cm : ∀ z, (2 * x.lo ≤ z ∧ z ≤ 2 * x.hi) ∧ (2 * y.lo ≤ z ∧ z ≤ 2 * y.hi) ↔ 2 * (comS x y).lo ≤ z ∧ z ≤ 2 * (comS x y).hi := fun z => by
    show _ ↔ 2 * max x.lo y.lo ≤ z ∧ z ≤ 2 * min x.hi y.hi
    omega
  have out : ∀ z, memH (meOut o x y) z ↔ memH o z ∨ ((2 * x.lo ≤ z ∧ z ≤ 2 * x.hi) ∧ (2 * y.lo ≤ z ∧ z ≤ 2 * y.hi)) := fun z => by
    unfold meOut
    rw [cm]
    split
    · rw [memH_app, memH_one]
    · constructor
      · exact .inl
      · rintro (q | q)
        · exact q
        · omega
  have mx : ∀ z, 2 * x.lo ≤ z ∧ z ≤ 2 * x.hi → memH s z := fun z q => by
    have : memH (s.drop i) z := by rw [ds]; exact memH_cons.2 (.inl q)
    obtain ⟨w, hw, k⟩ := this
    exact ⟨w, List.mem_of_mem_drop hw, k⟩
  have my : ∀ z, 2 * y.lo ≤ z ∧ z ≤ 2 * y.hi → memH t z := fun z q => by
    have : memH (t.drop k) z := by rw [dt]; exact memH_cons.2 (.inl q)
    obtain ⟨w, hw, k⟩ := this
    exact ⟨w, List.mem_of_mem_drop hw, k⟩
  have hlen : (meOut o x y).length ≤ o.length + 1 := by
    unfold meOut
    split
    · rw [List.length_append]; exact Nat.le_refl _
    · omega
  have hvo : valS (meOut o x y) := by
    unfold meOut
    split
    · refine valS_app h.v fun q hq => ?_
      rw [List.mem_singleton.1 hq]; assumption
    · exact h.v
  have hnn := h.nn
  refine ⟨by split <;> omega, by split <;> omega, hvo, fun z q => ?_, fun z a b => ?_, by split <;> omega⟩
  · rcases (out z).1 q with q | ⟨q1, q2⟩
    · exact h.sub z q
    · exact ⟨mx z q1, my z q2⟩
  · rw [out]
    rcases h.sup z a b with q | ⟨q1, q2⟩
    · exact .inl (.inl q)
    · rw [ds] at q1
      rw [dt] at q2
      rcases memH_cons.1 q1 with q1 | q1 <;> rcases memH_cons.1 q2 with q2 | q2
      · exact .inl (.inr ⟨q1, q2⟩)
      · have := pt z q2
        split
        · rename_i c; omega
        · rw [ds]
          exact .inr ⟨memH_cons.2 (.inl q1), q2⟩
      · have := ps z q1
        split
        · rw [dt]
          exact .inr ⟨q1, memH_cons.2 (.inl q2)⟩
        · rename_i c; omega
      · split
        · rw [dt]
          exact .inr ⟨q1, memH_cons.2 (.inr q2)⟩
        · rw [ds]
          exact .inr ⟨memH_cons.2 (.inr q1), q2⟩
end
/-! ### Canonical sets with the same members are equal -/
section
variable {o l s t a b m : List Span} {x y : Span} {z : Int}
theorem can_tl (h : CanS (x :: l)) : CanS l ∧ x.lo ≤ x.hi ∧ ∀ z, memH l z → 2 * x.hi + 2 ≤ z := by
  have p := List.pairwise_cons.1 h.a
  refine ⟨⟨fun s hs => h.v s (List.mem_cons_of_mem _ hs), p.2⟩, h.v x (List.mem_cons_self ..), fun z ⟨s, hs, k1, k2⟩ => ?_⟩
  have := p.1 s hs
  omega
theorem can_ext : ∀ (a b : List Span), CanS a → CanS b → (∀ z, memH a z ↔ memH b z) → a = b
  | [], [],_,_,_ => rfl
  | [], y :: b,_, hb, h => by
    have k := can_tl hb
    exact absurd ((h (2 * y.lo)).2 (memH_cons.2 (.inl ⟨Int.le_refl _, by omega⟩))) memH_nil
  | x :: a, [], ha,_, h => by
    have k := can_tl ha
    exact absurd ((h (2 * x.lo)).1 (memH_cons.2 (.inl ⟨Int.le_refl _, by omega⟩))) memH_nil
  | x :: a, y :: b, ha, hb, h => by
    obtain ⟨ca, va, ta⟩ := can_tl ha
    obtain ⟨cb, vb, tb⟩ := can_tl hb
    have lo1 : y.lo ≤ x.lo := by
      rcases memH_cons.1 ((h (2 * x.lo)).1 (memH_cons.2 (.inl ⟨Int.le_refl _, by omega⟩))) with q | q
      · omega
      · have := tb _ q; omega
    have lo2 : x.lo ≤ y.lo := by
      rcases memH_cons.1 ((h (2 * y.lo)).2 (memH_cons.2 (.inl ⟨Int.le_refl _, by omega⟩))) with q | q
      · omega
      · have := ta _ q; omega
    have hi1 : ¬ x.hi < y.hi := fun q => by
      rcases memH_cons.1 ((h (2 * x.hi + 1)).2 (memH_cons.2 (.inl ⟨by omega, by omega⟩))) with k | k
      · omega
      · have := ta _ k; omega
    have hi2 : ¬ y.hi < x.hi := fun q => by
      rcases memH_cons.1 ((h (2 * y.hi + 1)).1 (memH_cons.2 (.inl ⟨by omega, by omega⟩))) with k | k
      · omega
      · have := tb _ k; omega
    have e : x = y := by
      obtain ⟨xl, xh⟩ := x
      obtain ⟨yl, yh⟩ := y
      dsimp only at *
      rw [show xl = yl by omega, show xh = yh by omega]
    subst e
    rw [can_ext a b ca cb fun z => ?_]
    constructor
    · intro q
      have := ta z q
      rcases memH_cons.1 ((h z).1 (memH_cons.2 (.inr q))) with k | k
      · omega
      · exact k
    · intro q
      have := tb z q
      rcases memH_cons.1 ((h z).2 (memH_cons.2 (.inr q))) with k | k
      · omega
      · exact k
/-! ### How much is in a set -/
def inB (l : List Span) : Prop := ∀ z, memH l z → -200000 ≤ z ∧ z ≤ 200000
def cntN (N : Nat) (l : List Span) : Nat := (List.range N).countP fun k : Nat => decide (memH l ((k : Int) - 200000))
def cnt (l : List Span) : Nat := cntN 400001 l
theorem countP_lt {α : Type} {p q : α → Bool} : ∀ {l : List α} (h : ∀ x, x ∈ l → p x = true → q x = true) {x : α} (hx : x ∈ l) (hp : p x = false) (hq : q x = true), l.countP p < l.countP q
  | y :: l, h, x, hx, hp, hq => by
    have hle : l.countP p ≤ l.countP q := List.countP_mono_left fun z hz => h z (List.mem_cons_of_mem _ hz)
    rw [List.countP_cons, List.countP_cons]
    rcases List.mem_cons.1 hx with e | e
    · subst e
      rw [hp, hq]; simp; omega
    · have := countP_lt (fun z hz => h z (List.mem_cons_of_mem _ hz)) e hp hq
      have k := h y (List.mem_cons_self ..)
      cases hy : p y
      · simp; omega
      · rw [k hy]; simp; omega
theorem cnt_lt (ha : CanS a) (hb : CanS b) (hB : inB a) (hs : ∀ z, memH b z → memH a z) (hne : a ≠ b) : cnt b < cnt a := by
  have : ∃ z, memH a z ∧ ¬ memH b z := by
    refine Classical.byContradiction fun q => hne (can_ext a b ha hb fun z => ⟨fun k => Classical.byContradiction fun n => q ⟨z, k, n⟩, hs z⟩)
  obtain ⟨z, h1, h2⟩ := this
  have bz := hB z h1
  have key : ∀ N : Nat, (z + 200000).toNat < N → cntN N b < cntN N a := fun N hN => by
    have e : ((z + 200000).toNat : Int) - 200000 = z := by omega
    unfold cntN
    refine countP_lt (x := (z + 200000).toNat) (fun k _ h => decide_eq_true (hs _ (of_decide_eq_true h))) (List.mem_range.2 hN) (decide_eq_false ?_) (decide_eq_true ?_)
    · rw [e]; exact h2
    · rw [e]; exact h1
  exact key 400001 (by omega)
theorem cnt_bd : cnt l ≤ 400001 := by
  have key : ∀ N : Nat, cntN N l ≤ N := fun N => by
    unfold cntN
    have := List.countP_le_length (p := fun k : Nat => decide (memH l ((k : Int) - 200000))) (l := List.range N)
    rw [List.length_range] at this; exact this
  exact key 400001
theorem can_at (h : inB l) (hv : valS l) (hs : x ∈ l) : (-100000 ≤ x.lo ∧ x.lo ≤ x.hi) ∧ x.hi ≤ 100000 := by
  have v := hv x hs
  have a := h (2 * x.lo) ⟨x, hs, Int.le_refl _, by omega⟩
  have b := h (2 * x.hi) ⟨x, hs, by omega, Int.le_refl _⟩
  omega
/-- A canonical set within bounds is not long. -/
theorem can_len (h : CanS l) (hB : inB l) : l.length ≤ 200001 := by
  have key : ∀ (l : List Span) (B : Int), CanS l → (∀ s, s ∈ l → B ≤ s.lo ∧ s.hi ≤ 100000) → B ≤ 100001 → (l.length : Int) ≤ 100001 - B := fun l => by
    induction l with
    | nil => intro B _ _ h; show ((0 : Nat) : Int) ≤ _; omega
    | cons x l ih =>
      intro B hc hb hB
      obtain ⟨c, v, t⟩ := can_tl hc
      have bx := hb x (List.mem_cons_self ..)
      have := ih (x.hi + 1) c (fun s hs => ⟨by
        have := t (2 * s.lo) ⟨s, hs, Int.le_refl _, by have := c.v s hs; omega⟩
        omega, (hb s (List.mem_cons_of_mem _ hs)).2⟩) (by omega)
      rw [List.length_cons]; omega
  have := key l (-100000) h (fun s hs => by have := can_at hB h.v hs; omega) (by omega)
  omega
/-! ### Wider sets, and what is near -/
def widS (d : Int) (s : Span) : Span := ⟨s.lo - d, s.hi + d⟩
theorem wid_val {d : Int} (hd : 0 ≤ d) (h : valS l) : valS (l.map (widS d)) := fun s hs => by
  obtain ⟨q, hq, rfl⟩ := List.mem_map.1 hs
  have := h q hq
  show q.lo - d ≤ q.hi + d
  omega
theorem wid_mem {d u v : Int} (h : memH l (2 * u)) (h1 : -d ≤ v - u) (h2 : v - u ≤ d) : memH (l.map (widS d)) (2 * v) := by
  obtain ⟨s, hs, k1, k2⟩ := h
  refine ⟨widS d s, List.mem_map_of_mem hs, ?_, ?_⟩
  · show 2 * (s.lo - d) ≤ 2 * v
    omega
  · show 2 * v ≤ 2 * (s.hi + d)
    omega
end
end Go.Proofs.YtffbohecdocajaaGreat

namespace Go.Proofs.YtffbohecdocajaaGreat
open Go.SL Go.Proofs Go.Pulse
set_option linter.unusedVariables false

theorem C272 : IsFn Tryz.prog 272 := ⟨_, Tryz.func272, by decide, rfl⟩
theorem C273 : IsFn Tryz.prog 273 := ⟨_, Tryz.func273, by decide, rfl⟩
theorem C239 : IsFn Tryz.prog 239 := ⟨_, Tryz.func239, by decide, rfl⟩
theorem C193 : IsFn Tryz.prog 193 := ⟨_, Tryz.func193, by decide, rfl⟩
theorem C192 : IsFn Tryz.prog 192 := ⟨_, Tryz.func192, by decide, rfl⟩
theorem C271 : IsFn Tryz.prog 271 := ⟨_, Tryz.func271, by decide, rfl⟩
theorem C238 : IsFn Tryz.prog 238 := ⟨_, Tryz.func238, by decide, rfl⟩


def hayS : ByteArray := ⟨#[97,98,99,100,101,102,103,104,105,106,107,108,109,110,111,112,113,114,115,116,117,118,119,120,121,122,48,49,50,51,52,53,54,55,56,57,95]⟩
/-- What may stand in a name. -/
def nameR (r : Nat) : Bool := (decide (97 ≤ r) && decide (r ≤ 122)) || (decide (48 ≤ r) && decide (r ≤ 57)) || decide (r = 95)
def pN (r : Nat) : Bool := !nameR r
theorem pN_high (r : Nat) (h : 128 ≤ r) : pN r = true := by unfold pN nameR; simp; omega
theorem hay_ascii : ∀ b ∈ hayS.data.toList, b.toNat < 128 := by decide
theorem hay_has : ∀ n : Fin 128, decide (0 ≤ Lib.indexByte hayS.data.toList n.val.toUInt8) = nameR n.val := by decide +kernel
def runeIx (s : ByteArray) (r : Int) : Int := if r < 128 then Lib.indexByte s.data.toList r.toNat.toUInt8 else -1
theorem hay_rune (r : Nat) : decide (0 ≤ runeIx hayS (r : Int)) = nameR r := by
  unfold runeIx
  by_cases h : r < 128
  · rw [if_pos (by omega)]
    exact hay_has ⟨r, h⟩
  · rw [if_neg (by omega)]
    have := pN_high r (by omega)
    unfold pN at this
    simp at this
    rw [this]; rfl
theorem u8_of {r : Int} (h0 : 0 ≤ r) (h1 : r < 128) : IntKind.u8.wrap r = r := by
  have e : r % 256 = r := by omega
  unfold IntKind.wrap
  simp [IntKind.bits, IntKind.signed, e]
theorem St.of_eq {w w' : World} (h : w' = w) : St (bs w) [] w' := by subst h; exact St.refl _
theorem byteN (c : UInt8) : ((c.toNat : Nat) : Int).toNat.toUInt8 = c := by simp
theorem enc_f {r : Int} (hv : Lib.validRune r = true) (h : 128 ≤ r) : 2 ≤ (Utf8.encode r).size ∧ (Utf8.encode r).size ≤ 4 ∧ 128 ≤ ((Utf8.encode r).data.toList.getD ((Utf8.encode r).size - 1) 0).toNat := by
  have hv2 : Utf8.valid r = true := by rw [validRune_eq]; exact hv
  obtain ⟨h1, h2, h3⟩ := encode_facts r hv2 h
  refine ⟨h1, h2, ?_⟩
  have hl : (Utf8.encode r).size - 1 < (Utf8.encode r).data.toList.length := by
    rw [Array.length_toList]; exact (show (Utf8.encode r).size - 1 < (Utf8.encode r).size by omega)
  have := h3 (by omega)
  simp only [List.getD, List.getElem?_eq_getElem hl, Option.getD_some]
  exact this
theorem byte_lt {s : ByteArray} (hs : ∀ b ∈ s.data.toList, b.toNat < 128) (j : Nat) : (s.data.toList.getD j 0).toNat < 128 := by
  rcases Nat.lt_or_ge j s.data.toList.length with h | h
  · exact hs _ (getD_mem h)
  · rw [List.getD_eq_getElem?_getD, List.getElem?_eq_none h]; decide
theorem ix_none {s : ByteArray} {a e : Nat} {c : UInt8} (hs : ∀ b ∈ s.data.toList, b.toNat < 128) (hc : 128 ≤ c.toNat) : Lib.indexByte (s.extract a e).data.toList ((c.toNat : Nat) : Int).toNat.toUInt8 = -1 := by
  rw [byteN, ← Lib.firstIdx_eq]; exact firstIdx_ascii s a e c hs hc
theorem dec_lt {s : ByteArray} (hs : ∀ b ∈ s.data.toList, b.toNat < 128) {q : Nat} (hq : q < s.size) : (Utf8.decode s q).1 < 128 := by
  have h : (s[q]'hq).toNat < 128 := hs _ (Array.getElem_mem_toList (xs := s.data) hq)
  rw [decode_ascii s q hq h]; exact h

set_option maxRecDepth 20000 in
theorem validRune_c (r : Int) (w : World) :
  Calls Tryz.prog 273 #[.int .i32 r] w fun e w' => e = .returned (.bool (Lib.validRune r)) ∧ St (bs w) [] w' := by
  refine enter (vs := [_]) (env := [(0,_)]) Tryz.func273 rfl rfl rfl rfl ?_
  refine VC.seq ?_
  refine VC.reg (VO.l (LO.as (.r rfl)) rfl<|VO.nil ?_)
  refine VE.seqN ?_
  refine VC.seq ?_
  refine VC.block ?_
  refine VC.seq ?_
  refine VC.reg (VO.l (LO.mv (.r rfl)) rfl<|VO.l (LO.le (.r rfl) (.r rfl)) rfl<|VO.l (LO.mv (.r rfl)) rfl<|VO.lg rfl rfl (GD.t _) (fun hg => LO.mv (.r rfl)) rfl<|VO.lg rfl rfl (GD.t _) (fun hg => LO.lt (.g hg rfl) (.r rfl)) rfl<|VO.l (LO.pkA (.r rfl) rfl rfl (.r rfl)) rfl<|VO.l (LO.as (.r rfl)) rfl<|VO.nil ?_)
  refine VE.seqN ?_
  refine VC.cond rfl (fun h1 => ?_) (fun h1 => ?_)
  ·
    refine VC.seq ?_
    refine VC.reg (VO.l (LO.as (.r rfl)) rfl<|VO.nil ?_)
    refine VE.seqN ?_
    refine VC.ret (VE.inR (VE.thenR (VE.res (vs := [_]) rfl ⟨rfl, trivial⟩ (fun w hw => ?_))))
    exact ⟨by simp only [resV, Lib.validRune]; first | rw [decide_eq_true (show (0 ≤ r ∧ r < 0xD800) ∨ (0xDFFF < r ∧ r ≤ 0x10FFFF) by omega)] | rw [decide_eq_false (show ¬ ((0 ≤ r ∧ r < 0xD800) ∨ (0xDFFF < r ∧ r ≤ 0x10FFFF)) by omega)], hw.nil⟩
  ·
    refine VC.seq ?_
    refine VC.reg (VO.l (LO.mv (.r rfl)) rfl<|VO.l (LO.lt (.r rfl) (.r rfl)) rfl<|VO.l (LO.mv (.r rfl)) rfl<|VO.lg rfl rfl (GD.t _) (fun hg => LO.mv (.r rfl)) rfl<|VO.lg rfl rfl (GD.t _) (fun hg => LO.le (.g hg rfl) (.r rfl)) rfl<|VO.l (LO.pkA (.r rfl) rfl rfl (.r rfl)) rfl<|VO.l (LO.as (.r rfl)) rfl<|VO.nil ?_)
    refine VE.seqN ?_
    refine VC.cond rfl (fun h2 => ?_) (fun h2 => ?_)
    ·
      refine VC.seq ?_
      refine VC.reg (VO.l (LO.as (.r rfl)) rfl<|VO.nil ?_)
      refine VE.seqN ?_
      refine VC.ret (VE.inR (VE.thenR (VE.res (vs := [_]) rfl ⟨rfl, trivial⟩ (fun w hw => ?_))))
      exact ⟨by simp only [resV, Lib.validRune]; first | rw [decide_eq_true (show (0 ≤ r ∧ r < 0xD800) ∨ (0xDFFF < r ∧ r ≤ 0x10FFFF) by omega)] | rw [decide_eq_false (show ¬ ((0 ≤ r ∧ r < 0xD800) ∨ (0xDFFF < r ∧ r ≤ 0x10FFFF)) by omega)], hw.nil⟩
    ·
      refine VC.skip (VE.inN (VE.seqN ?_))
      refine VC.seq ?_
      refine VC.reg (VO.l (LO.as (.r rfl)) rfl<|VO.nil ?_)
      refine VE.seqN ?_
      refine VC.ret (VE.res (vs := [_]) rfl ⟨rfl, trivial⟩ (fun w hw => ?_))
      exact ⟨by simp only [resV, Lib.validRune]; first | rw [decide_eq_true (show (0 ≤ r ∧ r < 0xD800) ∨ (0xDFFF < r ∧ r ≤ 0x10FFFF) by omega)] | rw [decide_eq_false (show ¬ ((0 ≤ r ∧ r < 0xD800) ∨ (0xDFFF < r ∧ r ≤ 0x10FFFF)) by omega)], hw.nil⟩

set_option maxRecDepth 20000 in
theorem indexRune_c (s : ByteArray) (r : Int) (w : World) (h0 : 0 ≤ r) (hs : ∀ b ∈ s.data.toList, b.toNat < 128) (h4 : 4 ≤ s.size) (h5 : s.size < 100000) :
  Calls Tryz.prog 239 #[.string s, .int .i32 r] w fun e w' => e = .returned (.int .i64 (runeIx s r)) ∧ St (bs w) [] w' := by
  refine enter (vs := [_,_]) (env := [(0,_), (1,_)]) Tryz.func239 rfl rfl rfl rfl ?_
  refine VC.seq ?_
  refine VC.reg (VO.l (LO.as (.r rfl)) rfl<|VO.nil ?_)
  refine VE.seqN ?_
  refine VC.block ?_
  refine VC.seq ?_
  refine VC.reg (VO.l (LO.mv (.r rfl)) rfl<|VO.l (LO.le (.r rfl) (.r rfl)) rfl<|VO.l (LO.mv (.r rfl)) rfl<|VO.lg rfl rfl (GD.t _) (fun hg => LO.mv (.r rfl)) rfl<|VO.lg rfl rfl (GD.t _) (fun hg => LO.lt (.g hg rfl) (.r rfl)) rfl<|VO.l (LO.pkA (.r rfl) rfl rfl (.r rfl)) rfl<|VO.l (LO.as (.r rfl)) rfl<|VO.nil ?_)
  refine VE.seqN ?_
  refine VC.cond rfl (fun h160 => ?_) (fun h160 => ?_)
  ·
    refine VC.seq ?_
    refine VC.reg (VO.l (LO.mv (.r rfl)) rfl<|VO.l (LO.mv (.r rfl)) rfl<|VO.l (LO.cv ⟨_, Tryz.underlying21⟩ Tryz.underlying5 (.r rfl) (u8_of (by omega) (by omega))) rfl<|VO.l (LO.call (xs := [_,_]) (vs := [_,_]) C272 ⟨(.r rfl), (.r rfl), trivial⟩ (fun w _ => (Tryz.strings_IndexByte s r w).mono fun e w' q => ⟨q.1, St.of_eq q.2⟩)) rfl<|VO.l (LO.as (.r rfl)) rfl<|VO.nil ?_)
    refine VE.seqN ?_
    refine VC.ret (VE.inR (VE.res (vs := [_]) rfl ⟨rfl, trivial⟩ (fun w hw => ?_)))
    first | exact ⟨by simp only [resV, runeIx]; rw [if_pos (by omega)], hw.nil⟩ | exact ⟨by simp only [resV, runeIx]; rw [if_neg (by omega)], hw.nil⟩
  ·
    refine VC.seq ?_
    refine VC.reg (VO.l (LO.mv (.r rfl)) rfl<|VO.l (LO.eq (.r rfl) (.r rfl)) rfl<|VO.l (LO.as (.r rfl)) rfl<|VO.nil ?_)
    refine VE.seqN ?_
    refine VC.cond rfl (fun h171 => ?_) (fun h171 => ?_)
    ·
      refine VC.seq ?_
      refine VC.seq ?_
      refine VC.reg (VO.l (LO.mv (.r rfl)) rfl<|VO.h rfl<|HO.range Tryz.underlying9 rfl fun b1 => VO.nil ?_)
      refine VE.seqN ?_
      refine VC.block ?_
      refine VC.loopK (α := Nat) 1 (fun gx => []) [(175,_)] (fun gx => [blk b1 (.stringIter s gx)]) (fun gx => True) (fun gx => s.size - gx) 0 (by exact trivial) (.cons rfl .nil) (fun _ h => h) ?_
      rintro q _
      refine VC.seq ?_
      by_cases hps : q < s.size
      ·
        refine VC.reg (VO.h rfl<|HO.nextT 0 (fun R => [R]) rfl rfl (fun _ => rfl) hps<|VO.h rfl<|HO.lo (LO.ex (.r rfl) rfl)<|VO.nil ?_)
        refine VE.seqN ?_
        refine VC.seq ?_
        refine VC.cond rfl (fun h177 => ?_) (fun h177 => ?_)
        ·
          refine VC.skip (VE.seqN ?_)
          refine VC.block ?_
          refine VC.seq ?_
          refine VC.reg (VO.l (LO.ex (.r rfl) rfl) rfl<|VO.l (LO.ex (.r rfl) rfl) rfl<|VO.l (LO.as (.r rfl)) rfl<|VO.l (LO.as (.r rfl)) rfl<|VO.nil ?_)
          refine VE.seqN ?_
          refine VC.seq ?_
          have hdc := dec_lt hs hps
          refine VC.reg (VO.l (LO.mv (.r rfl)) rfl<|VO.l (LO.eq (.r rfl) (.r rfl)) rfl<|VO.nil ?_)
          refine VE.seqN ?_
          refine VC.cond rfl (fun h181 => ?_) (fun h181 => ?_)
          ·
            (exfalso; omega)
          ·
            refine VC.skip (VE.inN ?_)
            refine VE.thenN fun a w ha hw => ⟨q + (Utf8.decode s q).2, trivial, (by have := decode_pos s q; omega), ha.sub (.cons rfl .nil), hw⟩
        ·
          (exfalso; exact h177 rfl)
      ·
        refine VC.reg (VO.h rfl<|HO.nextF 0 rfl rfl hps<|VO.h rfl<|HO.lo (LO.ex (.r rfl) rfl)<|VO.nil ?_)
        refine VE.seqN ?_
        refine VC.seq ?_
        refine VC.cond rfl (fun h177 => ?_) (fun h177 => ?_)
        ·
          (exfalso; cases h177)
        ·
          refine VC.exit (VE.thenX (VE.thenX (VE.inX (VE.seqN ?_))))
          refine VC.seq ?_
          refine VC.reg (VO.l (LO.as (.r rfl)) rfl<|VO.nil ?_)
          refine VE.seqN ?_
          refine VC.ret (VE.inR (VE.res (vs := [_]) rfl ⟨rfl, trivial⟩ (fun w hw => ?_)))
          first | exact ⟨by simp only [resV, runeIx]; rw [if_pos (by omega)], hw.nil⟩ | exact ⟨by simp only [resV, runeIx]; rw [if_neg (by omega)], hw.nil⟩
    ·
      refine VC.seq ?_
      refine VC.reg (VO.l (LO.mv (.r rfl)) rfl<|VO.l (LO.call (xs := [_]) (vs := [_]) C273 ⟨(.r rfl), trivial⟩ (fun w _ => validRune_c _ w)) rfl<|VO.l (LO.not (.r rfl)) rfl<|VO.l (LO.as (.r rfl)) rfl<|VO.nil ?_)
      refine VE.seqN ?_
      refine VC.cond rfl (fun h183 => ?_) (fun h183 => ?_)
      ·
        refine VC.seq ?_
        refine VC.reg (VO.l (LO.as (.r rfl)) rfl<|VO.nil ?_)
        refine VE.seqN ?_
        refine VC.ret (VE.inR (VE.res (vs := [_]) rfl ⟨rfl, trivial⟩ (fun w hw => ?_)))
        first | exact ⟨by simp only [resV, runeIx]; rw [if_pos (by omega)], hw.nil⟩ | exact ⟨by simp only [resV, runeIx]; rw [if_neg (by omega)], hw.nil⟩
      ·
        have hv : Lib.validRune r = true := by simpa using h183
        obtain ⟨e1, e2, e3⟩ := enc_f hv (by omega)
        have b1 := byte_lt hs ((Utf8.encode r).size - 1)
        refine VC.scope ?_
        refine VC.seq ?_
        refine VC.reg (VO.l (LO.mv (.r rfl)) rfl<|VO.l (LO.cvS ⟨_, Tryz.underlying21⟩ Tryz.underlying9 (.r rfl)) rfl<|VO.l (LO.as (.r rfl)) rfl<|VO.nil ?_)
        refine VE.seqN ?_
        refine VC.seq ?_
        refine VC.reg (VO.l (LO.mv (.r rfl)) rfl<|VO.l (LO.lenS Tryz.underlying9 (.r rfl) rfl) rfl<|VO.l (LO.sub (.r rfl) (.r rfl) (wi (by omega) (by omega))) rfl<|VO.l (LO.as (.r rfl)) rfl<|VO.nil ?_)
        refine VE.seqN ?_
        refine VC.seq ?_
        refine VC.reg (VO.l (LO.mv (.r rfl)) rfl<|VO.l (LO.as (.r rfl)) rfl<|VO.nil ?_)
        refine VE.seqN ?_
        refine VC.seq ?_
        refine VC.reg (VO.l (LO.as (.r rfl)) rfl<|VO.nil ?_)
        refine VE.seqN ?_
        refine VC.seq ?_
        refine VC.block ?_
        refine VC.loopK (α := Nat) 0 (fun gx => [(4, .int .i64 0), (9, .int .i64 (((Utf8.encode r).size : Int) - 1))]) [(0,_), (7,_), (8,_)] (fun gx => []) (fun gx => True) (fun gx => gx) 0 (by exact trivial) (.cons rfl (.cons rfl (.cons rfl (.cons rfl (.cons rfl .nil))))) (fun _ h => h) ?_
        rintro u _
        refine VC.seq ?_
        refine VC.seq ?_
        refine VC.reg (VO.l (LO.mv (.r rfl)) rfl<|VO.l (LO.mv (.r rfl)) rfl<|VO.l (LO.lenS Tryz.underlying9 (.r rfl) rfl) rfl<|VO.l (LO.lt (.r rfl) (.r rfl)) rfl<|VO.nil ?_)
        refine VE.seqN ?_
        refine VC.cond rfl (fun h26 => ?_) (fun h26 => ?_)
        ·
          refine VC.skip (VE.seqN ?_)
          refine VC.block ?_
          refine VC.scope ?_
          refine VC.seq ?_
          refine VC.seq ?_
          refine VC.draw mixed (LL.l (LO.mv (.r rfl)) rfl<|LL.l (LO.mv (.r rfl)) rfl<|LL.l (LO.ixS (j := ((Utf8.encode r).size - 1)) Tryz.underlying9 (.r rfl) (.r rfl) (by omega) (by omega)) rfl<|LL.l (LO.mv (.r rfl)) rfl<|LL.l (LO.mv (.r rfl)) rfl<|LL.l (LO.ixS (j := ((Utf8.encode r).size - 1)) Tryz.underlying9 (.r rfl) (.r rfl) (by omega) (by omega)) rfl<|LL.l (LO.ne (.r rfl) (.r rfl)) rfl<|LL.nil) (by kernel_rfl) ?_
          refine VE.seqN ?_
          refine VC.cond rfl (fun h33 => ?_) (fun h33 => ?_)
          ·
            refine VC.seq ?_
            refine VC.draw mixed (LL.l (LO.mv (.r rfl)) rfl<|LL.l (LO.mv (.r rfl)) rfl<|LL.l (LO.add (.r rfl) (.r rfl) (wi (by omega) (by omega))) rfl<|LL.l (LO.slS Tryz.underlying9 (.r rfl) (.r rfl) (by omega) (by omega)) rfl<|LL.l (LO.mv (.r rfl)) rfl<|LL.l (LO.mv (.r rfl)) rfl<|LL.l (LO.ixS (j := ((Utf8.encode r).size - 1)) Tryz.underlying9 (.r rfl) (.r rfl) (by omega) (by omega)) rfl<|LL.l (LO.call (xs := [_,_]) (vs := [_,_]) C272 ⟨(.r rfl), (.r rfl), trivial⟩ (fun w _ => (Tryz.strings_IndexByte _ _ w).mono fun e w' q => ⟨q.1, St.of_eq q.2⟩)) rfl<|LL.l (LO.as (.r rfl)) rfl<|LL.nil) (by kernel_rfl) ?_
            refine VE.seqN ?_
            refine VC.seq ?_
            refine VC.seq ?_
            refine VC.reg (VO.l (LO.mv (.r rfl)) rfl<|VO.l (LO.lt (.r rfl) (.r rfl)) rfl<|VO.nil ?_)
            refine VE.seqN ?_
            refine VC.cond rfl (fun h43 => ?_) (fun h43 => ?_)
            ·
              refine VC.seq ?_
              refine VC.reg (VO.l (LO.as (.r rfl)) rfl<|VO.nil ?_)
              refine VE.seqN ?_
              refine VC.ret (VE.thenR (VE.thenR (VE.scR (VE.inR (VE.thenR (VE.inR (VE.thenR (VE.scR (VE.inR (VE.res (vs := [_]) rfl ⟨rfl, trivial⟩ (fun w hw => ?_)))))))))))
              first | exact ⟨by simp only [resV, runeIx]; rw [if_pos (by omega)], hw.nil⟩ | exact ⟨by simp only [resV, runeIx]; rw [if_neg (by omega)], hw.nil⟩
            ·
              (exfalso; (rw [ix_none hs e3] at h43; omega))
          ·
            (exfalso; omega)
        ·
          (exfalso; omega)

set_option maxRecDepth 20000 in
theorem containsRune_c (s : ByteArray) (r : Int) (w : World) (h0 : 0 ≤ r) (hs : ∀ b ∈ s.data.toList, b.toNat < 128) (h4 : 4 ≤ s.size) (h5 : s.size < 100000) :
  Calls Tryz.prog 193 #[.string s, .int .i32 r] w fun e w' => e = .returned (.bool (decide (0 ≤ runeIx s r))) ∧ St (bs w) [] w' := by
  refine enter (vs := [_,_]) (env := [(0,_), (1,_)]) Tryz.func193 rfl rfl rfl rfl ?_
  refine VC.seq ?_
  refine VC.reg (VO.l (LO.as (.r rfl)) rfl<|VO.nil ?_)
  refine VE.seqN ?_
  refine VC.seq ?_
  refine VC.reg (VO.l (LO.mv (.r rfl)) rfl<|VO.l (LO.mv (.r rfl)) rfl<|VO.l (LO.call (xs := [_,_]) (vs := [_,_]) C239 ⟨(.r rfl), (.r rfl), trivial⟩ (fun w _ => indexRune_c s r w h0 hs h4 h5)) rfl<|VO.l (LO.ge (.r rfl) (.r rfl)) rfl<|VO.l (LO.as (.r rfl)) rfl<|VO.nil ?_)
  refine VE.seqN ?_
  refine VC.ret (VE.res (vs := [_]) rfl ⟨rfl, trivial⟩ (fun w hw => ?_))
  exact ⟨rfl, hw.nil⟩

set_option maxRecDepth 20000 in
theorem nameRune_c (r : Nat) (w : World) :
  Calls Tryz.prog 192 #[.int .i32 (r : Int)] w fun e w' => e = .returned (.bool (pN r)) ∧ St (bs w) [] w' := by
  refine enter (vs := [_]) (env := [(0,_)]) Tryz.func192 rfl rfl rfl rfl ?_
  refine VC.seq ?_
  refine VC.reg (VO.l (LO.as (.r rfl)) rfl<|VO.nil ?_)
  refine VE.seqN ?_
  refine VC.seq ?_
  refine VC.reg (VO.l (LO.mv (.r rfl)) rfl<|VO.l (LO.call (xs := [_,_]) (vs := [_,_]) C193 ⟨(.r rfl), (.r rfl), trivial⟩ (fun w _ => containsRune_c hayS (r : Int) w (by omega) hay_ascii (by decide) (by decide))) rfl<|VO.l (LO.not (.r rfl)) rfl<|VO.l (LO.as (.r rfl)) rfl<|VO.nil ?_)
  refine VE.seqN ?_
  refine VC.ret (VE.res (vs := [_]) rfl ⟨rfl, trivial⟩ (fun w hw => ?_))
  exact ⟨by simp only [resV]; rw [hay_rune]; rfl, hw.nil⟩

set_option maxRecDepth 20000 in
theorem indexFunc_c (s : ByteArray) (w : World) :
  Calls Tryz.prog 271 #[.string s, .func (.func 192) #[] #[], .bool true] w fun e w' => e = .returned (.int .i64 (idxF pN s s.size 0)) ∧ St (bs w) [] w' := by
  refine enter (vs := [_,_,_]) (env := [(0,_), (1,_), (2,_)]) Tryz.func271 rfl rfl rfl rfl ?_
  refine VC.seq ?_
  refine VC.reg (VO.l (LO.as (.r rfl)) rfl<|VO.nil ?_)
  refine VE.seqN ?_
  refine VC.seq ?_
  refine VC.seq ?_
  refine VC.reg (VO.l (LO.mv (.r rfl)) rfl<|VO.h rfl<|HO.range Tryz.underlying9 rfl fun b1 => VO.nil ?_)
  refine VE.seqN ?_
  refine VC.block ?_
  refine VC.loopK (α := Nat × Nat) 1 (fun gx => []) [(1,_), (2,_), (10,_)] (fun gx => [blk b1 (.stringIter s gx.1)]) (fun gx => idxF pN s gx.2 gx.1 = idxF pN s s.size 0 ∧ s.size ≤ gx.1 + gx.2) (fun gx => gx.2) (0, s.size) (by exact ⟨rfl, by omega⟩) (.cons rfl (.cons rfl (.cons rfl .nil))) (fun _ h => h) ?_
  rintro ⟨q, f⟩ ⟨hI, hf⟩
  show VC _ _ _ _ _ ([] ++ _) ([blk b1 (.stringIter s q)] ++ _) _ _
  dsimp only at hI hf
  refine VC.seq ?_
  by_cases hps : q < s.size
  ·
    obtain ⟨f, rfl⟩ : ∃ k, f = k + 1 := ⟨f - 1, by omega⟩
    rw [idxF, if_pos hps] at hI
    refine VC.reg (VO.h rfl<|HO.nextT 0 (fun R => [R]) rfl rfl (fun _ => rfl) hps<|VO.h rfl<|HO.lo (LO.ex (.r rfl) rfl)<|VO.nil ?_)
    refine VE.seqN ?_
    refine VC.seq ?_
    refine VC.cond rfl (fun h12 => ?_) (fun h12 => ?_)
    ·
      refine VC.skip (VE.seqN ?_)
      refine VC.block ?_
      refine VC.seq ?_
      refine VC.reg (VO.l (LO.ex (.r rfl) rfl) rfl<|VO.l (LO.ex (.r rfl) rfl) rfl<|VO.l (LO.as (.r rfl)) rfl<|VO.l (LO.as (.r rfl)) rfl<|VO.nil ?_)
      refine VE.seqN ?_
      refine VC.seq ?_
      refine VC.reg (VO.l (LO.mv (.r rfl)) rfl<|VO.l (LO.mv (.r rfl)) rfl<|VO.l (LO.callv (first := []) (cap := []) (xs := [_]) (vs := [_]) (.r rfl) C192 ⟨(.r rfl), trivial⟩ (fun w _ => nameRune_c _ w)) rfl<|VO.l (LO.mv (.r rfl)) rfl<|VO.l (LO.eqB Tryz.underlying4 (.r rfl) (.r rfl)) rfl<|VO.nil ?_)
      refine VE.seqN ?_
      refine VC.cond rfl (fun h19 => ?_) (fun h19 => ?_)
      ·
        rw [if_pos h19] at hI
        refine VC.seq ?_
        refine VC.reg (VO.l (LO.mv (.r rfl)) rfl<|VO.l (LO.as (.r rfl)) rfl<|VO.nil ?_)
        refine VE.seqN ?_
        refine VC.ret (VE.inR (VE.thenR (VE.inR (VE.thenR (VE.res (vs := [_]) rfl ⟨rfl, trivial⟩ (fun w hw => ?_))))))
        exact ⟨by simp only [resV]; rw [← hI] <;> rfl, hw.nil⟩
      ·
        rw [if_neg h19] at hI
        refine VC.skip (VE.inN ?_)
        refine VE.thenN fun a w ha hw => ⟨(q + (Utf8.decode s q).2, f), ⟨hI, by have := decode_pos s q; dsimp only; omega⟩, (by dsimp only; omega), ha.sub (.cons rfl (.cons rfl (.cons rfl .nil))), hw⟩
    ·
      (exfalso; exact h12 rfl)
  ·
    rw [idxF_end hps] at hI
    refine VC.reg (VO.h rfl<|HO.nextF 0 rfl rfl hps<|VO.h rfl<|HO.lo (LO.ex (.r rfl) rfl)<|VO.nil ?_)
    refine VE.seqN ?_
    refine VC.seq ?_
    refine VC.cond rfl (fun h12 => ?_) (fun h12 => ?_)
    ·
      (exfalso; cases h12)
    ·
      refine VC.exit (VE.thenX (VE.thenX (VE.inX (VE.seqN ?_))))
      refine VC.seq ?_
      refine VC.reg (VO.l (LO.as (.r rfl)) rfl<|VO.nil ?_)
      refine VE.seqN ?_
      refine VC.ret (VE.res (vs := [_]) rfl ⟨rfl, trivial⟩ (fun w hw => ?_))
      exact ⟨by simp only [resV]; rw [← hI] <;> rfl, hw.nil⟩

set_option maxRecDepth 20000 in
theorem IndexFunc_c (s : ByteArray) (w : World) :
  Calls Tryz.prog 238 #[.string s, .func (.func 192) #[] #[]] w fun e w' => e = .returned (.int .i64 (idxF pN s s.size 0)) ∧ St (bs w) [] w' := by
  refine enter (vs := [_,_]) (env := [(0,_), (1,_)]) Tryz.func238 rfl rfl rfl rfl ?_
  refine VC.seq ?_
  refine VC.reg (VO.l (LO.as (.r rfl)) rfl<|VO.nil ?_)
  refine VE.seqN ?_
  refine VC.seq ?_
  refine VC.reg (VO.l (LO.mv (.r rfl)) rfl<|VO.l (LO.mv (.r rfl)) rfl<|VO.l (LO.call (xs := [_,_,_]) (vs := [_,_,_]) C271 ⟨(.r rfl), (.r rfl), (.r rfl), trivial⟩ (fun w _ => indexFunc_c _ w)) rfl<|VO.l (LO.as (.r rfl)) rfl<|VO.nil ?_)
  refine VE.seqN ?_
  refine VC.ret (VE.res (vs := [_]) rfl ⟨rfl, trivial⟩ (fun w hw => ?_))
  exact ⟨rfl, hw.nil⟩

set_option maxRecDepth 20000 in
theorem ContainsFunc_c (s : ByteArray) (w : World) :
  Calls Tryz.prog 191 #[.string s, .func (.func 192) #[] #[]] w fun e w' => e = .returned (.bool (decide (0 ≤ idxF pN s s.size 0))) ∧ St (bs w) [] w' := by
  refine enter (vs := [_,_]) (env := [(0,_), (1,_)]) Tryz.func191 rfl rfl rfl rfl ?_
  refine VC.seq ?_
  refine VC.reg (VO.l (LO.as (.r rfl)) rfl<|VO.nil ?_)
  refine VE.seqN ?_
  refine VC.seq ?_
  refine VC.reg (VO.l (LO.mv (.r rfl)) rfl<|VO.l (LO.mv (.r rfl)) rfl<|VO.l (LO.call (xs := [_,_]) (vs := [_,_]) C238 ⟨(.r rfl), (.r rfl), trivial⟩ (fun w _ => IndexFunc_c _ w)) rfl<|VO.l (LO.ge (.r rfl) (.r rfl)) rfl<|VO.l (LO.as (.r rfl)) rfl<|VO.nil ?_)
  refine VE.seqN ?_
  refine VC.ret (VE.res (vs := [_]) rfl ⟨rfl, trivial⟩ (fun w hw => ?_))
  exact ⟨rfl, hw.nil⟩

end Go.Proofs.YtffbohecdocajaaGreat
