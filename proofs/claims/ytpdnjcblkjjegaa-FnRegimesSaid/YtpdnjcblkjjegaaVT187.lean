import Derived.Test.YtpdnjcblkjjegaaVT109
import Derived.Test.YtpdnjcblkjjegaaVAwI
set_option linter.unusedVariables false
set_option linter.unusedSimpArgs false
set_option maxRecDepth 100000
set_option maxHeartbeats 8000000
namespace Go.Proofs.Ytpdnjcblkjjegaa
open Go.Aw

/-! ### regimes that are drawn: rows that make one -/
def rwA (l : List Nat) (k j : Nat) : Nat := fint .f32 (1 + dvD l (k + j) 6)
def rwS (l : List Nat) (k : Nat) : Nat → Nat
  | 0 => 0
  | j + 1 => fop .add .f32 (rwS l k j) (rwA l k j)
def rwV (l : List Nat) (k n : Nat) : List Nat := (List.range n).map (rwA l k)
def rwQ (l : List Nat) (k n j : Nat) : Nat := fop .quo .f32 (rwA l k j) (rwS l k n)
def rwM (l : List Nat) (k n i : Nat) : List Nat := (List.range n).map fun j => if j < i then rwQ l k n j else rwA l k j
def rwL (l : List Nat) (k n : Nat) : List Nat := (List.range n).map (rwQ l k n)
theorem rwM_0 (l : List Nat) (k n : Nat) : rwM l k n 0 = rwV l k n := by simp [rwM, rwV]
theorem rwM_n (l : List Nat) (k n : Nat) : rwM l k n n = rwL l k n := by
  unfold rwM rwL
  refine List.map_congr_left fun j hj => ?_
  rw [if_pos (List.mem_range.1 hj)]
theorem rwM_len (l : List Nat) (k n i : Nat) : (rwM l k n i).length = n := by simp [rwM]
theorem rwV_len (l : List Nat) (k n : Nat) : (rwV l k n).length = n := by simp [rwV]
theorem rwL_len (l : List Nat) (k n : Nat) : (rwL l k n).length = n := by simp [rwL]
theorem rwM_get {l : List Nat} {k n i : Nat} (h : i < n) : (rwM l k n i).getD i 0 = rwA l k i := by simp [rwM, List.getD_eq_getElem?_getD, h]
theorem rwM_set {l : List Nat} {k n i : Nat} (h : i < n) : (rwM l k n i).set i (rwQ l k n i) = rwM l k n (i + 1) := by
  refine List.ext_getElem (by simp [rwM]) fun j h1 h2 => ?_
  simp only [rwM, List.length_set, List.length_map, List.length_range] at h1 h2
  rw [List.getElem_set]
  simp only [rwM, List.getElem_map, List.getElem_range]
  by_cases hj : i = j
  · subst hj; rw [if_pos rfl, if_pos (by omega)]
  · rw [if_neg hj]
    by_cases hk : j < i
    · rw [if_pos hk, if_pos (by omega)]
    · rw [if_neg hk, if_neg (by omega)]
theorem rwS_s (l : List Nat) (k j : Nat) : fop .add .f32 (rwS l k j) (rwA l k j) = rwS l k (j + 1) := rfl
theorem rwQ_d (l : List Nat) (k n j : Nat) : fop .quo .f32 (rwA l k j) (rwS l k n) = rwQ l k n j := rfl
theorem rwA_d (l : List Nat) (k j : Nat) : fint .f32 (1 + dvD l (k + j) 6) = rwA l k j := rfl
theorem fE6 {k : FloatKind} {a b : Nat} (h : a = b) : AV.t (.f k a) = AV.t (.f k b) := by rw [h]
attribute [local irreducible] QRun LexD AWp TCall TMut PBox PBoxM fop fint fcmp fconv hw dvD sdD rwA rwQ rwS
theorem drawRow_c {l : List Nat} (h : Byt l) (k n : Nat) (hk : k ≤ 1000) (hn : n ≤ 8) :
    PBoxM Try.prog 77 [.int .i64 n] (BY l) (bxD l k) (bxD l (k + n)) (.own 0 (rwL l k n).length) [(0, .sl 30 (.fl (rwL l k n)))] := by
  refine pboxm_of Try.func77 rfl (by kernel_rfl) (Nat.le_of_ble_eq_true rfl) (Nat.le_of_ble_eq_true rfl) rfl rfl fun e => ?_
  simp only [slotsL, cB, List.map, List.length]
  repeat (first | refine w_q ?_ | refine w_s ?_ | refine w_t ?_ | refine w_k ?_ | refine y_q ?_ | refine y_s ?_ | refine y_t ?_ | refine y_k ?_ | refine u_n ?_ | refine u_q ?_ | refine u_g ?_ | refine u_d ?_ | refine u_b ?_ | refine u_x ?_ | refine u_r ?_ | refine u_s ?_)
  refine awp_loop (X := Nat) (fun j => j ≤ n) (fun j => [(0, .bpa 0 900), (1, .t (.v (.int .i64 n))), (5, .own 23 0 j), (6, .t (.f .f32 (rwS l k j))), (7, .t (.v (.int .i64 j)))])
    (fun j => [(23, .sl 30 (.fl ((rwV l k n).take j))), (900, .box e [.arg 2 (BY l), .t (.v (.int .i64 ((k + j : Nat) : Int))), .t (.v (.int .u64 (sdD l (k + j))))])]) (fun j => n - j)
    0 ⟨by omega, fun i => bif Nat.beq i 23 then 10 else i, ⟨rfl, rfl, rfl, fE6 (by unfold rwS; rfl), rfl, trivial⟩, ⟨rfl, rfl, trivial⟩, injOn_dec rfl⟩ (fun j hj => ?_)
  have hz : ((rwV l k n).take j).length = j := by simp [rwV_len]; omega
  have aj := dvD_rng h (k + j) (n := 6) (by omega)
  repeat (first | refine w_q ?_ | refine w_s ?_ | refine w_t ?_ | refine w_k ?_ | refine y_q ?_ | refine y_s ?_ | refine y_t ?_ | refine y_k ?_ | refine u_n ?_ | refine u_q ?_ | refine u_g ?_ | refine u_d ?_ | refine u_b ?_ | refine u_x ?_ | refine u_r ?_ | refine u_s ?_)
  refine awp_if rfl (fun h1 => ?_) (fun h1 => ?_)
  · simp only [icmp, decide_eq_true_eq] at h1
    repeat (first | refine w_q ?_ | refine w_s ?_ | refine w_t ?_ | refine w_k ?_ | refine y_q ?_ | refine y_s ?_ | refine y_t ?_ | refine y_k ?_ | refine u_n ?_ | refine u_q ?_ | refine u_g ?_ | refine u_d ?_ | refine u_b ?_ | refine u_x ?_ | refine u_r ?_ | refine u_s ?_)
    (first | (refine w_rs (q_cboxa (pick_d h (k + j) 6 (by omega) (by omega)) rfl rfl rfl rfl rfl rfl rfl rfl) (hH := by first | (simp only [scrubF, scrubHL, scrub, scrubL, scrubB, cB, List.map, cblk, cids, cid, relab, sg, List.contains_cons, List.contains_nil, Nat.reduceBEq, Bool.or_false, Bool.or_true, cond_true, cond_false, List.cons_append, List.nil_append, Nat.reduceMul, Nat.reduceAdd, List.set, List.take, List.drop, List.length, List.append_nil]; rfl) | rfl) (h := ?_)) | (refine dx_s rfl rfl rfl (q_cboxa (pick_d h (k + j) 6 (by omega) (by omega)) rfl rfl rfl rfl rfl rfl rfl rfl) (by first | exact nf_f rfl | exact nf_b rfl | exact nf_i rfl | exact nf_bp rfl | exact nf_own rfl | exact nf_argo rfl | exact nf_arg rfl | exact nf_argc rfl | exact nf_fl rfl | exact nf_ofl rfl | exact nf_oref rfl | exact nf_tref rfl | exact nf_s rfl | exact nf_t rfl | exact nf_old rfl | exact nf_junk rfl | exact nf_dead rfl | (simp only [resV, resVl, scrubL, scrub, List.map, List.drop, List.take, mkT, zA, cellsA, cid, cids, relab, sg, List.getD, List.append, List.cons_append, List.nil_append, Nat.reduceMul, Nat.reduceAdd, Array.toList, T.get, cond_true, cond_false]; rfl) | rfl) (by first | (simp only [scrubF, scrubHL, scrub, scrubL, scrubB, cblk, cids, cid, relab, sg, List.contains_cons, List.contains_nil, Nat.reduceBEq, Bool.or_false, Bool.or_true, cond_true, cond_false, List.cons_append, List.nil_append, Nat.reduceMul, Nat.reduceAdd, List.set, List.take, List.drop, List.length, List.append_nil]; rfl) | rfl) (by first | (simp only [scrubF, scrubHL, scrub, scrubL, scrubB, cB, List.map, cblk, cids, cid, relab, sg, List.contains_cons, List.contains_nil, Nat.reduceBEq, Bool.or_false, Bool.or_true, cond_true, cond_false, List.cons_append, List.nil_append, Nat.reduceMul, Nat.reduceAdd, List.set, List.take, List.drop, List.length, List.append_nil]; rfl) | rfl) (by kernel_rfl) ?_))
    repeat (first | refine w_q ?_ | refine w_s ?_ | refine w_t ?_ | refine w_k ?_ | refine y_q ?_ | refine y_s ?_ | refine y_t ?_ | refine y_k ?_ | refine u_n ?_ | refine u_q ?_ | refine u_g ?_ | refine u_d ?_ | refine u_b ?_ | refine u_x ?_ | refine u_r ?_ | refine u_s ?_)
    rw [rwA_d]
    repeat (first | refine w_q ?_ | refine w_s ?_ | refine w_t ?_ | refine w_k ?_ | refine y_q ?_ | refine y_s ?_ | refine y_t ?_ | refine y_k ?_ | refine u_n ?_ | refine u_q ?_ | refine u_g ?_ | refine u_d ?_ | refine u_b ?_ | refine u_x ?_ | refine u_r ?_ | refine u_s ?_)
    (first | refine a_s (hn := by exact hz) (h := ?_) | refine b_s (hn := by exact hz) (h := ?_))
    repeat (first | refine w_q ?_ | refine w_s ?_ | refine w_t ?_ | refine w_k ?_ | refine y_q ?_ | refine y_s ?_ | refine y_t ?_ | refine y_k ?_ | refine u_n ?_ | refine u_q ?_ | refine u_g ?_ | refine u_d ?_ | refine u_b ?_ | refine u_x ?_ | refine u_r ?_ | refine u_s ?_)
    exact ⟨j + 1, by omega, by omega, fun i => i, ⟨rfl, rfl, own_eq (by simp only [T.app, T.len, List.length_append, hz]; rfl), fE6 (rwS_s l k j), rfl, trivial⟩, ⟨sl_eq (congrArg T.fl (take_snoc (by rw [rwV_len]; omega) (getD_mapR _ (by omega)))), rfl, trivial⟩, injOn_id _⟩
  simp only [icmp, decide_eq_false_iff_not] at h1
  obtain rfl : j = n := by omega
  rw [List.take_of_length_le (by rw [rwV_len]; omega), ← rwM_0]
  repeat (first | refine w_q ?_ | refine w_s ?_ | refine w_t ?_ | refine w_k ?_ | refine y_q ?_ | refine y_s ?_ | refine y_t ?_ | refine y_k ?_ | refine u_n ?_ | refine u_q ?_ | refine u_g ?_ | refine u_d ?_ | refine u_b ?_ | refine u_x ?_ | refine u_r ?_ | refine u_s ?_)
  refine awp_loop (X := Nat) (fun i => i ≤ j) (fun i => [(0, .bpa 0 900), (1, .t (.v (.int .i64 j))), (5, .own 23 0 j), (6, .t (.f .f32 (rwS l k j))), (28, .t (.v (.int .i64 j))), (29, .t (.v (.int .i64 i)))])
    (fun i => [(23, .sl 30 (.fl (rwM l k j i))), (900, .box e [.arg 2 (BY l), .t (.v (.int .i64 ((k + j : Nat) : Int))), .t (.v (.int .u64 (sdD l (k + j))))])]) (fun i => j - i)
    0 ⟨by omega, fun i => i, ⟨rfl, rfl, rfl, rfl, rfl, rfl, trivial⟩, ⟨rfl, rfl, trivial⟩, injOn_id _⟩ (fun i hi => ?_)
  have hzi := rwM_len l k j i
  repeat (first | refine w_q ?_ | refine w_s ?_ | refine w_t ?_ | refine w_k ?_ | refine y_q ?_ | refine y_s ?_ | refine y_t ?_ | refine y_k ?_ | refine u_n ?_ | refine u_q ?_ | refine u_g ?_ | refine u_d ?_ | refine u_b ?_ | refine u_x ?_ | refine u_r ?_ | refine u_s ?_)
  refine awp_if rfl (fun h2 => ?_) (fun h2 => ?_)
  · simp only [icmp, decide_eq_true_eq] at h2
    have hgi := rwM_get (l := l) (k := k) (n := j) (i := i) (by omega)
    repeat (first | refine w_q ?_ | refine w_s ?_ | refine w_t ?_ | refine w_k ?_ | refine y_q ?_ | refine y_s ?_ | refine y_t ?_ | refine y_k ?_ | refine u_n ?_ | refine u_q ?_ | refine u_g ?_ | refine u_d ?_ | refine u_b ?_ | refine u_x ?_ | refine u_r ?_ | refine u_s ?_)
    exact ⟨i + 1, by omega, by omega, fun i => i, ⟨rfl, rfl, rfl, rfl, rfl, rfl, trivial⟩, ⟨sl_eq (congrArg T.fl (by rw [Nat.zero_add, hgi, rwQ_d, rwM_set (by omega)])), rfl, trivial⟩, injOn_id _⟩
  simp only [icmp, decide_eq_false_iff_not] at h2
  obtain rfl : i = j := by omega
  rw [rwM_n]
  repeat (first | refine w_q ?_ | refine w_s ?_ | refine w_t ?_ | refine w_k ?_ | refine y_q ?_ | refine y_s ?_ | refine y_t ?_ | refine y_k ?_ | refine u_n ?_ | refine u_q ?_ | refine u_g ?_ | refine u_d ?_ | refine u_b ?_ | refine u_x ?_ | refine u_r ?_ | refine u_s ?_)
  refine retb_ok tyOk (by first | exact .inr rfl | exact .inl rfl) (pi9 23 900) 900 0 rfl (by repeat (first | exact .nil | (apply ResAl.cons; first | exact .tmp | exact .cell rfl rfl rfl rfl rfl rfl | exact .cell1 rfl rfl rfl rfl rfl))) ?_ ⟨rfl, trivial⟩ (injO_9 _ _ _ _ (by decide)) rfl rfl rfl
  rw [rwL_len]
  repeat' (first | exact RetRelL.nil | refine RetRel.nil rfl ?_ | refine RetRelL.cons ?_ ?_ | refine rr_tup ?_ | refine rr_agg ?_ | refine rr_own rfl ?_ | exact RetRel.arg | exact RetRel.argc | refine rr_t ?_)
  all_goals first | rfl | omega
end Go.Proofs.Ytpdnjcblkjjegaa

