import Derived.Test.YtpdnjcblkjjegaaVAwG
set_option linter.unusedVariables false
set_option linter.unusedSimpArgs false
set_option maxRecDepth 20000
set_option maxHeartbeats 16000000
namespace Go.Proofs.Ytpdnjcblkjjegaa
open Go.Aw
attribute [local irreducible] QRun LexD AWp TCall TMut fop fint fcmp fconv exN wgt logF

theorem fE0 {a b : Nat} (h : a = b) : AV.t (.f .f32 a) = AV.t (.f .f32 b) := by rw [h]
theorem l05Shares_c (a b c d s : List Nat) (fb : ∀ x ∈ b, F32 x) (hv : valR4 a b c d = true) (hs : 1 ≤ s.length ∧ s.length ≤ 96) :
    TCall Try.prog 35 [.ref [.fl a, .fl b, .fl c, .fl d], .fl s] (.tup [.own 0 (rs0 a b c d s).1.length, .t (.f .f32 (rs0 a b c d s).2.1), .t (.v (.bool (rs0 a b c d s).2.2))]) [(0, .sl 30 (.fl (rs0 a b c d s).1))] := by
  obtain ⟨hn1, hn3, hb0, hc0, hd0, haf, hab, hcc, hrr⟩ := valR4_of hv
  have h9 : a.length * a.length ≤ 9 := Nat.mul_le_mul hn3 hn3
  have bad : ¬ (rsA a b c d s = true) → rs0 a b c d s = ([], 0, false) := fun hc => by unfold rs0; rw [if_neg hc]
  refine tcall_of Try.func35 rfl (by kernel_rfl) (Nat.le_of_ble_eq_true rfl) rfl ?_
  simp only [argsL, argAV, argCs, argS]
  repeat (first | refine w_q ?_ | refine w_s ?_ | refine w_t ?_ | refine w_k ?_ | refine y_q ?_ | refine y_s ?_ | refine y_t ?_ | refine y_k ?_ | refine u_n ?_ | refine u_q ?_ | refine u_g ?_ | refine u_d ?_ | refine u_b ?_ | refine u_x ?_ | refine u_r ?_ | refine u_s ?_)
  refine awp_loop (X := Nat) (fun t => t ≤ s.length ∧ ∀ j, j < t → above (rsU a b c d s j) = true) (fun t => match t with | 0 => [(0, .arg 0 (.ref [.fl a, .fl b, .fl c, .fl d])), (1, .arg 1 (.fl s)), (7, .t (.v (.int .i64 a.length))), (8, .old (.fl c)), (9, .own 30 0 (rsO a b c d s 0).length), (10, .t (.f .f32 (rsT a b c d s 0))), (31, .arg 1 (.fl s)), (32, .t (.v (.int .i64 s.length))), (33, .t (.v (.int .i64 (0 : Nat))))] | t + 1 => [(0, .arg 0 (.ref [.fl a, .fl b, .fl c, .fl d])), (1, .arg 1 (.fl s)), (7, .t (.v (.int .i64 a.length))), (8, .own 86 0 a.length), (9, .own 30 0 (rsO a b c d s (t + 1)).length), (10, .t (.f .f32 (rsT a b c d s (t + 1)))), (31, .arg 1 (.fl s)), (32, .t (.v (.int .i64 s.length))), (33, .t (.v (.int .i64 ((t + 1) : Nat))))]) (fun t => match t with | 0 => [(30, .sl 30 (.fl (rsO a b c d s 0)))] | t + 1 => [(30, .sl 30 (.fl (rsO a b c d s (t + 1)))), (86, .sl 30 (.fl (rsC a b c d s (t + 1))))]) (fun t => s.length - t)
    0 ⟨⟨by omega, fun j hj => by omega⟩, fun i => i, ⟨rfl, rfl, rfl, rfl, rfl, rfl, rfl, rfl, rfl, trivial⟩, ⟨rfl, trivial⟩, injOn_id _⟩ (fun t ht => ?_)
  obtain ⟨ht, hok⟩ := ht
  rcases t with _ | t
  · show AWp _ _ _ _ (lkF [(0, .arg 0 (.ref [.fl a, .fl b, .fl c, .fl d])), (1, .arg 1 (.fl s)), (7, .t (.v (.int .i64 a.length))), (8, .old (.fl c)), (9, .own 30 0 (rsO a b c d s 0).length), (10, .t (.f .f32 (rsT a b c d s 0))), (31, .arg 1 (.fl s)), (32, .t (.v (.int .i64 s.length))), (33, .t (.v (.int .i64 (0 : Nat))))]) (lkH [(30, .sl 30 (.fl (rsO a b c d s 0)))])
    repeat (first | refine w_q ?_ | refine w_s ?_ | refine w_t ?_ | refine w_k ?_ | refine y_q ?_ | refine y_s ?_ | refine y_t ?_ | refine y_k ?_ | refine u_n ?_ | refine u_q ?_ | refine u_g ?_ | refine u_d ?_ | refine u_b ?_ | refine u_x ?_ | refine u_r ?_ | refine u_s ?_)
    refine awp_if rfl (fun g1 => ?_) (fun g1 => ?_)
    rotate_left
    · simp only [icmp, decide_eq_false_iff_not] at g1
      omega
    simp only [icmp, decide_eq_true_eq] at g1
    repeat (first | refine w_q ?_ | refine w_s ?_ | refine w_t ?_ | refine w_k ?_ | refine u_n ?_ | refine u_q ?_ | refine u_g ?_ | refine u_d ?_ | refine u_b ?_ | refine u_x ?_ | refine u_r ?_ | refine u_s ?_)
    refine awp_loop (X := Nat) (fun i => i ≤ a.length) (fun i => [(0, .arg 0 (.ref [.fl a, .fl b, .fl c, .fl d])), (1, .arg 1 (.fl s)), (7, .t (.v (.int .i64 a.length))), (8, .old (.fl c)), (9, .own 30 0 (rsO a b c d s 0).length), (10, .t (.f .f32 (rsT a b c d s 0))), (11, .t (.v (.int .i64 (0 : Nat)))), (12, .own 36 0 i), (13, .t (.f .f32 (sumF ((rzL a b (rsC a b c d s 0) (s.getD 0 0)).take i)))), (14, .t (.v (.int .i64 i))), (31, .arg 1 (.fl s)), (32, .t (.v (.int .i64 s.length))), (33, .t (.v (.int .i64 (0 : Nat))))]) (fun i => [(30, .sl 30 (.fl (rsO a b c d s 0))), (36, .sl 30 (.fl ((rzL a b (rsC a b c d s 0) (s.getD 0 0)).take i)))]) (fun i => a.length - i)
      0 ⟨by omega, fun i => i, ⟨rfl, rfl, rfl, rfl, rfl, rfl, rfl, rfl, rfl, rfl, rfl, rfl, rfl, trivial⟩, ⟨rfl, rfl, trivial⟩, injOn_id _⟩ (fun i hi => ?_)
    have hch : ((rsC a b c d s 0)).length = a.length := rsC_len hc0 _
    have hz2 : ((rzL a b (rsC a b c d s 0) (s.getD 0 0)).take i).length = i := by simp [rzL_len]; omega
    repeat (first | refine w_q ?_ | refine w_s ?_ | refine w_t ?_ | refine w_k ?_ | refine y_q ?_ | refine y_s ?_ | refine y_t ?_ | refine y_k ?_ | refine u_n ?_ | refine u_q ?_ | refine u_g ?_ | refine u_d ?_ | refine u_b ?_ | refine u_x ?_ | refine u_r ?_ | refine u_s ?_)
    refine awp_if rfl (fun g2 => ?_) (fun g2 => ?_)
    · simp only [icmp, decide_eq_true_eq] at g2
      have g2' : i < a.length := by omega
      have hget : (rzL a b (rsC a b c d s 0) (s.getD 0 0)).getD i 0 = fop .mul .f32 (((rsC a b c d s 0)).getD i 0) (wgt a b (s.getD 0 0) i) := by  exact rzL_get g2'
      repeat (first | refine w_q ?_ | refine w_s ?_ | refine w_t ?_ | refine w_k ?_ | refine y_q ?_ | refine y_s ?_ | refine y_t ?_ | refine y_k ?_ | refine u_n ?_ | refine u_q ?_ | refine u_g ?_ | refine u_d ?_ | refine u_b ?_ | refine u_x ?_ | refine u_r ?_ | refine u_s ?_)
      try (first | (refine w_r (q_idx_tree (i) tyOk rfl rfl rfl rfl rfl rfl rfl rfl (by omega) (by first | omega | (simp only [T.len]; omega) | assumption)) (h := ?_)) | (refine y_r (q_idx_tree (i) tyOk rfl rfl rfl rfl rfl rfl rfl rfl (by omega) (by first | omega | (simp only [T.len]; omega) | assumption)) (h := ?_)))
      repeat (first | refine w_q ?_ | refine w_s ?_ | refine w_t ?_ | refine w_k ?_ | refine y_q ?_ | refine y_s ?_ | refine y_t ?_ | refine y_k ?_ | refine u_n ?_ | refine u_q ?_ | refine u_g ?_ | refine u_d ?_ | refine u_b ?_ | refine u_x ?_ | refine u_r ?_ | refine u_s ?_)
      try (first | (refine w_r (q_idx_tree (0) tyOk rfl rfl rfl rfl rfl rfl rfl rfl (by omega) (by first | omega | (simp only [T.len]; omega) | assumption)) (h := ?_)) | (refine y_r (q_idx_tree (0) tyOk rfl rfl rfl rfl rfl rfl rfl rfl (by omega) (by first | omega | (simp only [T.len]; omega) | assumption)) (h := ?_)))
      repeat (first | refine w_q ?_ | refine w_s ?_ | refine w_t ?_ | refine w_k ?_ | refine y_q ?_ | refine y_s ?_ | refine y_t ?_ | refine y_k ?_ | refine u_n ?_ | refine u_q ?_ | refine u_g ?_ | refine u_d ?_ | refine u_b ?_ | refine u_x ?_ | refine u_r ?_ | refine u_s ?_)
      (first | (refine c_q (l05Weight_c a b c d (s.getD 0 0) i fb hab g2' (by omega) (by omega) (by omega)) (h := ?_)) | (refine z_q (l05Weight_c a b c d (s.getD 0 0) i fb hab g2' (by omega) (by omega) (by omega)) (h := ?_)))
      repeat (first | refine w_q ?_ | refine w_s ?_ | refine w_t ?_ | refine w_k ?_ | refine y_q ?_ | refine y_s ?_ | refine y_t ?_ | refine y_k ?_ | refine u_n ?_ | refine u_q ?_ | refine u_g ?_ | refine u_d ?_ | refine u_b ?_ | refine u_x ?_ | refine u_r ?_ | refine u_s ?_)
      (first | refine a_s (hn := by exact hz2) (h := ?_) | refine b_s (hn := by exact hz2) (h := ?_))
      repeat (first | refine w_q ?_ | refine w_s ?_ | refine w_t ?_ | refine w_k ?_ | refine y_q ?_ | refine y_s ?_ | refine y_t ?_ | refine y_k ?_ | refine u_n ?_ | refine u_q ?_ | refine u_g ?_ | refine u_d ?_ | refine u_b ?_ | refine u_x ?_ | refine u_r ?_ | refine u_s ?_)
      exact ⟨i + 1, by omega, by omega, fun i => i, ⟨rfl, rfl, rfl, rfl, rfl, rfl, rfl, own_eq (by simp only [T.app, T.len, List.length_append, hz2]; rfl), fE0 (by unfold sumF; rw [foldl_take (by rw [rzL_len]; omega), hget] <;> rfl), rfl, rfl, rfl, rfl, trivial⟩, ⟨rfl, sl_eq (congrArg T.fl (take_snoc (by rw [rzL_len]; omega) hget)), trivial⟩, injOn_id _⟩
    simp only [icmp, decide_eq_false_iff_not] at g2
    obtain rfl : i = a.length := by omega
    have hfl : (rzL a b (rsC a b c d s 0) (s.getD 0 0)).take a.length = (rzL a b (rsC a b c d s 0) (s.getD 0 0)) := List.take_of_length_le (by rw [rzL_len]; exact Nat.le_refl _)
    rw [hfl]
    repeat (first | refine w_q ?_ | refine w_s ?_ | refine w_t ?_ | refine w_k ?_ | refine y_q ?_ | refine y_s ?_ | refine y_t ?_ | refine y_k ?_ | refine u_n ?_ | refine u_q ?_ | refine u_g ?_ | refine u_d ?_ | refine u_b ?_ | refine u_x ?_ | refine u_r ?_ | refine u_s ?_)
    (first | (refine c_q (above_c (rsU a b c d s 0)) (h := ?_)) | (refine z_q (above_c (rsU a b c d s 0)) (h := ?_)))
    repeat (first | refine w_q ?_ | refine w_s ?_ | refine w_t ?_ | refine w_k ?_ | refine y_q ?_ | refine y_s ?_ | refine y_t ?_ | refine y_k ?_ | refine u_n ?_ | refine u_q ?_ | refine u_g ?_ | refine u_d ?_ | refine u_b ?_ | refine u_x ?_ | refine u_r ?_ | refine u_s ?_)
    refine awp_if rfl (fun g3 => ?_) (fun g3 => ?_)
    · simp only [Bool.not_eq_true'] at g3
      repeat (first | refine w_q ?_ | refine w_s ?_ | refine w_t ?_ | refine w_k ?_ | refine y_q ?_ | refine y_s ?_ | refine y_t ?_ | refine y_k ?_ | refine u_n ?_ | refine u_q ?_ | refine u_g ?_ | refine u_d ?_ | refine u_b ?_ | refine u_x ?_ | refine u_r ?_ | refine u_s ?_)
      rw [bad (fun hc => by have := List.all_eq_true.1 hc 0 (List.mem_range.2 (by omega)); rw [g3] at this; cases this)]
      (refine u_1 ?_; (repeat' (first | exact RetRelL.nil | refine RetRel.nil rfl ?_ | refine RetRelL.cons ?_ ?_ | refine rr_tup ?_ | refine rr_agg ?_ | refine rr_own rfl ?_ | exact RetRel.arg | exact RetRel.argc | refine rr_t ?_)); all_goals rfl)
    simp only [Bool.not_eq_false'] at g3
    repeat (first | refine w_q ?_ | refine w_s ?_ | refine w_t ?_ | refine w_k ?_ | refine y_q ?_ | refine y_s ?_ | refine y_t ?_ | refine y_k ?_ | refine u_n ?_ | refine u_q ?_ | refine u_g ?_ | refine u_d ?_ | refine u_b ?_ | refine u_x ?_ | refine u_r ?_ | refine u_s ?_)
    refine awp_loop (X := Nat) (fun i => i ≤ a.length) (fun i => [(0, .arg 0 (.ref [.fl a, .fl b, .fl c, .fl d])), (1, .arg 1 (.fl s)), (7, .t (.v (.int .i64 a.length))), (9, .own 30 0 (rsO a b c d s 0).length), (10, .t (.f .f32 (rsT a b c d s 0))), (12, .own 36 0 a.length), (13, .t (.f .f32 (rsU a b c d s 0))), (64, .own 36 0 a.length), (65, .t (.v (.int .i64 a.length))), (66, .t (.v (.int .i64 i))), (31, .arg 1 (.fl s)), (32, .t (.v (.int .i64 s.length))), (33, .t (.v (.int .i64 (0 : Nat))))]) (fun i => [(30, .sl 30 (.fl (rsO a b c d s 0))), (36, .sl 30 (.fl (mxL (rsD a b (rsC a b c d s 0) (s.getD 0 0)) (rzL a b (rsC a b c d s 0) (s.getD 0 0)) i)))]) (fun i => a.length - i)
      0 ⟨by omega, fun i => i, ⟨rfl, rfl, rfl, rfl, rfl, rfl, rfl, rfl, rfl, rfl, rfl, rfl, rfl, trivial⟩, ⟨rfl, sl_eq (congrArg T.fl (mxL_0 _ _)), trivial⟩, injOn_id _⟩ (fun i hi => ?_)
    have hml : (mxL (rsD a b (rsC a b c d s 0) (s.getD 0 0)) (rzL a b (rsC a b c d s 0) (s.getD 0 0)) i).length = a.length := by rw [mxL_len, rzL_len]
    repeat (first | refine w_q ?_ | refine w_s ?_ | refine w_t ?_ | refine w_k ?_ | refine y_q ?_ | refine y_s ?_ | refine y_t ?_ | refine y_k ?_ | refine u_n ?_ | refine u_q ?_ | refine u_g ?_ | refine u_d ?_ | refine u_b ?_ | refine u_x ?_ | refine u_r ?_ | refine u_s ?_)
    refine awp_if rfl (fun g4 => ?_) (fun g4 => ?_)
    · simp only [icmp, decide_eq_true_eq] at g4
      have g4' : i < a.length := by omega
      have hg : (mxL (rsD a b (rsC a b c d s 0) (s.getD 0 0)) (rzL a b (rsC a b c d s 0) (s.getD 0 0)) i).getD (0 + i) 0 = (rzL a b (rsC a b c d s 0) (s.getD 0 0)).getD i 0 := by rw [Nat.zero_add, mxL_get (by rw [rzL_len]; exact g4'), if_neg (by omega)]
      repeat (first | refine w_q ?_ | refine w_s ?_ | refine w_t ?_ | refine w_k ?_ | refine y_q ?_ | refine y_s ?_ | refine y_t ?_ | refine y_k ?_ | refine u_n ?_ | refine u_q ?_ | refine u_g ?_ | refine u_d ?_ | refine u_b ?_ | refine u_x ?_ | refine u_r ?_ | refine u_s ?_)
      try (first | (refine w_r (q_idx_own (i) tyOk rfl rfl rfl rfl rfl rfl rfl (by omega) (by first | omega | (simp only [T.len]; omega) | assumption)) (h := ?_)) | (refine y_r (q_idx_own (i) tyOk rfl rfl rfl rfl rfl rfl rfl (by omega) (by first | omega | (simp only [T.len]; omega) | assumption)) (h := ?_)))
      repeat (first | refine w_q ?_ | refine w_s ?_ | refine w_t ?_ | refine w_k ?_ | refine y_q ?_ | refine y_s ?_ | refine y_t ?_ | refine y_k ?_ | refine u_n ?_ | refine u_q ?_ | refine u_g ?_ | refine u_d ?_ | refine u_b ?_ | refine u_x ?_ | refine u_r ?_ | refine u_s ?_)
      try (first | (refine w_r (q_idx_own (i) tyOk rfl rfl rfl rfl rfl rfl rfl (by omega) (by first | omega | (simp only [T.len]; omega) | assumption)) (h := ?_)) | (refine y_r (q_idx_own (i) tyOk rfl rfl rfl rfl rfl rfl rfl (by omega) (by first | omega | (simp only [T.len]; omega) | assumption)) (h := ?_)))
      repeat (first | refine w_q ?_ | refine w_s ?_ | refine w_t ?_ | refine w_k ?_ | refine y_q ?_ | refine y_s ?_ | refine y_t ?_ | refine y_k ?_ | refine u_n ?_ | refine u_q ?_ | refine u_g ?_ | refine u_d ?_ | refine u_b ?_ | refine u_x ?_ | refine u_r ?_ | refine u_s ?_)
      exact ⟨i + 1, by omega, by omega, fun i => i, ⟨rfl, rfl, rfl, rfl, rfl, rfl, rfl, rfl, rfl, rfl, rfl, rfl, rfl, trivial⟩, ⟨rfl, sl_eq (congrArg T.fl (by rw [hg, Nat.zero_add]; exact mxL_set (by rw [rzL_len]; omega))), trivial⟩, injOn_id _⟩
    simp only [icmp, decide_eq_false_iff_not] at g4
    obtain rfl : i = a.length := by omega
    rw [rsQ_mix]
    have hql : (rsQ a b (rsC a b c d s 0) (s.getD 0 0)).length = a.length := rsQ_len _ _ _ _
    have hol := rsO_len a b c d s 0
    have hob := Nat.mul_le_mul (show 0 ≤ 96 by omega) hn3
    repeat (first | refine w_q ?_ | refine w_s ?_ | refine w_t ?_ | refine w_k ?_ | refine y_q ?_ | refine y_s ?_ | refine y_t ?_ | refine y_k ?_ | refine u_n ?_ | refine u_q ?_ | refine u_g ?_ | refine u_d ?_ | refine u_b ?_ | refine u_x ?_ | refine u_r ?_ | refine u_s ?_)
    (first | (refine c_q (l01Log_c (rsU a b c d s 0) (rsU_F a b c d s 0)) (h := ?_)) | (refine z_q (l01Log_c (rsU a b c d s 0) (rsU_F a b c d s 0)) (h := ?_)))
    repeat (first | refine w_q ?_ | refine w_s ?_ | refine w_t ?_ | refine w_k ?_ | refine y_q ?_ | refine y_s ?_ | refine y_t ?_ | refine y_k ?_ | refine u_n ?_ | refine u_q ?_ | refine u_g ?_ | refine u_d ?_ | refine u_b ?_ | refine u_x ?_ | refine u_r ?_ | refine u_s ?_)
    refine a_s (hn := by exact rfl) (hx := by exact src_own rfl rfl rfl (by exact hql)) (hb := by simp only [T.len, hql, hol]; omega) (hb2 := by simp only [T.len, hql, hol]; omega) (h := ?_)
    repeat (first | refine w_q ?_ | refine w_s ?_ | refine w_t ?_ | refine w_k ?_ | refine y_q ?_ | refine y_s ?_ | refine y_t ?_ | refine y_k ?_ | refine u_n ?_ | refine u_q ?_ | refine u_g ?_ | refine u_d ?_ | refine u_b ?_ | refine u_x ?_ | refine u_r ?_ | refine u_s ?_)
    have hol2 : (rsO a b c d s 1).length = (rsO a b c d s 0).length + a.length := by rw [rsO_len, rsO_len]; exact Nat.succ_mul _ _
    have hcl : (rsC a b c d s 1).length = a.length := rsC_len hc0 _
    refine awp_loop (X := Nat) (fun k => k ≤ a.length) (fun k => [(0, .arg 0 (.ref [.fl a, .fl b, .fl c, .fl d])), (1, .arg 1 (.fl s)), (7, .t (.v (.int .i64 a.length))), (9, .own 30 0 (rsO a b c d s 1).length), (10, .t (.f .f32 (rsT a b c d s 1))), (12, .own 36 0 a.length), (17, .own 86 0 k), (18, .t (.v (.int .i64 k))), (31, .arg 1 (.fl s)), (32, .t (.v (.int .i64 s.length))), (33, .t (.v (.int .i64 (0 : Nat))))]) (fun k => [(30, .sl 30 (.fl (rsO a b c d s 1))), (36, .sl 30 (.fl (rsQ a b (rsC a b c d s 0) (s.getD 0 0)))), (86, .sl 30 (.fl ((rsC a b c d s 1).take k)))]) (fun k => a.length - k)
      0 ⟨by omega, fun i => i, ⟨rfl, rfl, rfl, own_eq rfl, rfl, rfl, rfl, rfl, rfl, rfl, rfl, trivial⟩, ⟨rfl, rfl, rfl, trivial⟩, injOn_id _⟩ (fun k hk => ?_)
    have hz4 : ((rsC a b c d s 1).take k).length = k := by simp [hcl]; omega
    repeat (first | refine w_q ?_ | refine w_s ?_ | refine w_t ?_ | refine w_k ?_ | refine y_q ?_ | refine y_s ?_ | refine y_t ?_ | refine y_k ?_ | refine u_n ?_ | refine u_q ?_ | refine u_g ?_ | refine u_d ?_ | refine u_b ?_ | refine u_x ?_ | refine u_r ?_ | refine u_s ?_)
    refine awp_if rfl (fun g5 => ?_) (fun g5 => ?_)
    · simp only [icmp, decide_eq_true_eq] at g5
      have g5' : k < a.length := by omega
      repeat (first | refine w_q ?_ | refine w_s ?_ | refine w_t ?_ | refine w_k ?_ | refine y_q ?_ | refine y_s ?_ | refine y_t ?_ | refine y_k ?_ | refine u_n ?_ | refine u_q ?_ | refine u_g ?_ | refine u_d ?_ | refine u_b ?_ | refine u_x ?_ | refine u_r ?_ | refine u_s ?_)
      refine awp_loop (X := Nat) (fun i => i ≤ a.length) (fun i => [(0, .arg 0 (.ref [.fl a, .fl b, .fl c, .fl d])), (1, .arg 1 (.fl s)), (7, .t (.v (.int .i64 a.length))), (9, .own 30 0 (rsO a b c d s 1).length), (10, .t (.f .f32 (rsT a b c d s 1))), (12, .own 36 0 a.length), (17, .own 86 0 k), (18, .t (.v (.int .i64 k))), (19, .t (.f .f32 (rsN d a.length (rsQ a b (rsC a b c d s 0) (s.getD 0 0)) k i))), (20, .t (.v (.int .i64 i))), (31, .arg 1 (.fl s)), (32, .t (.v (.int .i64 s.length))), (33, .t (.v (.int .i64 (0 : Nat))))]) (fun i => [(30, .sl 30 (.fl (rsO a b c d s 1))), (36, .sl 30 (.fl (rsQ a b (rsC a b c d s 0) (s.getD 0 0)))), (86, .sl 30 (.fl ((rsC a b c d s 1).take k)))]) (fun i => a.length - i)
        0 ⟨by omega, fun i => i, ⟨rfl, rfl, rfl, rfl, rfl, rfl, rfl, rfl, rfl, rfl, rfl, rfl, rfl, trivial⟩, ⟨rfl, rfl, rfl, trivial⟩, injOn_id _⟩ (fun i hi => ?_)
      repeat (first | refine w_q ?_ | refine w_s ?_ | refine w_t ?_ | refine w_k ?_ | refine y_q ?_ | refine y_s ?_ | refine y_t ?_ | refine y_k ?_ | refine u_n ?_ | refine u_q ?_ | refine u_g ?_ | refine u_d ?_ | refine u_b ?_ | refine u_x ?_ | refine u_r ?_ | refine u_s ?_)
      refine awp_if rfl (fun g6 => ?_) (fun g6 => ?_)
      · simp only [icmp, decide_eq_true_eq] at g6
        have g6' : i < a.length := by omega
        have m1 := mul9 (i := i) (n := a.length) (by omega) hn3
        have m3 : (i + 1) * a.length ≤ a.length * a.length := Nat.mul_le_mul_right _ g6'
        have m4 : (i + 1) * a.length = i * a.length + a.length := by rw [Nat.add_mul, Nat.one_mul]
        repeat (first | refine w_q ?_ | refine w_s ?_ | refine w_t ?_ | refine w_k ?_ | refine y_q ?_ | refine y_s ?_ | refine y_t ?_ | refine y_k ?_ | refine u_n ?_ | refine u_q ?_ | refine u_g ?_ | refine u_d ?_ | refine u_b ?_ | refine u_x ?_ | refine u_r ?_ | refine u_s ?_)
        try (first | (refine w_r (q_idx_own (i) tyOk rfl rfl rfl rfl rfl rfl rfl (by omega) (by first | omega | (simp only [T.len]; omega) | assumption)) (h := ?_)) | (refine y_r (q_idx_own (i) tyOk rfl rfl rfl rfl rfl rfl rfl (by omega) (by first | omega | (simp only [T.len]; omega) | assumption)) (h := ?_)))
        repeat (first | refine w_q ?_ | refine w_s ?_ | refine w_t ?_ | refine w_k ?_ | refine y_q ?_ | refine y_s ?_ | refine y_t ?_ | refine y_k ?_ | refine u_n ?_ | refine u_q ?_ | refine u_g ?_ | refine u_d ?_ | refine u_b ?_ | refine u_x ?_ | refine u_r ?_ | refine u_s ?_)
        (first | (refine w_r (q_mul rfl rfl rfl (by omega)) (h := ?_)) | (refine y_r (q_mul rfl rfl rfl (by omega)) (h := ?_)))
        repeat (first | refine w_q ?_ | refine w_s ?_ | refine w_t ?_ | refine w_k ?_ | refine y_q ?_ | refine y_s ?_ | refine y_t ?_ | refine y_k ?_ | refine u_n ?_ | refine u_q ?_ | refine u_g ?_ | refine u_d ?_ | refine u_b ?_ | refine u_x ?_ | refine u_r ?_ | refine u_s ?_)
        exact ⟨i + 1, by omega, by omega, fun i => i, ⟨rfl, rfl, rfl, rfl, rfl, rfl, rfl, rfl, fE0 (by rw [Nat.zero_add]; rfl), rfl, rfl, rfl, rfl, trivial⟩, ⟨rfl, rfl, rfl, trivial⟩, injOn_id _⟩
      simp only [icmp, decide_eq_false_iff_not] at g6
      obtain rfl : i = a.length := by omega
      repeat (first | refine w_q ?_ | refine w_s ?_ | refine w_t ?_ | refine w_k ?_ | refine y_q ?_ | refine y_s ?_ | refine y_t ?_ | refine y_k ?_ | refine u_n ?_ | refine u_q ?_ | refine u_g ?_ | refine u_d ?_ | refine u_b ?_ | refine u_x ?_ | refine u_r ?_ | refine u_s ?_)
      (first | refine a_s (hn := by exact hz4) (h := ?_) | refine b_s (hn := by exact hz4) (h := ?_))
      repeat (first | refine w_q ?_ | refine w_s ?_ | refine w_t ?_ | refine w_k ?_ | refine y_q ?_ | refine y_s ?_ | refine y_t ?_ | refine y_k ?_ | refine u_n ?_ | refine u_q ?_ | refine u_g ?_ | refine u_d ?_ | refine u_b ?_ | refine u_x ?_ | refine u_r ?_ | refine u_s ?_)
      exact ⟨k + 1, by omega, by omega, fun i => i, ⟨rfl, rfl, rfl, rfl, rfl, rfl, own_eq (by simp only [T.app, T.len, List.length_append, hz4]; rfl), rfl, rfl, rfl, rfl, trivial⟩, ⟨rfl, rfl, sl_eq (congrArg T.fl (take_snoc (by omega) (rsC_get g5'))), trivial⟩, injOn_id _⟩
    simp only [icmp, decide_eq_false_iff_not] at g5
    obtain rfl : k = a.length := by omega
    have hfc : (rsC a b c d s 1).take a.length = rsC a b c d s 1 := List.take_of_length_le (by omega)
    rw [hfc]
    repeat (first | refine w_q ?_ | refine w_s ?_ | refine w_t ?_ | refine w_k ?_ | refine y_q ?_ | refine y_s ?_ | refine y_t ?_ | refine y_k ?_ | refine u_n ?_ | refine u_q ?_ | refine u_g ?_ | refine u_d ?_ | refine u_b ?_ | refine u_x ?_ | refine u_r ?_ | refine u_s ?_)
    exact ⟨0 + 1, by omega, ⟨by omega, fun q hq => (Nat.lt_or_eq_of_le (Nat.le_of_lt_succ hq)).elim (fun hq' => hok q hq') (fun hq' => by rw [hq']; exact g3)⟩, fun i => i, ⟨rfl, rfl, rfl, rfl, rfl, rfl, rfl, rfl, rfl, trivial⟩, ⟨rfl, rfl, trivial⟩, injOn_id _⟩
  · show AWp _ _ _ _ (lkF [(0, .arg 0 (.ref [.fl a, .fl b, .fl c, .fl d])), (1, .arg 1 (.fl s)), (7, .t (.v (.int .i64 a.length))), (8, .own 86 0 a.length), (9, .own 30 0 (rsO a b c d s (t + 1)).length), (10, .t (.f .f32 (rsT a b c d s (t + 1)))), (31, .arg 1 (.fl s)), (32, .t (.v (.int .i64 s.length))), (33, .t (.v (.int .i64 ((t + 1) : Nat))))]) (lkH [(30, .sl 30 (.fl (rsO a b c d s (t + 1)))), (86, .sl 30 (.fl (rsC a b c d s (t + 1))))])
    repeat (first | refine w_q ?_ | refine w_s ?_ | refine w_t ?_ | refine w_k ?_ | refine y_q ?_ | refine y_s ?_ | refine y_t ?_ | refine y_k ?_ | refine u_n ?_ | refine u_q ?_ | refine u_g ?_ | refine u_d ?_ | refine u_b ?_ | refine u_x ?_ | refine u_r ?_ | refine u_s ?_)
    refine awp_if rfl (fun g1 => ?_) (fun g1 => ?_)
    rotate_left
    · simp only [icmp, decide_eq_false_iff_not] at g1
      have ht' : t + 1 = s.length := by omega
      have hA : rsA a b c d s = true := List.all_eq_true.2 fun j hj => hok j (by have := List.mem_range.1 hj; omega)
      have hR : rs0 a b c d s = (rsO a b c d s (t + 1), rsT a b c d s (t + 1), (rsO a b c d s (t + 1)).all fin && fin (rsT a b c d s (t + 1))) := by unfold rs0; rw [if_pos hA, ← ht']
      have hol := rsO_len a b c d s (t + 1)
      have hob := Nat.mul_le_mul (show t + 1 ≤ 96 by omega) hn3
      repeat (first | refine w_q ?_ | refine w_s ?_ | refine w_t ?_ | refine w_k ?_ | refine y_q ?_ | refine y_s ?_ | refine y_t ?_ | refine y_k ?_ | refine u_n ?_ | refine u_q ?_ | refine u_g ?_ | refine u_d ?_ | refine u_b ?_ | refine u_x ?_ | refine u_r ?_ | refine u_s ?_)
      (first | (refine c_q (l02Finite_c (rsO a b c d s (t + 1)) (by omega)) (h := ?_)) | (refine z_q (l02Finite_c (rsO a b c d s (t + 1)) (by omega)) (h := ?_)))
      repeat (first | refine w_q ?_ | refine w_s ?_ | refine w_t ?_ | refine w_k ?_ | refine y_q ?_ | refine y_s ?_ | refine y_t ?_ | refine y_k ?_ | refine u_n ?_ | refine u_q ?_ | refine u_g ?_ | refine u_d ?_ | refine u_b ?_ | refine u_x ?_ | refine u_r ?_ | refine u_s ?_)
      refine lex_if rfl rfl rfl (fun g7 => ?_) (fun g7 => ?_)
      · repeat (first | refine w_q ?_ | refine w_s ?_ | refine w_t ?_ | refine w_k ?_ | refine y_q ?_ | refine y_s ?_ | refine y_t ?_ | refine y_k ?_ | refine u_n ?_ | refine u_q ?_ | refine u_g ?_ | refine u_d ?_ | refine u_b ?_ | refine u_x ?_ | refine u_r ?_ | refine u_s ?_)
        (first | (refine c_q (l01Finite_c (rsT a b c d s (t + 1))) (h := ?_)) | (refine z_q (l01Finite_c (rsT a b c d s (t + 1))) (h := ?_)))
        repeat (first | refine w_q ?_ | refine w_s ?_ | refine w_t ?_ | refine w_k ?_ | refine y_q ?_ | refine y_s ?_ | refine y_t ?_ | refine y_k ?_ | refine u_n ?_ | refine u_q ?_ | refine u_g ?_ | refine u_d ?_ | refine u_b ?_ | refine u_x ?_ | refine u_r ?_ | refine u_s ?_)
        rw [show rs0 a b c d s = (rsO a b c d s (t + 1), rsT a b c d s (t + 1), fin (rsT a b c d s (t + 1))) by rw [hR, g7, Bool.true_and]]
        refine ret_ok tyOk (by first | exact .inr rfl | exact .inl rfl) (pi1 30) rfl (by repeat (first | exact .nil | (apply ResAl.cons; first | exact .tmp | exact .cell rfl rfl rfl rfl rfl rfl | exact .cell1 rfl rfl rfl rfl rfl))) ?_ ⟨rfl, trivial⟩ (injO_1 _ _ _)
        repeat' (first | exact RetRelL.nil | refine RetRel.nil rfl ?_ | refine RetRelL.cons ?_ ?_ | refine rr_tup ?_ | refine rr_agg ?_ | refine rr_own rfl ?_ | exact RetRel.arg | exact RetRel.argc | refine rr_t ?_)
        all_goals rfl
      · repeat (first | refine w_q ?_ | refine w_s ?_ | refine w_t ?_ | refine w_k ?_ | refine y_q ?_ | refine y_s ?_ | refine y_t ?_ | refine y_k ?_ | refine u_n ?_ | refine u_q ?_ | refine u_g ?_ | refine u_d ?_ | refine u_b ?_ | refine u_x ?_ | refine u_r ?_ | refine u_s ?_)
        rw [show rs0 a b c d s = (rsO a b c d s (t + 1), rsT a b c d s (t + 1), false) by rw [hR, g7, Bool.false_and]]
        refine ret_ok tyOk (by first | exact .inr rfl | exact .inl rfl) (pi1 30) rfl (by repeat (first | exact .nil | (apply ResAl.cons; first | exact .tmp | exact .cell rfl rfl rfl rfl rfl rfl | exact .cell1 rfl rfl rfl rfl rfl))) ?_ ⟨rfl, trivial⟩ (injO_1 _ _ _)
        repeat' (first | exact RetRelL.nil | refine RetRel.nil rfl ?_ | refine RetRelL.cons ?_ ?_ | refine rr_tup ?_ | refine rr_agg ?_ | refine rr_own rfl ?_ | exact RetRel.arg | exact RetRel.argc | refine rr_t ?_)
        all_goals rfl
    simp only [icmp, decide_eq_true_eq] at g1
    repeat (first | refine w_q ?_ | refine w_s ?_ | refine w_t ?_ | refine w_k ?_ | refine u_n ?_ | refine u_q ?_ | refine u_g ?_ | refine u_d ?_ | refine u_b ?_ | refine u_x ?_ | refine u_r ?_ | refine u_s ?_)
    refine awp_loop (X := Nat) (fun i => i ≤ a.length) (fun i => [(0, .arg 0 (.ref [.fl a, .fl b, .fl c, .fl d])), (1, .arg 1 (.fl s)), (7, .t (.v (.int .i64 a.length))), (8, .own 86 0 a.length), (9, .own 30 0 (rsO a b c d s (t + 1)).length), (10, .t (.f .f32 (rsT a b c d s (t + 1)))), (11, .t (.v (.int .i64 ((t + 1) : Nat)))), (12, .own 36 0 i), (13, .t (.f .f32 (sumF ((rzL a b (rsC a b c d s (t + 1)) (s.getD (t + 1) 0)).take i)))), (14, .t (.v (.int .i64 i))), (31, .arg 1 (.fl s)), (32, .t (.v (.int .i64 s.length))), (33, .t (.v (.int .i64 ((t + 1) : Nat))))]) (fun i => [(30, .sl 30 (.fl (rsO a b c d s (t + 1)))), (86, .sl 30 (.fl (rsC a b c d s (t + 1)))), (36, .sl 30 (.fl ((rzL a b (rsC a b c d s (t + 1)) (s.getD (t + 1) 0)).take i)))]) (fun i => a.length - i)
      0 ⟨by omega, fun i => i, ⟨rfl, rfl, rfl, rfl, rfl, rfl, rfl, rfl, rfl, rfl, rfl, rfl, rfl, trivial⟩, ⟨rfl, rfl, rfl, trivial⟩, injOn_id _⟩ (fun i hi => ?_)
    have hch : ((rsC a b c d s (t + 1))).length = a.length := rsC_len hc0 _
    have hz2 : ((rzL a b (rsC a b c d s (t + 1)) (s.getD (t + 1) 0)).take i).length = i := by simp [rzL_len]; omega
    repeat (first | refine w_q ?_ | refine w_s ?_ | refine w_t ?_ | refine w_k ?_ | refine y_q ?_ | refine y_s ?_ | refine y_t ?_ | refine y_k ?_ | refine u_n ?_ | refine u_q ?_ | refine u_g ?_ | refine u_d ?_ | refine u_b ?_ | refine u_x ?_ | refine u_r ?_ | refine u_s ?_)
    refine awp_if rfl (fun g2 => ?_) (fun g2 => ?_)
    · simp only [icmp, decide_eq_true_eq] at g2
      have g2' : i < a.length := by omega
      have hget : (rzL a b (rsC a b c d s (t + 1)) (s.getD (t + 1) 0)).getD i 0 = fop .mul .f32 (((rsC a b c d s (t + 1))).getD (0 + i) 0) (wgt a b (s.getD (t + 1) 0) i) := by rw [Nat.zero_add]; exact rzL_get g2'
      repeat (first | refine w_q ?_ | refine w_s ?_ | refine w_t ?_ | refine w_k ?_ | refine y_q ?_ | refine y_s ?_ | refine y_t ?_ | refine y_k ?_ | refine u_n ?_ | refine u_q ?_ | refine u_g ?_ | refine u_d ?_ | refine u_b ?_ | refine u_x ?_ | refine u_r ?_ | refine u_s ?_)
      try (first | (refine w_r (q_idx_own (i) tyOk rfl rfl rfl rfl rfl rfl rfl (by omega) (by first | omega | (simp only [T.len]; omega) | assumption)) (h := ?_)) | (refine y_r (q_idx_own (i) tyOk rfl rfl rfl rfl rfl rfl rfl (by omega) (by first | omega | (simp only [T.len]; omega) | assumption)) (h := ?_)))
      repeat (first | refine w_q ?_ | refine w_s ?_ | refine w_t ?_ | refine w_k ?_ | refine y_q ?_ | refine y_s ?_ | refine y_t ?_ | refine y_k ?_ | refine u_n ?_ | refine u_q ?_ | refine u_g ?_ | refine u_d ?_ | refine u_b ?_ | refine u_x ?_ | refine u_r ?_ | refine u_s ?_)
      try (first | (refine w_r (q_idx_tree ((t + 1)) tyOk rfl rfl rfl rfl rfl rfl rfl rfl (by omega) (by first | omega | (simp only [T.len]; omega) | assumption)) (h := ?_)) | (refine y_r (q_idx_tree ((t + 1)) tyOk rfl rfl rfl rfl rfl rfl rfl rfl (by omega) (by first | omega | (simp only [T.len]; omega) | assumption)) (h := ?_)))
      repeat (first | refine w_q ?_ | refine w_s ?_ | refine w_t ?_ | refine w_k ?_ | refine y_q ?_ | refine y_s ?_ | refine y_t ?_ | refine y_k ?_ | refine u_n ?_ | refine u_q ?_ | refine u_g ?_ | refine u_d ?_ | refine u_b ?_ | refine u_x ?_ | refine u_r ?_ | refine u_s ?_)
      (first | (refine c_q (l05Weight_c a b c d (s.getD (t + 1) 0) i fb hab g2' (by omega) (by omega) (by omega)) (h := ?_)) | (refine z_q (l05Weight_c a b c d (s.getD (t + 1) 0) i fb hab g2' (by omega) (by omega) (by omega)) (h := ?_)))
      repeat (first | refine w_q ?_ | refine w_s ?_ | refine w_t ?_ | refine w_k ?_ | refine y_q ?_ | refine y_s ?_ | refine y_t ?_ | refine y_k ?_ | refine u_n ?_ | refine u_q ?_ | refine u_g ?_ | refine u_d ?_ | refine u_b ?_ | refine u_x ?_ | refine u_r ?_ | refine u_s ?_)
      (first | refine a_s (hn := by exact hz2) (h := ?_) | refine b_s (hn := by exact hz2) (h := ?_))
      repeat (first | refine w_q ?_ | refine w_s ?_ | refine w_t ?_ | refine w_k ?_ | refine y_q ?_ | refine y_s ?_ | refine y_t ?_ | refine y_k ?_ | refine u_n ?_ | refine u_q ?_ | refine u_g ?_ | refine u_d ?_ | refine u_b ?_ | refine u_x ?_ | refine u_r ?_ | refine u_s ?_)
      exact ⟨i + 1, by omega, by omega, fun i => i, ⟨rfl, rfl, rfl, rfl, rfl, rfl, rfl, own_eq (by simp only [T.app, T.len, List.length_append, hz2]; rfl), fE0 (by unfold sumF; rw [foldl_take (by rw [rzL_len]; omega), hget] <;> rfl), rfl, rfl, rfl, rfl, trivial⟩, ⟨rfl, rfl, sl_eq (congrArg T.fl (take_snoc (by rw [rzL_len]; omega) hget)), trivial⟩, injOn_id _⟩
    simp only [icmp, decide_eq_false_iff_not] at g2
    obtain rfl : i = a.length := by omega
    have hfl : (rzL a b (rsC a b c d s (t + 1)) (s.getD (t + 1) 0)).take a.length = (rzL a b (rsC a b c d s (t + 1)) (s.getD (t + 1) 0)) := List.take_of_length_le (by rw [rzL_len]; exact Nat.le_refl _)
    rw [hfl]
    repeat (first | refine w_q ?_ | refine w_s ?_ | refine w_t ?_ | refine w_k ?_ | refine y_q ?_ | refine y_s ?_ | refine y_t ?_ | refine y_k ?_ | refine u_n ?_ | refine u_q ?_ | refine u_g ?_ | refine u_d ?_ | refine u_b ?_ | refine u_x ?_ | refine u_r ?_ | refine u_s ?_)
    (first | (refine c_q (above_c (rsU a b c d s (t + 1))) (h := ?_)) | (refine z_q (above_c (rsU a b c d s (t + 1))) (h := ?_)))
    repeat (first | refine w_q ?_ | refine w_s ?_ | refine w_t ?_ | refine w_k ?_ | refine y_q ?_ | refine y_s ?_ | refine y_t ?_ | refine y_k ?_ | refine u_n ?_ | refine u_q ?_ | refine u_g ?_ | refine u_d ?_ | refine u_b ?_ | refine u_x ?_ | refine u_r ?_ | refine u_s ?_)
    refine awp_if rfl (fun g3 => ?_) (fun g3 => ?_)
    · simp only [Bool.not_eq_true'] at g3
      repeat (first | refine w_q ?_ | refine w_s ?_ | refine w_t ?_ | refine w_k ?_ | refine y_q ?_ | refine y_s ?_ | refine y_t ?_ | refine y_k ?_ | refine u_n ?_ | refine u_q ?_ | refine u_g ?_ | refine u_d ?_ | refine u_b ?_ | refine u_x ?_ | refine u_r ?_ | refine u_s ?_)
      rw [bad (fun hc => by have := List.all_eq_true.1 hc (t + 1) (List.mem_range.2 (by omega)); rw [g3] at this; cases this)]
      (refine u_1 ?_; (repeat' (first | exact RetRelL.nil | refine RetRel.nil rfl ?_ | refine RetRelL.cons ?_ ?_ | refine rr_tup ?_ | refine rr_agg ?_ | refine rr_own rfl ?_ | exact RetRel.arg | exact RetRel.argc | refine rr_t ?_)); all_goals rfl)
    simp only [Bool.not_eq_false'] at g3
    repeat (first | refine w_q ?_ | refine w_s ?_ | refine w_t ?_ | refine w_k ?_ | refine y_q ?_ | refine y_s ?_ | refine y_t ?_ | refine y_k ?_ | refine u_n ?_ | refine u_q ?_ | refine u_g ?_ | refine u_d ?_ | refine u_b ?_ | refine u_x ?_ | refine u_r ?_ | refine u_s ?_)
    refine awp_loop (X := Nat) (fun i => i ≤ a.length) (fun i => [(0, .arg 0 (.ref [.fl a, .fl b, .fl c, .fl d])), (1, .arg 1 (.fl s)), (7, .t (.v (.int .i64 a.length))), (9, .own 30 0 (rsO a b c d s (t + 1)).length), (10, .t (.f .f32 (rsT a b c d s (t + 1)))), (12, .own 36 0 a.length), (13, .t (.f .f32 (rsU a b c d s (t + 1)))), (64, .own 36 0 a.length), (65, .t (.v (.int .i64 a.length))), (66, .t (.v (.int .i64 i))), (31, .arg 1 (.fl s)), (32, .t (.v (.int .i64 s.length))), (33, .t (.v (.int .i64 ((t + 1) : Nat))))]) (fun i => [(30, .sl 30 (.fl (rsO a b c d s (t + 1)))), (36, .sl 30 (.fl (mxL (rsD a b (rsC a b c d s (t + 1)) (s.getD (t + 1) 0)) (rzL a b (rsC a b c d s (t + 1)) (s.getD (t + 1) 0)) i)))]) (fun i => a.length - i)
      0 ⟨by omega, fun i => i, ⟨rfl, rfl, rfl, rfl, rfl, rfl, rfl, rfl, rfl, rfl, rfl, rfl, rfl, trivial⟩, ⟨rfl, sl_eq (congrArg T.fl (mxL_0 _ _)), trivial⟩, injOn_id _⟩ (fun i hi => ?_)
    have hml : (mxL (rsD a b (rsC a b c d s (t + 1)) (s.getD (t + 1) 0)) (rzL a b (rsC a b c d s (t + 1)) (s.getD (t + 1) 0)) i).length = a.length := by rw [mxL_len, rzL_len]
    repeat (first | refine w_q ?_ | refine w_s ?_ | refine w_t ?_ | refine w_k ?_ | refine y_q ?_ | refine y_s ?_ | refine y_t ?_ | refine y_k ?_ | refine u_n ?_ | refine u_q ?_ | refine u_g ?_ | refine u_d ?_ | refine u_b ?_ | refine u_x ?_ | refine u_r ?_ | refine u_s ?_)
    refine awp_if rfl (fun g4 => ?_) (fun g4 => ?_)
    · simp only [icmp, decide_eq_true_eq] at g4
      have g4' : i < a.length := by omega
      have hg : (mxL (rsD a b (rsC a b c d s (t + 1)) (s.getD (t + 1) 0)) (rzL a b (rsC a b c d s (t + 1)) (s.getD (t + 1) 0)) i).getD (0 + i) 0 = (rzL a b (rsC a b c d s (t + 1)) (s.getD (t + 1) 0)).getD i 0 := by rw [Nat.zero_add, mxL_get (by rw [rzL_len]; exact g4'), if_neg (by omega)]
      repeat (first | refine w_q ?_ | refine w_s ?_ | refine w_t ?_ | refine w_k ?_ | refine y_q ?_ | refine y_s ?_ | refine y_t ?_ | refine y_k ?_ | refine u_n ?_ | refine u_q ?_ | refine u_g ?_ | refine u_d ?_ | refine u_b ?_ | refine u_x ?_ | refine u_r ?_ | refine u_s ?_)
      try (first | (refine w_r (q_idx_own (i) tyOk rfl rfl rfl rfl rfl rfl rfl (by omega) (by first | omega | (simp only [T.len]; omega) | assumption)) (h := ?_)) | (refine y_r (q_idx_own (i) tyOk rfl rfl rfl rfl rfl rfl rfl (by omega) (by first | omega | (simp only [T.len]; omega) | assumption)) (h := ?_)))
      repeat (first | refine w_q ?_ | refine w_s ?_ | refine w_t ?_ | refine w_k ?_ | refine y_q ?_ | refine y_s ?_ | refine y_t ?_ | refine y_k ?_ | refine u_n ?_ | refine u_q ?_ | refine u_g ?_ | refine u_d ?_ | refine u_b ?_ | refine u_x ?_ | refine u_r ?_ | refine u_s ?_)
      try (first | (refine w_r (q_idx_own (i) tyOk rfl rfl rfl rfl rfl rfl rfl (by omega) (by first | omega | (simp only [T.len]; omega) | assumption)) (h := ?_)) | (refine y_r (q_idx_own (i) tyOk rfl rfl rfl rfl rfl rfl rfl (by omega) (by first | omega | (simp only [T.len]; omega) | assumption)) (h := ?_)))
      repeat (first | refine w_q ?_ | refine w_s ?_ | refine w_t ?_ | refine w_k ?_ | refine y_q ?_ | refine y_s ?_ | refine y_t ?_ | refine y_k ?_ | refine u_n ?_ | refine u_q ?_ | refine u_g ?_ | refine u_d ?_ | refine u_b ?_ | refine u_x ?_ | refine u_r ?_ | refine u_s ?_)
      exact ⟨i + 1, by omega, by omega, fun i => i, ⟨rfl, rfl, rfl, rfl, rfl, rfl, rfl, rfl, rfl, rfl, rfl, rfl, rfl, trivial⟩, ⟨rfl, sl_eq (congrArg T.fl (by rw [hg, Nat.zero_add]; exact mxL_set (by rw [rzL_len]; omega))), trivial⟩, injOn_id _⟩
    simp only [icmp, decide_eq_false_iff_not] at g4
    obtain rfl : i = a.length := by omega
    rw [rsQ_mix]
    have hql : (rsQ a b (rsC a b c d s (t + 1)) (s.getD (t + 1) 0)).length = a.length := rsQ_len _ _ _ _
    have hol := rsO_len a b c d s (t + 1)
    have hob := Nat.mul_le_mul (show (t + 1) ≤ 96 by omega) hn3
    repeat (first | refine w_q ?_ | refine w_s ?_ | refine w_t ?_ | refine w_k ?_ | refine y_q ?_ | refine y_s ?_ | refine y_t ?_ | refine y_k ?_ | refine u_n ?_ | refine u_q ?_ | refine u_g ?_ | refine u_d ?_ | refine u_b ?_ | refine u_x ?_ | refine u_r ?_ | refine u_s ?_)
    (first | (refine c_q (l01Log_c (rsU a b c d s (t + 1)) (rsU_F a b c d s (t + 1))) (h := ?_)) | (refine z_q (l01Log_c (rsU a b c d s (t + 1)) (rsU_F a b c d s (t + 1))) (h := ?_)))
    repeat (first | refine w_q ?_ | refine w_s ?_ | refine w_t ?_ | refine w_k ?_ | refine y_q ?_ | refine y_s ?_ | refine y_t ?_ | refine y_k ?_ | refine u_n ?_ | refine u_q ?_ | refine u_g ?_ | refine u_d ?_ | refine u_b ?_ | refine u_x ?_ | refine u_r ?_ | refine u_s ?_)
    refine a_s (hn := by exact rfl) (hx := by exact src_own rfl rfl rfl (by exact hql)) (hb := by simp only [T.len, hql, hol]; omega) (hb2 := by simp only [T.len, hql, hol]; omega) (h := ?_)
    repeat (first | refine w_q ?_ | refine w_s ?_ | refine w_t ?_ | refine w_k ?_ | refine y_q ?_ | refine y_s ?_ | refine y_t ?_ | refine y_k ?_ | refine u_n ?_ | refine u_q ?_ | refine u_g ?_ | refine u_d ?_ | refine u_b ?_ | refine u_x ?_ | refine u_r ?_ | refine u_s ?_)
    have hol2 : (rsO a b c d s (t + 2)).length = (rsO a b c d s (t + 1)).length + a.length := by rw [rsO_len, rsO_len]; exact Nat.succ_mul _ _
    have hcl : (rsC a b c d s (t + 2)).length = a.length := rsC_len hc0 _
    refine awp_loop (X := Nat) (fun k => k ≤ a.length) (fun k => [(0, .arg 0 (.ref [.fl a, .fl b, .fl c, .fl d])), (1, .arg 1 (.fl s)), (7, .t (.v (.int .i64 a.length))), (9, .own 30 0 (rsO a b c d s (t + 2)).length), (10, .t (.f .f32 (rsT a b c d s (t + 2)))), (12, .own 36 0 a.length), (17, .own 86 0 k), (18, .t (.v (.int .i64 k))), (31, .arg 1 (.fl s)), (32, .t (.v (.int .i64 s.length))), (33, .t (.v (.int .i64 ((t + 1) : Nat))))]) (fun k => [(30, .sl 30 (.fl (rsO a b c d s (t + 2)))), (36, .sl 30 (.fl (rsQ a b (rsC a b c d s (t + 1)) (s.getD (t + 1) 0)))), (86, .sl 30 (.fl ((rsC a b c d s (t + 2)).take k)))]) (fun k => a.length - k)
      0 ⟨by omega, fun i => i, ⟨rfl, rfl, rfl, own_eq rfl, rfl, rfl, rfl, rfl, rfl, rfl, rfl, trivial⟩, ⟨rfl, rfl, rfl, trivial⟩, injOn_id _⟩ (fun k hk => ?_)
    have hz4 : ((rsC a b c d s (t + 2)).take k).length = k := by simp [hcl]; omega
    repeat (first | refine w_q ?_ | refine w_s ?_ | refine w_t ?_ | refine w_k ?_ | refine y_q ?_ | refine y_s ?_ | refine y_t ?_ | refine y_k ?_ | refine u_n ?_ | refine u_q ?_ | refine u_g ?_ | refine u_d ?_ | refine u_b ?_ | refine u_x ?_ | refine u_r ?_ | refine u_s ?_)
    refine awp_if rfl (fun g5 => ?_) (fun g5 => ?_)
    · simp only [icmp, decide_eq_true_eq] at g5
      have g5' : k < a.length := by omega
      repeat (first | refine w_q ?_ | refine w_s ?_ | refine w_t ?_ | refine w_k ?_ | refine y_q ?_ | refine y_s ?_ | refine y_t ?_ | refine y_k ?_ | refine u_n ?_ | refine u_q ?_ | refine u_g ?_ | refine u_d ?_ | refine u_b ?_ | refine u_x ?_ | refine u_r ?_ | refine u_s ?_)
      refine awp_loop (X := Nat) (fun i => i ≤ a.length) (fun i => [(0, .arg 0 (.ref [.fl a, .fl b, .fl c, .fl d])), (1, .arg 1 (.fl s)), (7, .t (.v (.int .i64 a.length))), (9, .own 30 0 (rsO a b c d s (t + 2)).length), (10, .t (.f .f32 (rsT a b c d s (t + 2)))), (12, .own 36 0 a.length), (17, .own 86 0 k), (18, .t (.v (.int .i64 k))), (19, .t (.f .f32 (rsN d a.length (rsQ a b (rsC a b c d s (t + 1)) (s.getD (t + 1) 0)) k i))), (20, .t (.v (.int .i64 i))), (31, .arg 1 (.fl s)), (32, .t (.v (.int .i64 s.length))), (33, .t (.v (.int .i64 ((t + 1) : Nat))))]) (fun i => [(30, .sl 30 (.fl (rsO a b c d s (t + 2)))), (36, .sl 30 (.fl (rsQ a b (rsC a b c d s (t + 1)) (s.getD (t + 1) 0)))), (86, .sl 30 (.fl ((rsC a b c d s (t + 2)).take k)))]) (fun i => a.length - i)
        0 ⟨by omega, fun i => i, ⟨rfl, rfl, rfl, rfl, rfl, rfl, rfl, rfl, rfl, rfl, rfl, rfl, rfl, trivial⟩, ⟨rfl, rfl, rfl, trivial⟩, injOn_id _⟩ (fun i hi => ?_)
      repeat (first | refine w_q ?_ | refine w_s ?_ | refine w_t ?_ | refine w_k ?_ | refine y_q ?_ | refine y_s ?_ | refine y_t ?_ | refine y_k ?_ | refine u_n ?_ | refine u_q ?_ | refine u_g ?_ | refine u_d ?_ | refine u_b ?_ | refine u_x ?_ | refine u_r ?_ | refine u_s ?_)
      refine awp_if rfl (fun g6 => ?_) (fun g6 => ?_)
      · simp only [icmp, decide_eq_true_eq] at g6
        have g6' : i < a.length := by omega
        have m1 := mul9 (i := i) (n := a.length) (by omega) hn3
        have m3 : (i + 1) * a.length ≤ a.length * a.length := Nat.mul_le_mul_right _ g6'
        have m4 : (i + 1) * a.length = i * a.length + a.length := by rw [Nat.add_mul, Nat.one_mul]
        repeat (first | refine w_q ?_ | refine w_s ?_ | refine w_t ?_ | refine w_k ?_ | refine y_q ?_ | refine y_s ?_ | refine y_t ?_ | refine y_k ?_ | refine u_n ?_ | refine u_q ?_ | refine u_g ?_ | refine u_d ?_ | refine u_b ?_ | refine u_x ?_ | refine u_r ?_ | refine u_s ?_)
        try (first | (refine w_r (q_idx_own (i) tyOk rfl rfl rfl rfl rfl rfl rfl (by omega) (by first | omega | (simp only [T.len]; omega) | assumption)) (h := ?_)) | (refine y_r (q_idx_own (i) tyOk rfl rfl rfl rfl rfl rfl rfl (by omega) (by first | omega | (simp only [T.len]; omega) | assumption)) (h := ?_)))
        repeat (first | refine w_q ?_ | refine w_s ?_ | refine w_t ?_ | refine w_k ?_ | refine y_q ?_ | refine y_s ?_ | refine y_t ?_ | refine y_k ?_ | refine u_n ?_ | refine u_q ?_ | refine u_g ?_ | refine u_d ?_ | refine u_b ?_ | refine u_x ?_ | refine u_r ?_ | refine u_s ?_)
        (first | (refine w_r (q_mul rfl rfl rfl (by omega)) (h := ?_)) | (refine y_r (q_mul rfl rfl rfl (by omega)) (h := ?_)))
        repeat (first | refine w_q ?_ | refine w_s ?_ | refine w_t ?_ | refine w_k ?_ | refine y_q ?_ | refine y_s ?_ | refine y_t ?_ | refine y_k ?_ | refine u_n ?_ | refine u_q ?_ | refine u_g ?_ | refine u_d ?_ | refine u_b ?_ | refine u_x ?_ | refine u_r ?_ | refine u_s ?_)
        exact ⟨i + 1, by omega, by omega, fun i => i, ⟨rfl, rfl, rfl, rfl, rfl, rfl, rfl, rfl, fE0 (by rw [Nat.zero_add]; rfl), rfl, rfl, rfl, rfl, trivial⟩, ⟨rfl, rfl, rfl, trivial⟩, injOn_id _⟩
      simp only [icmp, decide_eq_false_iff_not] at g6
      obtain rfl : i = a.length := by omega
      repeat (first | refine w_q ?_ | refine w_s ?_ | refine w_t ?_ | refine w_k ?_ | refine y_q ?_ | refine y_s ?_ | refine y_t ?_ | refine y_k ?_ | refine u_n ?_ | refine u_q ?_ | refine u_g ?_ | refine u_d ?_ | refine u_b ?_ | refine u_x ?_ | refine u_r ?_ | refine u_s ?_)
      (first | refine a_s (hn := by exact hz4) (h := ?_) | refine b_s (hn := by exact hz4) (h := ?_))
      repeat (first | refine w_q ?_ | refine w_s ?_ | refine w_t ?_ | refine w_k ?_ | refine y_q ?_ | refine y_s ?_ | refine y_t ?_ | refine y_k ?_ | refine u_n ?_ | refine u_q ?_ | refine u_g ?_ | refine u_d ?_ | refine u_b ?_ | refine u_x ?_ | refine u_r ?_ | refine u_s ?_)
      exact ⟨k + 1, by omega, by omega, fun i => i, ⟨rfl, rfl, rfl, rfl, rfl, rfl, own_eq (by simp only [T.app, T.len, List.length_append, hz4]; rfl), rfl, rfl, rfl, rfl, trivial⟩, ⟨rfl, rfl, sl_eq (congrArg T.fl (take_snoc (by omega) (rsC_get g5'))), trivial⟩, injOn_id _⟩
    simp only [icmp, decide_eq_false_iff_not] at g5
    obtain rfl : k = a.length := by omega
    have hfc : (rsC a b c d s (t + 2)).take a.length = rsC a b c d s (t + 2) := List.take_of_length_le (by omega)
    rw [hfc]
    repeat (first | refine w_q ?_ | refine w_s ?_ | refine w_t ?_ | refine w_k ?_ | refine y_q ?_ | refine y_s ?_ | refine y_t ?_ | refine y_k ?_ | refine u_n ?_ | refine u_q ?_ | refine u_g ?_ | refine u_d ?_ | refine u_b ?_ | refine u_x ?_ | refine u_r ?_ | refine u_s ?_)
    exact ⟨(t + 1) + 1, by omega, ⟨by omega, fun q hq => (Nat.lt_or_eq_of_le (Nat.le_of_lt_succ hq)).elim (fun hq' => hok q hq') (fun hq' => by rw [hq']; exact g3)⟩, fun i => i, ⟨rfl, rfl, rfl, rfl, rfl, rfl, rfl, rfl, rfl, trivial⟩, ⟨rfl, rfl, trivial⟩, injOn_id _⟩
theorem specShares_c (a b c d s : List Nat) (fb : ∀ x ∈ b, F32 x) (h : a.length ≤ 9223372036854775807 ∧ b.length ≤ 9223372036854775807 ∧ c.length ≤ 9223372036854775807 ∧ d.length ≤ 9223372036854775807) (hs : s.length ≤ 9223372036854775807) :
    TCall Try.prog 9 [R4 a b c d, .fl s] (.tup [.own 0 (rsF a b c d s).1.length, .t (.f .f32 (rsF a b c d s).2.1), .t (.v (.bool (rsF a b c d s).2.2))]) [(0, .sl 30 (.fl (rsF a b c d s).1))] := by
  have bad := @rsF_not a b c d s
  refine tcall_of Try.func9 rfl (by kernel_rfl) (Nat.le_of_ble_eq_true rfl) rfl ?_
  simp only [argsL, argAV, argCs, argS]
  repeat (first | refine w_q ?_ | refine w_s ?_ | refine w_t ?_ | refine w_k ?_ | refine y_q ?_ | refine y_s ?_ | refine y_t ?_ | refine y_k ?_ | refine u_n ?_ | refine u_q ?_ | refine u_g ?_ | refine u_d ?_ | refine u_b ?_ | refine u_x ?_ | refine u_r ?_ | refine u_s ?_ | refine w_r (q_build tyOk rfl rfl rfl rfl rfl rfl rfl rfl) (h := ?_) | refine y_r (q_build tyOk rfl rfl rfl rfl rfl rfl rfl rfl) (h := ?_))
  (first | refine c_q (l05Regimes_c a b c d h) (h := ?_) | refine z_q (l05Regimes_c a b c d h) (h := ?_))
  repeat (first | refine w_q ?_ | refine w_s ?_ | refine w_t ?_ | refine w_k ?_ | refine y_q ?_ | refine y_s ?_ | refine y_t ?_ | refine y_k ?_ | refine u_n ?_ | refine u_q ?_ | refine u_g ?_ | refine u_d ?_ | refine u_b ?_ | refine u_x ?_ | refine u_r ?_ | refine u_s ?_ | refine w_r (q_build tyOk rfl rfl rfl rfl rfl rfl rfl rfl) (h := ?_) | refine y_r (q_build tyOk rfl rfl rfl rfl rfl rfl rfl rfl) (h := ?_))
  refine lex_if rfl rfl rfl (fun h1 => ?_) (fun h1 => ?_)
  · simp only [Bool.not_eq_true'] at h1
    repeat (first | refine w_q ?_ | refine w_s ?_ | refine w_t ?_ | refine w_k ?_ | refine y_q ?_ | refine y_s ?_ | refine y_t ?_ | refine y_k ?_ | refine u_n ?_ | refine u_q ?_ | refine u_g ?_ | refine u_d ?_ | refine u_b ?_ | refine u_x ?_ | refine u_r ?_ | refine u_s ?_ | refine w_r (q_build tyOk rfl rfl rfl rfl rfl rfl rfl rfl) (h := ?_) | refine y_r (q_build tyOk rfl rfl rfl rfl rfl rfl rfl rfl) (h := ?_))
    refine awp_ifT rfl rfl ?_
    repeat (first | refine w_q ?_ | refine w_s ?_ | refine w_t ?_ | refine w_k ?_ | refine y_q ?_ | refine y_s ?_ | refine y_t ?_ | refine y_k ?_ | refine u_n ?_ | refine u_q ?_ | refine u_g ?_ | refine u_d ?_ | refine u_b ?_ | refine u_x ?_ | refine u_r ?_ | refine u_s ?_ | refine w_r (q_build tyOk rfl rfl rfl rfl rfl rfl rfl rfl) (h := ?_) | refine y_r (q_build tyOk rfl rfl rfl rfl rfl rfl rfl rfl) (h := ?_))
    rw [bad (fun hc => by rw [h1] at hc; cases hc.1)]
    (refine u_1 ?_; (repeat' (first | exact RetRelL.nil | refine RetRel.nil rfl ?_ | refine RetRelL.cons ?_ ?_ | refine rr_tup ?_ | refine rr_agg ?_ | refine rr_own rfl ?_ | exact RetRel.arg | exact RetRel.argc | refine rr_t ?_)); all_goals rfl)
  simp only [Bool.not_eq_false'] at h1
  repeat (first | refine w_q ?_ | refine w_s ?_ | refine w_t ?_ | refine w_k ?_ | refine y_q ?_ | refine y_s ?_ | refine y_t ?_ | refine y_k ?_ | refine u_n ?_ | refine u_q ?_ | refine u_g ?_ | refine u_d ?_ | refine u_b ?_ | refine u_x ?_ | refine u_r ?_ | refine u_s ?_ | refine w_r (q_build tyOk rfl rfl rfl rfl rfl rfl rfl rfl) (h := ?_) | refine y_r (q_build tyOk rfl rfl rfl rfl rfl rfl rfl rfl) (h := ?_))
  (first | refine c_q (specSer_c s hs) (h := ?_) | refine z_q (specSer_c s hs) (h := ?_))
  repeat (first | refine w_q ?_ | refine w_s ?_ | refine w_t ?_ | refine w_k ?_ | refine y_q ?_ | refine y_s ?_ | refine y_t ?_ | refine y_k ?_ | refine u_n ?_ | refine u_q ?_ | refine u_g ?_ | refine u_d ?_ | refine u_b ?_ | refine u_x ?_ | refine u_r ?_ | refine u_s ?_ | refine w_r (q_build tyOk rfl rfl rfl rfl rfl rfl rfl rfl) (h := ?_) | refine y_r (q_build tyOk rfl rfl rfl rfl rfl rfl rfl rfl) (h := ?_))
  refine awp_if rfl (fun h2 => ?_) (fun h2 => ?_)
  · simp only [Bool.not_eq_true'] at h2
    repeat (first | refine w_q ?_ | refine w_s ?_ | refine w_t ?_ | refine w_k ?_ | refine y_q ?_ | refine y_s ?_ | refine y_t ?_ | refine y_k ?_ | refine u_n ?_ | refine u_q ?_ | refine u_g ?_ | refine u_d ?_ | refine u_b ?_ | refine u_x ?_ | refine u_r ?_ | refine u_s ?_ | refine w_r (q_build tyOk rfl rfl rfl rfl rfl rfl rfl rfl) (h := ?_) | refine y_r (q_build tyOk rfl rfl rfl rfl rfl rfl rfl rfl) (h := ?_))
    rw [bad (fun hc => by rw [h2] at hc; cases hc.2.1)]
    (refine u_1 ?_; (repeat' (first | exact RetRelL.nil | refine RetRel.nil rfl ?_ | refine RetRelL.cons ?_ ?_ | refine rr_tup ?_ | refine rr_agg ?_ | refine rr_own rfl ?_ | exact RetRel.arg | exact RetRel.argc | refine rr_t ?_)); all_goals rfl)
  simp only [Bool.not_eq_false'] at h2
  have hs2 := isSer_len h2
  repeat (first | refine w_q ?_ | refine w_s ?_ | refine w_t ?_ | refine w_k ?_ | refine y_q ?_ | refine y_s ?_ | refine y_t ?_ | refine y_k ?_ | refine u_n ?_ | refine u_q ?_ | refine u_g ?_ | refine u_d ?_ | refine u_b ?_ | refine u_x ?_ | refine u_r ?_ | refine u_s ?_ | refine w_r (q_build tyOk rfl rfl rfl rfl rfl rfl rfl rfl) (h := ?_) | refine y_r (q_build tyOk rfl rfl rfl rfl rfl rfl rfl rfl) (h := ?_))
  (first | (refine c_s (l05Shares_c a b c d s fb h1 (by omega)) (h := ?_)) | (refine z_s (l05Shares_c a b c d s fb h1 (by omega)) (h := ?_)))
  repeat (first | refine w_q ?_ | refine w_s ?_ | refine w_t ?_ | refine w_k ?_ | refine y_q ?_ | refine y_s ?_ | refine y_t ?_ | refine y_k ?_ | refine u_n ?_ | refine u_q ?_ | refine u_g ?_ | refine u_d ?_ | refine u_b ?_ | refine u_x ?_ | refine u_r ?_ | refine u_s ?_ | refine w_r (q_build tyOk rfl rfl rfl rfl rfl rfl rfl rfl) (h := ?_) | refine y_r (q_build tyOk rfl rfl rfl rfl rfl rfl rfl rfl) (h := ?_))
  refine awp_if rfl (fun h3 => ?_) (fun h3 => ?_)
  · simp only [Bool.not_eq_true'] at h3
    repeat (first | refine w_q ?_ | refine w_s ?_ | refine w_t ?_ | refine w_k ?_ | refine y_q ?_ | refine y_s ?_ | refine y_t ?_ | refine y_k ?_ | refine u_n ?_ | refine u_q ?_ | refine u_g ?_ | refine u_d ?_ | refine u_b ?_ | refine u_x ?_ | refine u_r ?_ | refine u_s ?_ | refine w_r (q_build tyOk rfl rfl rfl rfl rfl rfl rfl rfl) (h := ?_) | refine y_r (q_build tyOk rfl rfl rfl rfl rfl rfl rfl rfl) (h := ?_))
    rw [bad (fun hc => by unfold rs0 at h3; rw [if_pos hc.2.2.1, hc.2.2.2.1, hc.2.2.2.2] at h3; cases h3)]
    (refine u_1 ?_; (repeat' (first | exact RetRelL.nil | refine RetRel.nil rfl ?_ | refine RetRelL.cons ?_ ?_ | refine rr_tup ?_ | refine rr_agg ?_ | refine rr_own rfl ?_ | exact RetRel.arg | exact RetRel.argc | refine rr_t ?_)); all_goals rfl)
  simp only [Bool.not_eq_false'] at h3
  have hA : rsA a b c d s = true := by
    cases hA : rsA a b c d s with
    | true => rfl
    | false => unfold rs0 at h3; rw [hA] at h3; cases h3
  have h3' : (rsO a b c d s s.length).all fin = true ∧ fin (rsT a b c d s s.length) = true := by unfold rs0 at h3; rw [if_pos hA] at h3; simpa only [Bool.and_eq_true] using h3
  have hR : rs0 a b c d s = rsF a b c d s := by rw [rsF_yes h1 h2 hA h3'.1 h3'.2]; unfold rs0; rw [if_pos hA, h3'.1, h3'.2]; rfl
  have hT : (rsF a b c d s).2.2 = true := by rw [rsF_yes h1 h2 hA h3'.1 h3'.2]
  rw [hR]
  repeat (first | refine w_q ?_ | refine w_s ?_ | refine w_t ?_ | refine w_k ?_ | refine y_q ?_ | refine y_s ?_ | refine y_t ?_ | refine y_k ?_ | refine u_n ?_ | refine u_q ?_ | refine u_g ?_ | refine u_d ?_ | refine u_b ?_ | refine u_x ?_ | refine u_r ?_ | refine u_s ?_ | refine w_r (q_build tyOk rfl rfl rfl rfl rfl rfl rfl rfl) (h := ?_) | refine y_r (q_build tyOk rfl rfl rfl rfl rfl rfl rfl rfl) (h := ?_))
  refine ret_ok tyOk (by first | exact .inr rfl | exact .inl rfl) (pi1 (cid 19 0)) rfl (by repeat (first | exact .nil | (apply ResAl.cons; first | exact .tmp | exact .cell rfl rfl rfl rfl rfl rfl | exact .cell1 rfl rfl rfl rfl rfl))) ?_ ⟨rfl, trivial⟩ (injO_1 _ _ _)
  repeat' (first | exact RetRelL.nil | refine RetRel.nil rfl ?_ | refine RetRelL.cons ?_ ?_ | refine rr_tup ?_ | refine rr_agg ?_ | refine rr_own rfl ?_ | exact RetRel.arg | exact RetRel.argc | refine rr_t ?_)
  all_goals first | rfl | (rw [hT])
end Go.Proofs.Ytpdnjcblkjjegaa

