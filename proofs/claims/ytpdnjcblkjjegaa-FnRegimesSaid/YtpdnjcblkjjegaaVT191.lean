import Derived.Test.YtpdnjcblkjjegaaVT190n
import Derived.Test.YtpdnjcblkjjegaaVT91
set_option linter.unusedVariables false
set_option linter.unusedSimpArgs false
set_option maxRecDepth 100000
set_option maxHeartbeats 16000000
namespace Go.Proofs.Ytpdnjcblkjjegaa
open Go.Aw
attribute [local irreducible] QRun LexD AWp TCall TMut fop fint fcmp fconv exN wgt

/-! ### the likeliest way, the reference's -/
theorem fE0' {a b : Nat} (h : a = b) : AV.t (.f .f32 a) = AV.t (.f .f32 b) := by rw [h]
theorem iE0' {a b : Int} (h : a = b) : AV.t (.v (.int .i64 a)) = AV.t (.v (.int .i64 b)) := by rw [h]
theorem specWay_c (a b c d s : List Nat) (fb : ∀ x ∈ b, F32 x) (h : a.length ≤ 9223372036854775807 ∧ b.length ≤ 9223372036854775807 ∧ c.length ≤ 9223372036854775807 ∧ d.length ≤ 9223372036854775807) (h_s : s.length ≤ 9223372036854775807)
    (hok : valR4 a b c d = true → isSer s = true → WyOk a b c d s) :
    TCall Try.prog 11 [R4 a b c d, .fl s] (wayRR (wayF a b c d s)) (wayHH (wayF a b c d s)) := by
  have hfm := famOk_no
  have bad := @wayF_not a b c d s
  refine tcall_of Try.func11 rfl (by kernel_rfl) (Nat.le_of_ble_eq_true rfl) rfl ?_
  simp only [argsL, argAV, argCs, argS]
  repeat (first | refine w_q ?_ | refine w_s ?_ | refine w_t ?_ | refine w_k ?_ | refine y_q ?_ | refine y_s ?_ | refine y_t ?_ | refine y_k ?_ | refine u_n ?_ | refine u_q ?_ | refine u_g ?_ | refine u_d ?_ | refine u_b ?_ | refine u_x ?_ | refine u_r ?_ | refine u_s ?_ | refine w_r (q_build tyOk rfl rfl rfl rfl rfl rfl rfl rfl) (h := ?_) | refine y_r (q_build tyOk rfl rfl rfl rfl rfl rfl rfl rfl) (h := ?_))
  (first | refine c_q (l05Regimes_c a b c d h) (h := ?_) | refine z_q (l05Regimes_c a b c d h) (h := ?_))
  repeat (first | refine w_q ?_ | refine w_s ?_ | refine w_t ?_ | refine w_k ?_ | refine y_q ?_ | refine y_s ?_ | refine y_t ?_ | refine y_k ?_ | refine u_n ?_ | refine u_q ?_ | refine u_g ?_ | refine u_d ?_ | refine u_b ?_ | refine u_x ?_ | refine u_r ?_ | refine u_s ?_ | refine w_r (q_build tyOk rfl rfl rfl rfl rfl rfl rfl rfl) (h := ?_) | refine y_r (q_build tyOk rfl rfl rfl rfl rfl rfl rfl rfl) (h := ?_))
  refine lex_if rfl rfl rfl (fun h0 => ?_) (fun h0 => ?_)
  · simp only [Bool.not_eq_true'] at h0
    repeat (first | refine w_q ?_ | refine w_s ?_ | refine w_t ?_ | refine w_k ?_ | refine y_q ?_ | refine y_s ?_ | refine y_t ?_ | refine y_k ?_ | refine u_n ?_ | refine u_q ?_ | refine u_g ?_ | refine u_d ?_ | refine u_b ?_ | refine u_x ?_ | refine u_r ?_ | refine u_s ?_ | refine w_r (q_build tyOk rfl rfl rfl rfl rfl rfl rfl rfl) (h := ?_) | refine y_r (q_build tyOk rfl rfl rfl rfl rfl rfl rfl rfl) (h := ?_))
    refine awp_ifT rfl rfl ?_
    repeat (first | refine w_q ?_ | refine w_s ?_ | refine w_t ?_ | refine w_k ?_ | refine y_q ?_ | refine y_s ?_ | refine y_t ?_ | refine y_k ?_ | refine u_n ?_ | refine u_q ?_ | refine u_g ?_ | refine u_d ?_ | refine u_b ?_ | refine u_x ?_ | refine u_r ?_ | refine u_s ?_ | refine w_r (q_build tyOk rfl rfl rfl rfl rfl rfl rfl rfl) (h := ?_) | refine y_r (q_build tyOk rfl rfl rfl rfl rfl rfl rfl rfl) (h := ?_))
    rw [bad (fun hc => by rw [h0] at hc; cases hc.1)]
    (refine u_1 ?_; (repeat' (first | exact RetRelL.nil | refine RetRel.nil rfl ?_ | refine RetRelL.cons ?_ ?_ | refine rr_tup ?_ | refine rr_agg ?_ | refine rr_own rfl ?_ | exact RetRel.arg | exact RetRel.argc | refine rr_t ?_)); all_goals rfl)
  simp only [Bool.not_eq_false'] at h0
  repeat (first | refine w_q ?_ | refine w_s ?_ | refine w_t ?_ | refine w_k ?_ | refine y_q ?_ | refine y_s ?_ | refine y_t ?_ | refine y_k ?_ | refine u_n ?_ | refine u_q ?_ | refine u_g ?_ | refine u_d ?_ | refine u_b ?_ | refine u_x ?_ | refine u_r ?_ | refine u_s ?_ | refine w_r (q_build tyOk rfl rfl rfl rfl rfl rfl rfl rfl) (h := ?_) | refine y_r (q_build tyOk rfl rfl rfl rfl rfl rfl rfl rfl) (h := ?_))
  (first | refine c_q (specSer_c s h_s) (h := ?_) | refine z_q (specSer_c s h_s) (h := ?_))
  repeat (first | refine w_q ?_ | refine w_s ?_ | refine w_t ?_ | refine w_k ?_ | refine y_q ?_ | refine y_s ?_ | refine y_t ?_ | refine y_k ?_ | refine u_n ?_ | refine u_q ?_ | refine u_g ?_ | refine u_d ?_ | refine u_b ?_ | refine u_x ?_ | refine u_r ?_ | refine u_s ?_ | refine w_r (q_build tyOk rfl rfl rfl rfl rfl rfl rfl rfl) (h := ?_) | refine y_r (q_build tyOk rfl rfl rfl rfl rfl rfl rfl rfl) (h := ?_))
  refine awp_if rfl (fun h1 => ?_) (fun h1 => ?_)
  · simp only [Bool.not_eq_true'] at h1
    repeat (first | refine w_q ?_ | refine w_s ?_ | refine w_t ?_ | refine w_k ?_ | refine y_q ?_ | refine y_s ?_ | refine y_t ?_ | refine y_k ?_ | refine u_n ?_ | refine u_q ?_ | refine u_g ?_ | refine u_d ?_ | refine u_b ?_ | refine u_x ?_ | refine u_r ?_ | refine u_s ?_ | refine w_r (q_build tyOk rfl rfl rfl rfl rfl rfl rfl rfl) (h := ?_) | refine y_r (q_build tyOk rfl rfl rfl rfl rfl rfl rfl rfl) (h := ?_))
    rw [bad (fun hc => by rw [h1] at hc; cases hc.2.1)]
    (refine u_1 ?_; (repeat' (first | exact RetRelL.nil | refine RetRel.nil rfl ?_ | refine RetRelL.cons ?_ ?_ | refine rr_tup ?_ | refine rr_agg ?_ | refine rr_own rfl ?_ | exact RetRel.arg | exact RetRel.argc | refine rr_t ?_)); all_goals rfl)
  simp only [Bool.not_eq_false'] at h1
  obtain ⟨hn1, hn3, hb0, hc0, hd0, haf, hab, hcc, hrr⟩ := valR4_of h0
  have hs := isSer_len h1
  have hW := hok h0 h1
  have h9 : a.length * a.length ≤ 9 := Nat.mul_le_mul hn3 hn3
  repeat (first | refine w_q ?_ | refine w_s ?_ | refine w_t ?_ | refine w_k ?_ | refine y_q ?_ | refine y_s ?_ | refine y_t ?_ | refine y_k ?_ | refine u_n ?_ | refine u_q ?_ | refine u_g ?_ | refine u_d ?_ | refine u_b ?_ | refine u_x ?_ | refine u_r ?_ | refine u_s ?_ | refine w_r (q_build tyOk rfl rfl rfl rfl rfl rfl rfl rfl) (h := ?_) | refine y_r (q_build tyOk rfl rfl rfl rfl rfl rfl rfl rfl) (h := ?_))
  -- LOOP
  refine awp_loopN (X := Nat) (fun t => t ≤ s.length ∧ ∀ j, j < t → wyO a b c d s j = true) (fun t => [(1, .arg 1 (.fl s)), (2, .bp 2 0), (6, .t (.v (.int .i64 a.length))), (7, .own 34 0 (wyPl a.length t)), (8, .own 35 0 t), (36, .arg 1 (.fl s)), (37, .t (.v (.int .i64 s.length))), (38, .t (.v (.int .i64 (t : Nat))))]) (fun t => ovH (lkH [(2, .box 26 [.argc 0 0 (.fl a), .argc 0 1 (.fl b), .argc 0 2 (.fl c), .argc 0 3 (.fl d)]), (34, .sl 30 (.fl (wyP a b c d s t))), (35, .nest 65 (NI (wyRow0 a b c d s t)) [] noRem)]) noFam) (fun t => s.length - t)
    0 (famN_0 (H := fun t => [(2, .box 26 [.argc 0 0 (.fl a), .argc 0 1 (.fl b), .argc 0 2 (.fl c), .argc 0 3 (.fl d)]), (34, .sl 30 (.fl (wyP a b c d s t))), (35, .nest 65 (NI (wyRow0 a b c d s t)) [] noRem)]) 0 ⟨by omega, fun j hj => by omega⟩ ⟨rfl, rfl, rfl, rfl, rfl, rfl, rfl, rfl, trivial⟩ ⟨rfl, .inl rfl, NI_nil rfl rfl, trivial⟩) (fun t ht => ?_)
  obtain ⟨ht, hO⟩ := ht
  repeat (first | refine kx_q ?_ | refine kxd_q ?_ | refine kw_s ?_ | refine kw_t ?_ | refine kw_k ?_ | refine ky_s ?_ | refine ky_t ?_ | refine ky_k ?_ | refine u_n ?_ | refine u_q ?_ | refine u_g ?_ | refine u_d ?_ | refine u_b ?_ | refine u_x ?_ | refine u_r ?_ | refine u_s ?_)
  refine awp_cond (b := _) rfl (fun g1 => ?_) (fun g1 => ?_)
  rotate_left
  · simp only [icmp, decide_eq_false_iff_not] at g1
    obtain rfl : t = s.length := by omega
    have e1 : wyPl a.length s.length = a.length := wyPl_n (by omega)
    have e2 : wyP a b c d s s.length = wyB a b c d s (s.length - 1) := wyP_n (by omega)
    have hBl := wyB_len a b c d s (s.length - 1)
    rw [e1, e2]
    repeat (first | refine kx_q ?_ | refine kxd_q ?_ | refine kw_s ?_ | refine kw_t ?_ | refine kw_k ?_ | refine ky_s ?_ | refine ky_t ?_ | refine ky_k ?_ | refine u_n ?_ | refine u_q ?_ | refine u_g ?_ | refine u_d ?_ | refine u_b ?_ | refine u_x ?_ | refine u_r ?_ | refine u_s ?_)
    refine awp_loopN (X := Nat) (fun k => k ≤ a.length) (fun k => [(1, .arg 1 (.fl s)), (7, .own 34 0 a.length), (8, .own 35 0 s.length), (20, .t (.v (.int .i64 (fsI (wyB a b c d s (s.length - 1)) k : Nat)))), (133, .own 34 0 a.length), (134, .t (.v (.int .i64 a.length))), (135, .t (.v (.int .i64 (k : Nat))))]) (fun k => ovH (lkH [(34, .sl 30 (.fl (wyB a b c d s (s.length - 1)))), (35, .nest 65 (NI (wyRow0 a b c d s s.length)) [] noRem)]) noFam) (fun k => a.length - k)
      0 (famN_0 (H := fun k => [(34, .sl 30 (.fl (wyB a b c d s (s.length - 1)))), (35, .nest 65 (NI (wyRow0 a b c d s s.length)) [] noRem)]) 0 (by omega) ⟨rfl, rfl, rfl, rfl, rfl, rfl, rfl, trivial⟩ ⟨.inl rfl, NI_sameP rfl, trivial⟩) (fun k hk => ?_)
    have hfl := fsI_le (wyB a b c d s (s.length - 1)) k
    repeat (first | refine kx_q ?_ | refine kxd_q ?_ | refine kw_s ?_ | refine kw_t ?_ | refine kw_k ?_ | refine ky_s ?_ | refine ky_t ?_ | refine ky_k ?_ | refine u_n ?_ | refine u_q ?_ | refine u_g ?_ | refine u_d ?_ | refine u_b ?_ | refine u_x ?_ | refine u_r ?_ | refine u_s ?_)
    refine awp_cond (b := _) rfl (fun g2 => ?_) (fun g2 => ?_)
    · simp only [icmp, decide_eq_true_eq] at g2
      have hkn : k < a.length := by omega
      repeat (first | refine kx_q ?_ | refine kxd_q ?_ | refine kw_s ?_ | refine kw_t ?_ | refine kw_k ?_ | refine ky_s ?_ | refine ky_t ?_ | refine ky_k ?_ | refine u_n ?_ | refine u_q ?_ | refine u_g ?_ | refine u_d ?_ | refine u_b ?_ | refine u_x ?_ | refine u_r ?_ | refine u_s ?_)
      try (first | (refine kw_r (q_idx_own (k) tyOk rfl rfl rfl rfl rfl rfl rfl (by omega) (by first | omega | (simp only [T.len]; omega) | assumption)) (h := ?_)) | (refine ky_r (q_idx_own (k) tyOk rfl rfl rfl rfl rfl rfl rfl (by omega) (by first | omega | (simp only [T.len]; omega) | assumption)) (h := ?_)))
      repeat (first | refine kx_q ?_ | refine kxd_q ?_ | refine kw_s ?_ | refine kw_t ?_ | refine kw_k ?_ | refine ky_s ?_ | refine ky_t ?_ | refine ky_k ?_ | refine u_n ?_ | refine u_q ?_ | refine u_g ?_ | refine u_d ?_ | refine u_b ?_ | refine u_x ?_ | refine u_r ?_ | refine u_s ?_)
      try (first | (refine kw_r (q_idx_own (fsI (wyB a b c d s (s.length - 1)) k) tyOk rfl rfl rfl rfl rfl rfl rfl (by omega) (by first | omega | (simp only [T.len]; omega) | assumption)) (h := ?_)) | (refine ky_r (q_idx_own (fsI (wyB a b c d s (s.length - 1)) k) tyOk rfl rfl rfl rfl rfl rfl rfl (by omega) (by first | omega | (simp only [T.len]; omega) | assumption)) (h := ?_)))
      repeat (first | refine kx_q ?_ | refine kxd_q ?_ | refine kw_s ?_ | refine kw_t ?_ | refine kw_k ?_ | refine ky_s ?_ | refine ky_t ?_ | refine ky_k ?_ | refine u_n ?_ | refine u_q ?_ | refine u_g ?_ | refine u_d ?_ | refine u_b ?_ | refine u_x ?_ | refine u_r ?_ | refine u_s ?_)
      rw [Nat.zero_add, Nat.zero_add]
      refine awp_cond (b := _) rfl (fun g3 => ?_) (fun g3 => ?_)
      · repeat (first | refine kx_q ?_ | refine kxd_q ?_ | refine kw_s ?_ | refine kw_t ?_ | refine kw_k ?_ | refine ky_s ?_ | refine ky_t ?_ | refine ky_k ?_ | refine u_n ?_ | refine u_q ?_ | refine u_g ?_ | refine u_d ?_ | refine u_b ?_ | refine u_x ?_ | refine u_r ?_ | refine u_s ?_)
        exact ⟨k + 1, by omega, famN_0 (H := fun k => [(34, .sl 30 (.fl (wyB a b c d s (s.length - 1)))), (35, .nest 65 (NI (wyRow0 a b c d s s.length)) [] noRem)]) (k + 1) (by omega) ⟨rfl, rfl, rfl, iE0' (by rw [fsI_t g3]), rfl, rfl, iE0' (by omega), trivial⟩ ⟨.inl rfl, NI_sameP rfl, trivial⟩⟩
      · refine u_s ?_
        repeat (first | refine kx_q ?_ | refine kxd_q ?_ | refine kw_s ?_ | refine kw_t ?_ | refine kw_k ?_ | refine ky_s ?_ | refine ky_t ?_ | refine ky_k ?_ | refine u_n ?_ | refine u_q ?_ | refine u_g ?_ | refine u_d ?_ | refine u_b ?_ | refine u_x ?_ | refine u_r ?_ | refine u_s ?_)
        exact ⟨k + 1, by omega, famN_0 (H := fun k => [(34, .sl 30 (.fl (wyB a b c d s (s.length - 1)))), (35, .nest 65 (NI (wyRow0 a b c d s s.length)) [] noRem)]) (k + 1) (by omega) ⟨rfl, rfl, rfl, iE0' (by rw [fsI_f g3]), rfl, rfl, iE0' (by omega), trivial⟩ ⟨.inl rfl, NI_sameP rfl, trivial⟩⟩
    simp only [icmp, decide_eq_false_iff_not] at g2
    obtain rfl : k = a.length := by omega
    rw [← wyAt_0 (by omega)]
    repeat (first | refine kx_q ?_ | refine kxd_q ?_ | refine kw_s ?_ | refine kw_t ?_ | refine kw_k ?_ | refine ky_s ?_ | refine ky_t ?_ | refine ky_k ?_ | refine u_n ?_ | refine u_q ?_ | refine u_g ?_ | refine u_d ?_ | refine u_b ?_ | refine u_x ?_ | refine u_r ?_ | refine u_s ?_)
    (refine kw_rs (q_make s.length tyOk rfl rfl rfl rfl rfl rfl rfl rfl rfl rfl rfl (by simp only []; omega) (by omega)) (h := ?_))
    repeat (first | refine kx_q ?_ | refine kxd_q ?_ | refine kw_s ?_ | refine kw_t ?_ | refine kw_k ?_ | refine ky_s ?_ | refine ky_t ?_ | refine ky_k ?_ | refine u_n ?_ | refine u_q ?_ | refine u_g ?_ | refine u_d ?_ | refine u_b ?_ | refine u_x ?_ | refine u_r ?_ | refine u_s ?_)
    rw [wyOut_0 a b c d s]
    refine awp_loopN (X := Nat) (fun j => j ≤ s.length) (fun j => [(8, .own 35 0 s.length), (20, .t (.v (.int .i64 (wyAt a b c d s j : Nat)))), (22, .own 151 0 s.length), (23, .t (.v (.int .i64 ((s.length : Int) - 1 - (j : Int)))))]) (fun j => ovH (lkH [(35, .nest 65 (NI (wyRow0 a b c d s s.length)) [] noRem), (151, .sl 2 (.il (wyOut a b c d s j)))]) noFam) (fun j => s.length - j)
      0 (famN_0 (H := fun j => [(35, .nest 65 (NI (wyRow0 a b c d s s.length)) [] noRem), (151, .sl 2 (.il (wyOut a b c d s j)))]) 0 (by omega) ⟨rfl, rfl, rfl, iE0' (by omega), trivial⟩ ⟨NI_sameP rfl, .inl rfl, trivial⟩) (fun j hj => ?_)
    have hol := wyOut_len a b c d s j
    have hal := wyAt_lt a b c d s hn1 j
    repeat (first | refine kx_q ?_ | refine kxd_q ?_ | refine kw_s ?_ | refine kw_t ?_ | refine kw_k ?_ | refine ky_s ?_ | refine ky_t ?_ | refine ky_k ?_ | refine u_n ?_ | refine u_q ?_ | refine u_g ?_ | refine u_d ?_ | refine u_b ?_ | refine u_x ?_ | refine u_r ?_ | refine u_s ?_)
    refine awp_cond (b := _) rfl (fun g3 => ?_) (fun g3 => ?_)
    · simp only [icmp, decide_eq_true_eq] at g3
      have hjn : j < s.length := by omega
      have hrow := wyF0_len a b c d s (s.length - 1 - j)
      have hn0 : (NI (wyRow0 a b c d s s.length)).length = s.length := by rw [NI_len, wyRow0_len]
      repeat (first | refine kx_q ?_ | refine kxd_q ?_ | refine kw_s ?_ | refine kw_t ?_ | refine kw_k ?_ | refine ky_s ?_ | refine ky_t ?_ | refine ky_k ?_ | refine u_n ?_ | refine u_q ?_ | refine u_g ?_ | refine u_d ?_ | refine u_b ?_ | refine u_x ?_ | refine u_r ?_ | refine u_s ?_)
      (first | (refine kw_r (q_idx_own (s.length - 1 - j) tyOk rfl rfl rfl rfl rfl rfl rfl (by omega) (by first | omega | (simp only [T.len]; omega) | assumption)) (h := ?_)) | (refine ky_r (q_idx_own (s.length - 1 - j) tyOk rfl rfl rfl rfl rfl rfl rfl (by omega) (by first | omega | (simp only [T.len]; omega) | assumption)) (h := ?_)))
      repeat (first | refine kx_q ?_ | refine kxd_q ?_ | refine kw_s ?_ | refine kw_t ?_ | refine kw_k ?_ | refine ky_s ?_ | refine ky_t ?_ | refine ky_k ?_ | refine u_n ?_ | refine u_q ?_ | refine u_g ?_ | refine u_d ?_ | refine u_b ?_ | refine u_x ?_ | refine u_r ?_ | refine u_s ?_)
      (first | (refine kw_r (q_idx_own (s.length - 1 - j) tyOk rfl rfl rfl rfl rfl rfl rfl (by omega) (by first | omega | (simp only [T.len]; omega) | assumption)) (h := ?_)) | (refine ky_r (q_idx_own (s.length - 1 - j) tyOk rfl rfl rfl rfl rfl rfl rfl (by omega) (by first | omega | (simp only [T.len]; omega) | assumption)) (h := ?_)))
      repeat (first | refine kx_q ?_ | refine kxd_q ?_ | refine kw_s ?_ | refine kw_t ?_ | refine kw_k ?_ | refine ky_s ?_ | refine ky_t ?_ | refine ky_k ?_ | refine u_n ?_ | refine u_q ?_ | refine u_g ?_ | refine u_d ?_ | refine u_b ?_ | refine u_x ?_ | refine u_r ?_ | refine u_s ?_)
      (first | (refine kw_r (q_load_nest (off := 0 + (s.length - 1 - j)) (by rw [Nat.zero_add]; exact NI_get (wyRow0_get (by omega))) (NI_good _) tyOk rfl rfl rfl rfl rfl rfl rfl) (h := ?_)) | (refine ky_r (q_load_nest (off := 0 + (s.length - 1 - j)) (by rw [Nat.zero_add]; exact NI_get (wyRow0_get (by omega))) (NI_good _) tyOk rfl rfl rfl rfl rfl rfl rfl) (h := ?_)))
      repeat (first | refine kx_q ?_ | refine kxd_q ?_ | refine kw_s ?_ | refine kw_t ?_ | refine kw_k ?_ | refine ky_s ?_ | refine ky_t ?_ | refine ky_k ?_ | refine u_n ?_ | refine u_q ?_ | refine u_g ?_ | refine u_d ?_ | refine u_b ?_ | refine u_x ?_ | refine u_r ?_ | refine u_s ?_)
      try (first | (refine kw_r (q_idx_tree (wyAt a b c d s j) tyOk rfl rfl rfl rfl rfl rfl rfl rfl (by omega) (by first | omega | (simp only [T.len]; omega) | assumption)) (h := ?_)) | (refine ky_r (q_idx_tree (wyAt a b c d s j) tyOk rfl rfl rfl rfl rfl rfl rfl rfl (by omega) (by first | omega | (simp only [T.len]; omega) | assumption)) (h := ?_)))
      repeat (first | refine kx_q ?_ | refine kxd_q ?_ | refine kw_s ?_ | refine kw_t ?_ | refine kw_k ?_ | refine ky_s ?_ | refine ky_t ?_ | refine ky_k ?_ | refine u_n ?_ | refine u_q ?_ | refine u_g ?_ | refine u_d ?_ | refine u_b ?_ | refine u_x ?_ | refine u_r ?_ | refine u_s ?_)
      exact ⟨j + 1, by omega, famN_0 (H := fun j => [(35, .nest 65 (NI (wyRow0 a b c d s s.length)) [] noRem), (151, .sl 2 (.il (wyOut a b c d s j)))]) (j + 1) (by omega) ⟨rfl, iE0' (by rw [wyAt_next hn1 hjn]), rfl, iE0' (by omega), trivial⟩ ⟨NI_sameP rfl, .inl (sl_eq (congrArg T.il (by rw [Nat.zero_add, wyOut_set hjn]))), trivial⟩⟩
    simp only [icmp, decide_eq_false_iff_not] at g3
    obtain rfl : j = s.length := by omega
    rw [wyOut_n]
    repeat (first | refine kx_q ?_ | refine kxd_q ?_ | refine kw_s ?_ | refine kw_t ?_ | refine kw_k ?_ | refine ky_s ?_ | refine ky_t ?_ | refine ky_k ?_ | refine u_n ?_ | refine u_q ?_ | refine u_g ?_ | refine u_d ?_ | refine u_b ?_ | refine u_x ?_ | refine u_r ?_ | refine u_s ?_)
    rw [wayF_yes h0 h1 hO]
    refine ret_ok tyOk (by first | exact .inr rfl | exact .inl rfl) (pi1 151) rfl (by repeat (first | exact .nil | (apply ResAl.cons; first | exact .tmp | exact .cell rfl rfl rfl rfl rfl rfl | exact .cell1 rfl rfl rfl rfl rfl))) ?_ ⟨rfl, trivial⟩ (injO_1 _ _ _)
    repeat' (first | exact RetRelL.nil | refine RetRel.nil rfl ?_ | refine RetRelL.cons ?_ ?_ | refine rr_tup ?_ | refine rr_agg ?_ | refine rr_own rfl ?_ | exact RetRel.arg | exact RetRel.argc | refine rr_t ?_)
    all_goals first | rfl | exact (wyR_len a b c d s).symm
  simp only [icmp, decide_eq_true_eq] at g1
  replace g1 : t < s.length := by omega
  rcases t with _ | t
  · simp only [wyPl]
    repeat (first | refine kx_q ?_ | refine kxd_q ?_ | refine kw_s ?_ | refine kw_t ?_ | refine kw_k ?_ | refine ky_s ?_ | refine ky_t ?_ | refine ky_k ?_ | refine u_n ?_ | refine u_q ?_ | refine u_g ?_ | refine u_d ?_ | refine u_b ?_ | refine u_x ?_ | refine u_r ?_ | refine u_s ?_)
    refine awp_loopN (X := Nat) (fun k => k ≤ a.length) (fun k => [(1, .arg 1 (.fl s)), (2, .bp 2 0), (6, .t (.v (.int .i64 a.length))), (7, .own 34 0 0), (8, .own 35 0 0), (9, .t (.v (.int .i64 (0 : Nat)))), (10, .own 41 0 k), (11, .own 42 0 k), (12, .t (.f .f32 (mxF (wyT a b c d s 0) k))), (13, .t (.v (.int .i64 (k : Nat)))), (36, .arg 1 (.fl s)), (37, .t (.v (.int .i64 s.length))), (38, .t (.v (.int .i64 (0 : Nat))))]) (fun k => ovH (lkH [(2, .box 26 [.argc 0 0 (.fl a), .argc 0 1 (.fl b), .argc 0 2 (.fl c), .argc 0 3 (.fl d)]), (34, .sl 30 (.fl [])), (35, .nest 65 (NI (wyRow0 a b c d s 0)) [] noRem), (41, .sl 30 (.fl ((wyT a b c d s 0).take k))), (42, .sl 3 (.il ((wyF0 a b c d s 0).take k)))]) noFam) (fun k => a.length - k)
      0 (famN_0 (H := fun k => [(2, .box 26 [.argc 0 0 (.fl a), .argc 0 1 (.fl b), .argc 0 2 (.fl c), .argc 0 3 (.fl d)]), (34, .sl 30 (.fl [])), (35, .nest 65 (NI (wyRow0 a b c d s 0)) [] noRem), (41, .sl 30 (.fl ((wyT a b c d s 0).take k))), (42, .sl 3 (.il ((wyF0 a b c d s 0).take k)))]) 0 (by omega) ⟨rfl, rfl, rfl, rfl, rfl, rfl, rfl, rfl, rfl, rfl, rfl, rfl, rfl, trivial⟩ ⟨rfl, .inl rfl, NI_sameP rfl, .inl rfl, .inl rfl, trivial⟩) (fun k hk => ?_)
    have hz2 : ((wyT a b c d s 0).take k).length = k := by simp [wyT_len]; omega
    have hz3 : ((wyF0 a b c d s 0).take k).length = k := by simp [wyF0_len]; omega
    repeat (first | refine kx_q ?_ | refine kxd_q ?_ | refine kw_s ?_ | refine kw_t ?_ | refine kw_k ?_ | refine ky_s ?_ | refine ky_t ?_ | refine ky_k ?_ | refine u_n ?_ | refine u_q ?_ | refine u_g ?_ | refine u_d ?_ | refine u_b ?_ | refine u_x ?_ | refine u_r ?_ | refine u_s ?_)
    refine awp_cond (b := _) rfl (fun g2 => ?_) (fun g2 => ?_)
    rotate_left
    · simp only [icmp, decide_eq_false_iff_not] at g2
      obtain rfl : k = a.length := by omega
      rw [List.take_of_length_le (by rw [wyT_len]; omega), List.take_of_length_le (by rw [wyF0_len]; omega), wyG_mx hW g1 hO hn1]
      -- AFTER 0
      repeat (first | refine kx_q ?_ | refine kxd_q ?_ | refine kw_s ?_ | refine kw_t ?_ | refine kw_k ?_ | refine ky_s ?_ | refine ky_t ?_ | refine ky_k ?_ | refine u_n ?_ | refine u_q ?_ | refine u_g ?_ | refine u_d ?_ | refine u_b ?_ | refine u_x ?_ | refine u_r ?_ | refine u_s ?_)
      (first | refine kc_q (above_c _) (h := ?_) | refine kz_q (above_c _) (h := ?_))
      repeat (first | refine kx_q ?_ | refine kxd_q ?_ | refine kw_s ?_ | refine kw_t ?_ | refine kw_k ?_ | refine ky_s ?_ | refine ky_t ?_ | refine ky_k ?_ | refine u_n ?_ | refine u_q ?_ | refine u_g ?_ | refine u_d ?_ | refine u_b ?_ | refine u_x ?_ | refine u_r ?_ | refine u_s ?_)
      rw [wyO_above hW g1 hO hn1]
      repeat (first | refine kx_q ?_ | refine kxd_q ?_ | refine kw_s ?_ | refine kw_t ?_ | refine kw_k ?_ | refine ky_s ?_ | refine ky_t ?_ | refine ky_k ?_ | refine u_n ?_ | refine u_q ?_ | refine u_g ?_ | refine u_d ?_ | refine u_b ?_ | refine u_x ?_ | refine u_r ?_ | refine u_s ?_)
      refine awp_cond (b := _) rfl (fun g3 => ?_) (fun g3 => ?_)
      · simp only [Bool.not_eq_true'] at g3
        repeat (first | refine kx_q ?_ | refine kxd_q ?_ | refine kw_s ?_ | refine kw_t ?_ | refine kw_k ?_ | refine ky_s ?_ | refine ky_t ?_ | refine ky_k ?_ | refine u_n ?_ | refine u_q ?_ | refine u_g ?_ | refine u_d ?_ | refine u_b ?_ | refine u_x ?_ | refine u_r ?_ | refine u_s ?_)
        rw [bad (fun hc => by have := hc.2.2 0 g1; rw [g3] at this; cases this)]
        (refine u_1 ?_; (repeat' (first | exact RetRelL.nil | refine RetRel.nil rfl ?_ | refine RetRelL.cons ?_ ?_ | refine rr_tup ?_ | refine rr_agg ?_ | refine rr_own rfl ?_ | exact RetRel.arg | exact RetRel.argc | refine rr_t ?_)); all_goals rfl)
      simp only [Bool.not_eq_false'] at g3
      refine u_s ?_
      repeat (first | refine kx_q ?_ | refine kxd_q ?_ | refine kw_s ?_ | refine kw_t ?_ | refine kw_k ?_ | refine ky_s ?_ | refine ky_t ?_ | refine ky_k ?_ | refine u_n ?_ | refine u_q ?_ | refine u_g ?_ | refine u_d ?_ | refine u_b ?_ | refine u_x ?_ | refine u_r ?_ | refine u_s ?_)
      refine awp_loopN (X := Unit) (fun _ => True) (fun _ => [(1, .arg 1 (.fl s)), (2, .bp 2 0), (6, .t (.v (.int .i64 a.length))), (7, .own 34 0 0), (8, .own 35 0 0), (9, .t (.v (.int .i64 (0 : Nat)))), (10, .own 41 0 a.length), (11, .own 42 0 a.length), (12, .t (.f .f32 (wyG (wyT a b c d s 0)))), (19, .t (.v (.int .i64 0))), (36, .arg 1 (.fl s)), (37, .t (.v (.int .i64 s.length))), (38, .t (.v (.int .i64 (0 : Nat))))]) (fun _ => ovH (lkH [(2, .box 26 [.argc 0 0 (.fl a), .argc 0 1 (.fl b), .argc 0 2 (.fl c), .argc 0 3 (.fl d)]), (34, .sl 30 (.fl [])), (35, .nest 65 (NI (wyRow0 a b c d s 0)) [] noRem), (41, .sl 30 (.fl (wyT a b c d s 0))), (42, .sl 3 (.il (wyF0 a b c d s 0)))]) noFam) (fun _ => 0)
        () (famN_0 (H := fun _ => [(2, .box 26 [.argc 0 0 (.fl a), .argc 0 1 (.fl b), .argc 0 2 (.fl c), .argc 0 3 (.fl d)]), (34, .sl 30 (.fl [])), (35, .nest 65 (NI (wyRow0 a b c d s 0)) [] noRem), (41, .sl 30 (.fl (wyT a b c d s 0))), (42, .sl 3 (.il (wyF0 a b c d s 0)))]) () trivial ⟨rfl, rfl, rfl, rfl, rfl, rfl, rfl, rfl, rfl, rfl, rfl, rfl, rfl, trivial⟩ ⟨rfl, .inl rfl, NI_sameP rfl, .inl rfl, .inl rfl, trivial⟩) (fun _ _ => ?_)
      repeat (first | refine kx_q ?_ | refine kxd_q ?_ | refine kw_s ?_ | refine kw_t ?_ | refine kw_k ?_ | refine ky_s ?_ | refine ky_t ?_ | refine ky_k ?_ | refine u_n ?_ | refine u_q ?_ | refine u_g ?_ | refine u_d ?_ | refine u_b ?_ | refine u_x ?_ | refine u_r ?_ | refine u_s ?_)
      refine nlex_if rfl rfl rfl (fun g4 => ?_) (fun g4 => ?_)
      rotate_left
      · simp only [icmp, decide_eq_false_iff_not] at g4; omega
      repeat (first | refine kx_q ?_ | refine kxd_q ?_ | refine kw_s ?_ | refine kw_t ?_ | refine kw_k ?_ | refine ky_s ?_ | refine ky_t ?_ | refine ky_k ?_ | refine u_n ?_ | refine u_q ?_ | refine u_g ?_ | refine u_d ?_ | refine u_b ?_ | refine u_x ?_ | refine u_r ?_ | refine u_s ?_)
      refine awp_cond (b := _) rfl (fun g5 => ?_) (fun g5 => ?_)
      · simp [icmp] at g5
      repeat (first | refine kx_q ?_ | refine kxd_q ?_ | refine kw_s ?_ | refine kw_t ?_ | refine kw_k ?_ | refine ky_s ?_ | refine ky_t ?_ | refine ky_k ?_ | refine u_n ?_ | refine u_q ?_ | refine u_g ?_ | refine u_d ?_ | refine u_b ?_ | refine u_x ?_ | refine u_r ?_ | refine u_s ?_)
      (refine kw_rs (q_bslice_nest (L := [.own 42 0 a.length]) [42] tyOk rfl rfl rfl rfl rfl rfl rfl rfl rfl rfl rfl rfl rfl) (h := ?_))
      repeat (first | refine kx_q ?_ | refine kxd_q ?_ | refine kw_s ?_ | refine kw_t ?_ | refine kw_k ?_ | refine ky_s ?_ | refine ky_t ?_ | refine ky_k ?_ | refine u_n ?_ | refine u_q ?_ | refine u_g ?_ | refine u_d ?_ | refine u_b ?_ | refine u_x ?_ | refine u_r ?_ | refine u_s ?_)
      (refine kw_rs (q_app_nest (m := 1) (NI_good _) (ownI_good _ _) (by rw [NI_len, wyRow0_len]) rfl tyOk rfl rfl rfl rfl rfl rfl rfl rfl rfl rfl rfl rfl rfl rfl rfl (by simp only []; omega) (by omega)) (h := ?_))
      repeat (first | refine kx_q ?_ | refine kxd_q ?_ | refine kw_s ?_ | refine kw_t ?_ | refine kw_k ?_ | refine ky_s ?_ | refine ky_t ?_ | refine ky_k ?_ | refine u_n ?_ | refine u_q ?_ | refine u_g ?_ | refine u_d ?_ | refine u_b ?_ | refine u_x ?_ | refine u_r ?_ | refine u_s ?_)
      exact ⟨(0 + 1), by omega, famN_p (H := fun t => [(2, .box 26 [.argc 0 0 (.fl a), .argc 0 1 (.fl b), .argc 0 2 (.fl c), .argc 0 3 (.fl d)]), (34, .sl 30 (.fl (wyP a b c d s t))), (35, .nest 65 (NI (wyRow0 a b c d s t)) [] noRem)]) (fun i => bif Nat.beq i 34 then 41 else i) (0 + 1) ⟨by omega, fun j hj => (Nat.lt_or_eq_of_le (Nat.le_of_lt_succ hj)).elim (fun h => hO j h) (fun h => by rw [h]; exact g3)⟩
        ⟨rfl, rfl, rfl, rfl, rfl, rfl, rfl, rfl, trivial⟩ ⟨rfl, .inl rfl, by rw [wyRow0_S a b c d s 0]; refine NI_bto (R := wyRow0 a b c d s 0) (r := wyF0 a b c d s 0) (id := 42) (ef := 3) (vis := [42]) (len := a.length) ?_ ?_ ?_ ?_ ?_; (· exact rfl); (· exact rfl); (· exact rfl); (· exact (wyF0_len a b c d s _).symm); (· exact awayN_ok rfl), trivial⟩ rfl⟩
    simp only [icmp, decide_eq_true_eq] at g2
    have hkn : k < a.length := by omega
    repeat (first | refine kx_q ?_ | refine kxd_q ?_ | refine kw_s ?_ | refine kw_t ?_ | refine kw_k ?_ | refine ky_s ?_ | refine ky_t ?_ | refine ky_k ?_ | refine u_n ?_ | refine u_q ?_ | refine u_g ?_ | refine u_d ?_ | refine u_b ?_ | refine u_x ?_ | refine u_r ?_ | refine u_s ?_)
    refine awp_cond (b := _) rfl (fun g3 => ?_) (fun g3 => ?_)
    rotate_left
    · simp [icmp] at g3
    have hget : (wyT a b c d s 0).getD k 0 = fop .mul .f32 (c.getD k 0) (wgt a b (s.getD 0 0) k) := rzL_get hkn
    have hgef : (wyF0 a b c d s 0).getD k 0 = 0 := by simp [wyF0, List.getD_eq_getElem?_getD, hkn]
    repeat (first | refine kx_q ?_ | refine kxd_q ?_ | refine kw_s ?_ | refine kw_t ?_ | refine kw_k ?_ | refine ky_s ?_ | refine ky_t ?_ | refine ky_k ?_ | refine u_n ?_ | refine u_q ?_ | refine u_g ?_ | refine u_d ?_ | refine u_b ?_ | refine u_x ?_ | refine u_r ?_ | refine u_s ?_)
    refine awp_loopN (X := Unit) (fun _ => True) (fun _ => [(1, .arg 1 (.fl s)), (2, .bp 2 0), (6, .t (.v (.int .i64 a.length))), (7, .own 34 0 0), (8, .own 35 0 0), (9, .t (.v (.int .i64 (0 : Nat)))), (10, .own 41 0 k), (11, .own 42 0 k), (12, .t (.f .f32 (mxF (wyT a b c d s 0) k))), (13, .t (.v (.int .i64 (k : Nat)))), (14, .t (.v (.int .i64 0))), (15, .t (.f .f32 (c.getD k 0))), (16, .t (.v (.int .i64 (0 : Nat)))), (36, .arg 1 (.fl s)), (37, .t (.v (.int .i64 s.length))), (38, .t (.v (.int .i64 (0 : Nat))))]) (fun _ => ovH (lkH [(2, .box 26 [.argc 0 0 (.fl a), .argc 0 1 (.fl b), .argc 0 2 (.fl c), .argc 0 3 (.fl d)]), (34, .sl 30 (.fl [])), (35, .nest 65 (NI (wyRow0 a b c d s 0)) [] noRem), (41, .sl 30 (.fl ((wyT a b c d s 0).take k))), (42, .sl 3 (.il ((wyF0 a b c d s 0).take k)))]) noFam) (fun _ => 0)
      () (famN_0 (H := fun _ => [(2, .box 26 [.argc 0 0 (.fl a), .argc 0 1 (.fl b), .argc 0 2 (.fl c), .argc 0 3 (.fl d)]), (34, .sl 30 (.fl [])), (35, .nest 65 (NI (wyRow0 a b c d s 0)) [] noRem), (41, .sl 30 (.fl ((wyT a b c d s 0).take k))), (42, .sl 3 (.il ((wyF0 a b c d s 0).take k)))]) () trivial ⟨rfl, rfl, rfl, rfl, rfl, rfl, rfl, rfl, rfl, rfl, rfl, rfl, rfl, rfl, rfl, rfl, trivial⟩ ⟨rfl, .inl rfl, NI_sameP rfl, .inl rfl, .inl rfl, trivial⟩) (fun _ _ => ?_)
    repeat (first | refine kx_q ?_ | refine kxd_q ?_ | refine kw_s ?_ | refine kw_t ?_ | refine kw_k ?_ | refine ky_s ?_ | refine ky_t ?_ | refine ky_k ?_ | refine u_n ?_ | refine u_q ?_ | refine u_g ?_ | refine u_d ?_ | refine u_b ?_ | refine u_x ?_ | refine u_r ?_ | refine u_s ?_)
    refine nlex_if rfl rfl rfl (fun g4 => ?_) (fun g4 => ?_)
    rotate_left
    · simp only [icmp, decide_eq_false_iff_not] at g4; omega
    repeat (first | refine kx_q ?_ | refine kxd_q ?_ | refine kw_s ?_ | refine kw_t ?_ | refine kw_k ?_ | refine ky_s ?_ | refine ky_t ?_ | refine ky_k ?_ | refine u_n ?_ | refine u_q ?_ | refine u_g ?_ | refine u_d ?_ | refine u_b ?_ | refine u_x ?_ | refine u_r ?_ | refine u_s ?_)
    refine awp_cond (b := _) rfl (fun g5 => ?_) (fun g5 => ?_)
    · simp [icmp] at g5
    repeat (first | refine kx_q ?_ | refine kxd_q ?_ | refine kw_s ?_ | refine kw_t ?_ | refine kw_k ?_ | refine ky_s ?_ | refine ky_t ?_ | refine ky_k ?_ | refine u_n ?_ | refine u_q ?_ | refine u_g ?_ | refine u_d ?_ | refine u_b ?_ | refine u_x ?_ | refine u_r ?_ | refine u_s ?_)
    repeat (first | refine kx_q ?_ | refine kxd_q ?_ | refine kw_s ?_ | refine kw_t ?_ | refine kw_k ?_ | refine ky_s ?_ | refine ky_t ?_ | refine ky_k ?_ | refine u_n ?_ | refine u_q ?_ | refine u_g ?_ | refine u_d ?_ | refine u_b ?_ | refine u_x ?_ | refine u_r ?_ | refine u_s ?_)
    try (first | (refine kw_r (q_idx_tree (0) tyOk rfl rfl rfl rfl rfl rfl rfl rfl (by omega) (by first | omega | (simp only [T.len]; omega) | assumption)) (h := ?_)) | (refine ky_r (q_idx_tree (0) tyOk rfl rfl rfl rfl rfl rfl rfl rfl (by omega) (by first | omega | (simp only [T.len]; omega) | assumption)) (h := ?_)))
    repeat (first | refine kx_q ?_ | refine kxd_q ?_ | refine kw_s ?_ | refine kw_t ?_ | refine kw_k ?_ | refine ky_s ?_ | refine ky_t ?_ | refine ky_k ?_ | refine u_n ?_ | refine u_q ?_ | refine u_g ?_ | refine u_d ?_ | refine u_b ?_ | refine u_x ?_ | refine u_r ?_ | refine u_s ?_)
    (first | (refine kc_q (l05Weight_c a b c d (s.getD 0 0) k fb hab hkn (by omega) (by omega) (by omega)) (h := ?_)) | (refine kz_q (l05Weight_c a b c d (s.getD 0 0) k fb hab hkn (by omega) (by omega) (by omega)) (h := ?_)))
    repeat (first | refine kx_q ?_ | refine kxd_q ?_ | refine kw_s ?_ | refine kw_t ?_ | refine kw_k ?_ | refine ky_s ?_ | refine ky_t ?_ | refine ky_k ?_ | refine u_n ?_ | refine u_q ?_ | refine u_g ?_ | refine u_d ?_ | refine u_b ?_ | refine u_x ?_ | refine u_r ?_ | refine u_s ?_)
    (first | refine ka_s (hn := by exact hz2) (h := ?_) | refine kb_s (hn := by exact hz2) (h := ?_))
    repeat (first | refine kx_q ?_ | refine kxd_q ?_ | refine kw_s ?_ | refine kw_t ?_ | refine kw_k ?_ | refine ky_s ?_ | refine ky_t ?_ | refine ky_k ?_ | refine u_n ?_ | refine u_q ?_ | refine u_g ?_ | refine u_d ?_ | refine u_b ?_ | refine u_x ?_ | refine u_r ?_ | refine u_s ?_)
    (first | refine ka_s (hn := by exact hz3) (h := ?_) | refine kb_s (hn := by exact hz3) (h := ?_))
    repeat (first | refine kx_q ?_ | refine kxd_q ?_ | refine kw_s ?_ | refine kw_t ?_ | refine kw_k ?_ | refine ky_s ?_ | refine ky_t ?_ | refine ky_k ?_ | refine u_n ?_ | refine u_q ?_ | refine u_g ?_ | refine u_d ?_ | refine u_b ?_ | refine u_x ?_ | refine u_r ?_ | refine u_s ?_)
    exact ⟨k + 1, by omega, famN_0 (H := fun k => [(2, .box 26 [.argc 0 0 (.fl a), .argc 0 1 (.fl b), .argc 0 2 (.fl c), .argc 0 3 (.fl d)]), (34, .sl 30 (.fl [])), (35, .nest 65 (NI (wyRow0 a b c d s 0)) [] noRem), (41, .sl 30 (.fl ((wyT a b c d s 0).take k))), (42, .sl 3 (.il ((wyF0 a b c d s 0).take k)))]) (k + 1) (by omega)
      ⟨rfl, rfl, rfl, rfl, rfl, rfl, own_eq (by simp only [T.app, T.len, List.length_append, hz2]; rfl), own_eq (by simp only [T.app, T.len, List.length_append, hz3]; rfl), fE0' (by rw [mxF_S, hget]), rfl, rfl, rfl, rfl, trivial⟩
      ⟨rfl, .inl rfl, NI_sameP rfl, .inl (sl_eq (congrArg T.fl (take_snoc (by rw [wyT_len]; omega) hget))), .inl (sl_eq (congrArg T.il (take_snoc0 (by rw [wyF0_len]; omega) hgef))), trivial⟩⟩
  · simp only [wyPl]
    repeat (first | refine kx_q ?_ | refine kxd_q ?_ | refine kw_s ?_ | refine kw_t ?_ | refine kw_k ?_ | refine ky_s ?_ | refine ky_t ?_ | refine ky_k ?_ | refine u_n ?_ | refine u_q ?_ | refine u_g ?_ | refine u_d ?_ | refine u_b ?_ | refine u_x ?_ | refine u_r ?_ | refine u_s ?_)
    refine awp_loopN (X := Nat) (fun k => k ≤ a.length) (fun k => [(1, .arg 1 (.fl s)), (2, .bp 2 0), (6, .t (.v (.int .i64 a.length))), (7, .own 34 0 a.length), (8, .own 35 0 (t + 1)), (9, .t (.v (.int .i64 ((t + 1) : Nat)))), (10, .own 41 0 k), (11, .own 42 0 k), (12, .t (.f .f32 (mxF (wyT a b c d s (t + 1)) k))), (13, .t (.v (.int .i64 (k : Nat)))), (36, .arg 1 (.fl s)), (37, .t (.v (.int .i64 s.length))), (38, .t (.v (.int .i64 ((t + 1) : Nat))))]) (fun k => ovH (lkH [(2, .box 26 [.argc 0 0 (.fl a), .argc 0 1 (.fl b), .argc 0 2 (.fl c), .argc 0 3 (.fl d)]), (34, .sl 30 (.fl (wyB a b c d s t))), (35, .nest 65 (NI (wyRow0 a b c d s (t + 1))) [] noRem), (41, .sl 30 (.fl ((wyT a b c d s (t + 1)).take k))), (42, .sl 3 (.il ((wyF0 a b c d s (t + 1)).take k)))]) noFam) (fun k => a.length - k)
      0 (famN_0 (H := fun k => [(2, .box 26 [.argc 0 0 (.fl a), .argc 0 1 (.fl b), .argc 0 2 (.fl c), .argc 0 3 (.fl d)]), (34, .sl 30 (.fl (wyB a b c d s t))), (35, .nest 65 (NI (wyRow0 a b c d s (t + 1))) [] noRem), (41, .sl 30 (.fl ((wyT a b c d s (t + 1)).take k))), (42, .sl 3 (.il ((wyF0 a b c d s (t + 1)).take k)))]) 0 (by omega) ⟨rfl, rfl, rfl, rfl, rfl, rfl, rfl, rfl, rfl, rfl, rfl, rfl, rfl, trivial⟩ ⟨rfl, .inl rfl, NI_sameP rfl, .inl rfl, .inl rfl, trivial⟩) (fun k hk => ?_)
    have hz2 : ((wyT a b c d s (t + 1)).take k).length = k := by simp [wyT_len]; omega
    have hz3 : ((wyF0 a b c d s (t + 1)).take k).length = k := by simp [wyF0_len]; omega
    repeat (first | refine kx_q ?_ | refine kxd_q ?_ | refine kw_s ?_ | refine kw_t ?_ | refine kw_k ?_ | refine ky_s ?_ | refine ky_t ?_ | refine ky_k ?_ | refine u_n ?_ | refine u_q ?_ | refine u_g ?_ | refine u_d ?_ | refine u_b ?_ | refine u_x ?_ | refine u_r ?_ | refine u_s ?_)
    refine awp_cond (b := _) rfl (fun g2 => ?_) (fun g2 => ?_)
    rotate_left
    · simp only [icmp, decide_eq_false_iff_not] at g2
      obtain rfl : k = a.length := by omega
      rw [List.take_of_length_le (by rw [wyT_len]; omega), List.take_of_length_le (by rw [wyF0_len]; omega), wyG_mx hW g1 hO hn1]
      -- AFTER (t + 1)
      repeat (first | refine kx_q ?_ | refine kxd_q ?_ | refine kw_s ?_ | refine kw_t ?_ | refine kw_k ?_ | refine ky_s ?_ | refine ky_t ?_ | refine ky_k ?_ | refine u_n ?_ | refine u_q ?_ | refine u_g ?_ | refine u_d ?_ | refine u_b ?_ | refine u_x ?_ | refine u_r ?_ | refine u_s ?_)
      (first | refine kc_q (above_c _) (h := ?_) | refine kz_q (above_c _) (h := ?_))
      repeat (first | refine kx_q ?_ | refine kxd_q ?_ | refine kw_s ?_ | refine kw_t ?_ | refine kw_k ?_ | refine ky_s ?_ | refine ky_t ?_ | refine ky_k ?_ | refine u_n ?_ | refine u_q ?_ | refine u_g ?_ | refine u_d ?_ | refine u_b ?_ | refine u_x ?_ | refine u_r ?_ | refine u_s ?_)
      rw [wyO_above hW g1 hO hn1]
      repeat (first | refine kx_q ?_ | refine kxd_q ?_ | refine kw_s ?_ | refine kw_t ?_ | refine kw_k ?_ | refine ky_s ?_ | refine ky_t ?_ | refine ky_k ?_ | refine u_n ?_ | refine u_q ?_ | refine u_g ?_ | refine u_d ?_ | refine u_b ?_ | refine u_x ?_ | refine u_r ?_ | refine u_s ?_)
      refine awp_cond (b := _) rfl (fun g3 => ?_) (fun g3 => ?_)
      · simp only [Bool.not_eq_true'] at g3
        repeat (first | refine kx_q ?_ | refine kxd_q ?_ | refine kw_s ?_ | refine kw_t ?_ | refine kw_k ?_ | refine ky_s ?_ | refine ky_t ?_ | refine ky_k ?_ | refine u_n ?_ | refine u_q ?_ | refine u_g ?_ | refine u_d ?_ | refine u_b ?_ | refine u_x ?_ | refine u_r ?_ | refine u_s ?_)
        rw [bad (fun hc => by have := hc.2.2 (t + 1) g1; rw [g3] at this; cases this)]
        (refine u_1 ?_; (repeat' (first | exact RetRelL.nil | refine RetRel.nil rfl ?_ | refine RetRelL.cons ?_ ?_ | refine rr_tup ?_ | refine rr_agg ?_ | refine rr_own rfl ?_ | exact RetRel.arg | exact RetRel.argc | refine rr_t ?_)); all_goals rfl)
      simp only [Bool.not_eq_false'] at g3
      refine u_s ?_
      repeat (first | refine kx_q ?_ | refine kxd_q ?_ | refine kw_s ?_ | refine kw_t ?_ | refine kw_k ?_ | refine ky_s ?_ | refine ky_t ?_ | refine ky_k ?_ | refine u_n ?_ | refine u_q ?_ | refine u_g ?_ | refine u_d ?_ | refine u_b ?_ | refine u_x ?_ | refine u_r ?_ | refine u_s ?_)
      have hTl := wyT_len a b c d s (t + 1)
      refine awp_loopN (X := Nat) (fun k => k ≤ a.length) (fun k => [(1, .arg 1 (.fl s)), (2, .bp 2 0), (6, .t (.v (.int .i64 a.length))), (7, .own 34 0 a.length), (8, .own 35 0 (t + 1)), (9, .t (.v (.int .i64 ((t + 1) : Nat)))), (10, .own 41 0 a.length), (11, .own 42 0 a.length), (12, .t (.f .f32 (wyG (wyT a b c d s (t + 1))))), (19, .t (.v (.int .i64 (k : Nat)))), (36, .arg 1 (.fl s)), (37, .t (.v (.int .i64 s.length))), (38, .t (.v (.int .i64 ((t + 1) : Nat))))]) (fun k => ovH (lkH [(2, .box 26 [.argc 0 0 (.fl a), .argc 0 1 (.fl b), .argc 0 2 (.fl c), .argc 0 3 (.fl d)]), (34, .sl 30 (.fl (wyB a b c d s t))), (35, .nest 65 (NI (wyRow0 a b c d s (t + 1))) [] noRem), (41, .sl 30 (.fl (mxL (wyD (wyT a b c d s (t + 1))) (wyT a b c d s (t + 1)) k))), (42, .sl 3 (.il (wyF0 a b c d s (t + 1))))]) noFam) (fun k => a.length - k)
        0 (famN_0 (H := fun k => [(2, .box 26 [.argc 0 0 (.fl a), .argc 0 1 (.fl b), .argc 0 2 (.fl c), .argc 0 3 (.fl d)]), (34, .sl 30 (.fl (wyB a b c d s t))), (35, .nest 65 (NI (wyRow0 a b c d s (t + 1))) [] noRem), (41, .sl 30 (.fl (mxL (wyD (wyT a b c d s (t + 1))) (wyT a b c d s (t + 1)) k))), (42, .sl 3 (.il (wyF0 a b c d s (t + 1))))]) 0 (by omega) ⟨rfl, rfl, rfl, rfl, rfl, rfl, rfl, rfl, rfl, rfl, rfl, rfl, rfl, trivial⟩ ⟨rfl, .inl rfl, NI_sameP rfl, .inl (sl_eq (congrArg T.fl (mxL_0 _ _))), .inl rfl, trivial⟩) (fun k hk => ?_)
      have hml : (mxL (wyD (wyT a b c d s (t + 1))) (wyT a b c d s (t + 1)) k).length = a.length := by rw [mxL_len, hTl]
      repeat (first | refine kx_q ?_ | refine kxd_q ?_ | refine kw_s ?_ | refine kw_t ?_ | refine kw_k ?_ | refine ky_s ?_ | refine ky_t ?_ | refine ky_k ?_ | refine u_n ?_ | refine u_q ?_ | refine u_g ?_ | refine u_d ?_ | refine u_b ?_ | refine u_x ?_ | refine u_r ?_ | refine u_s ?_)
      refine nlex_if rfl rfl rfl (fun g4 => ?_) (fun g4 => ?_)
      · simp only [icmp, decide_eq_true_eq] at g4
        have g4' : k < a.length := by omega
        repeat (first | refine kx_q ?_ | refine kxd_q ?_ | refine kw_s ?_ | refine kw_t ?_ | refine kw_k ?_ | refine ky_s ?_ | refine ky_t ?_ | refine ky_k ?_ | refine u_n ?_ | refine u_q ?_ | refine u_g ?_ | refine u_d ?_ | refine u_b ?_ | refine u_x ?_ | refine u_r ?_ | refine u_s ?_)
        refine awp_cond (b := _) rfl (fun g5 => ?_) (fun g5 => ?_)
        rotate_left
        · simp only [icmp, decide_eq_false_iff_not] at g5; omega
        have hg : (mxL (wyD (wyT a b c d s (t + 1))) (wyT a b c d s (t + 1)) k).getD (0 + k) 0 = (wyT a b c d s (t + 1)).getD k 0 := by rw [Nat.zero_add, mxL_get (by omega), if_neg (by omega)]
        repeat (first | refine kx_q ?_ | refine kxd_q ?_ | refine kw_s ?_ | refine kw_t ?_ | refine kw_k ?_ | refine ky_s ?_ | refine ky_t ?_ | refine ky_k ?_ | refine u_n ?_ | refine u_q ?_ | refine u_g ?_ | refine u_d ?_ | refine u_b ?_ | refine u_x ?_ | refine u_r ?_ | refine u_s ?_)
        try (first | (refine kw_r (q_idx_own (k) tyOk rfl rfl rfl rfl rfl rfl rfl (by omega) (by first | omega | (simp only [T.len]; omega) | assumption)) (h := ?_)) | (refine ky_r (q_idx_own (k) tyOk rfl rfl rfl rfl rfl rfl rfl (by omega) (by first | omega | (simp only [T.len]; omega) | assumption)) (h := ?_)))
        repeat (first | refine kx_q ?_ | refine kxd_q ?_ | refine kw_s ?_ | refine kw_t ?_ | refine kw_k ?_ | refine ky_s ?_ | refine ky_t ?_ | refine ky_k ?_ | refine u_n ?_ | refine u_q ?_ | refine u_g ?_ | refine u_d ?_ | refine u_b ?_ | refine u_x ?_ | refine u_r ?_ | refine u_s ?_)
        try (first | (refine kw_r (q_idx_own (k) tyOk rfl rfl rfl rfl rfl rfl rfl (by omega) (by first | omega | (simp only [T.len]; omega) | assumption)) (h := ?_)) | (refine ky_r (q_idx_own (k) tyOk rfl rfl rfl rfl rfl rfl rfl (by omega) (by first | omega | (simp only [T.len]; omega) | assumption)) (h := ?_)))
        repeat (first | refine kx_q ?_ | refine kxd_q ?_ | refine kw_s ?_ | refine kw_t ?_ | refine kw_k ?_ | refine ky_s ?_ | refine ky_t ?_ | refine ky_k ?_ | refine u_n ?_ | refine u_q ?_ | refine u_g ?_ | refine u_d ?_ | refine u_b ?_ | refine u_x ?_ | refine u_r ?_ | refine u_s ?_)
        exact ⟨k + 1, by omega, famN_0 (H := fun k => [(2, .box 26 [.argc 0 0 (.fl a), .argc 0 1 (.fl b), .argc 0 2 (.fl c), .argc 0 3 (.fl d)]), (34, .sl 30 (.fl (wyB a b c d s t))), (35, .nest 65 (NI (wyRow0 a b c d s (t + 1))) [] noRem), (41, .sl 30 (.fl (mxL (wyD (wyT a b c d s (t + 1))) (wyT a b c d s (t + 1)) k))), (42, .sl 3 (.il (wyF0 a b c d s (t + 1))))]) (k + 1) (by omega) ⟨rfl, rfl, rfl, rfl, rfl, rfl, rfl, rfl, rfl, iE0' (by omega), rfl, rfl, rfl, trivial⟩ ⟨rfl, .inl rfl, NI_sameP rfl, .inl (sl_eq (congrArg T.fl (by rw [hg, Nat.zero_add]; exact mxL_set (by omega)))), .inl rfl, trivial⟩⟩
      simp only [icmp, decide_eq_false_iff_not] at g4
      obtain rfl : k = a.length := by omega
      repeat (first | refine kx_q ?_ | refine kxd_q ?_ | refine kw_s ?_ | refine kw_t ?_ | refine kw_k ?_ | refine ky_s ?_ | refine ky_t ?_ | refine ky_k ?_ | refine u_n ?_ | refine u_q ?_ | refine u_g ?_ | refine u_d ?_ | refine u_b ?_ | refine u_x ?_ | refine u_r ?_ | refine u_s ?_)
      refine awp_ifF rfl rfl ?_
      have hNn : mxL (wyD (wyT a b c d s (t + 1))) (wyT a b c d s (t + 1)) a.length = wyB a b c d s (t + 1) := by rw [wyB_S, ← wyN_mix, hTl]
      rw [hNn]
      repeat (first | refine kx_q ?_ | refine kxd_q ?_ | refine kw_s ?_ | refine kw_t ?_ | refine kw_k ?_ | refine ky_s ?_ | refine ky_t ?_ | refine ky_k ?_ | refine u_n ?_ | refine u_q ?_ | refine u_g ?_ | refine u_d ?_ | refine u_b ?_ | refine u_x ?_ | refine u_r ?_ | refine u_s ?_)
      (refine kw_rs (q_bslice_nest (L := [.own 42 0 a.length]) [42] tyOk rfl rfl rfl rfl rfl rfl rfl rfl rfl rfl rfl rfl rfl) (h := ?_))
      repeat (first | refine kx_q ?_ | refine kxd_q ?_ | refine kw_s ?_ | refine kw_t ?_ | refine kw_k ?_ | refine ky_s ?_ | refine ky_t ?_ | refine ky_k ?_ | refine u_n ?_ | refine u_q ?_ | refine u_g ?_ | refine u_d ?_ | refine u_b ?_ | refine u_x ?_ | refine u_r ?_ | refine u_s ?_)
      (refine kw_rs (q_app_nest (m := 1) (NI_good _) (ownI_good _ _) (by rw [NI_len, wyRow0_len]) rfl tyOk rfl rfl rfl rfl rfl rfl rfl rfl rfl rfl rfl rfl rfl rfl rfl (by simp only []; omega) (by omega)) (h := ?_))
      repeat (first | refine kx_q ?_ | refine kxd_q ?_ | refine kw_s ?_ | refine kw_t ?_ | refine kw_k ?_ | refine ky_s ?_ | refine ky_t ?_ | refine ky_k ?_ | refine u_n ?_ | refine u_q ?_ | refine u_g ?_ | refine u_d ?_ | refine u_b ?_ | refine u_x ?_ | refine u_r ?_ | refine u_s ?_)
      exact ⟨(t + 1 + 1), by omega, famN_p (H := fun t => [(2, .box 26 [.argc 0 0 (.fl a), .argc 0 1 (.fl b), .argc 0 2 (.fl c), .argc 0 3 (.fl d)]), (34, .sl 30 (.fl (wyP a b c d s t))), (35, .nest 65 (NI (wyRow0 a b c d s t)) [] noRem)]) (fun i => bif Nat.beq i 34 then 41 else i) (t + 1 + 1) ⟨by omega, fun j hj => (Nat.lt_or_eq_of_le (Nat.le_of_lt_succ hj)).elim (fun h => hO j h) (fun h => by rw [h]; exact g3)⟩
        ⟨rfl, rfl, rfl, rfl, rfl, rfl, rfl, rfl, trivial⟩ ⟨rfl, .inl rfl, by rw [wyRow0_S a b c d s (t + 1)]; refine NI_bto (R := wyRow0 a b c d s (t + 1)) (r := wyF0 a b c d s (t + 1)) (id := 42) (ef := 3) (vis := [42]) (len := a.length) ?_ ?_ ?_ ?_ ?_; (· exact rfl); (· exact rfl); (· exact rfl); (· exact (wyF0_len a b c d s _).symm); (· exact awayN_ok rfl), trivial⟩ rfl⟩
    simp only [icmp, decide_eq_true_eq] at g2
    have hkn : k < a.length := by omega
    repeat (first | refine kx_q ?_ | refine kxd_q ?_ | refine kw_s ?_ | refine kw_t ?_ | refine kw_k ?_ | refine ky_s ?_ | refine ky_t ?_ | refine ky_k ?_ | refine u_n ?_ | refine u_q ?_ | refine u_g ?_ | refine u_d ?_ | refine u_b ?_ | refine u_x ?_ | refine u_r ?_ | refine u_s ?_)
    refine awp_cond (b := _) rfl (fun g3 => ?_) (fun g3 => ?_)
    · first | (simp [icmp] at g3; done) | (simp [icmp] at g3; omega)
    have hget : (wyT a b c d s (t + 1)).getD k 0 = fop .mul .f32 (wyM d (wyB a b c d s t) a.length k a.length) (wgt a b (s.getD (t + 1) 0) k) := wyZ_get hkn
    have hgef : (wyF0 a b c d s (t + 1)).getD k 0 = ((wyI d (wyB a b c d s t) a.length k a.length : Nat) : Int) := wyF_get hkn
    have hBl := wyB_len a b c d s t
    repeat (first | refine kx_q ?_ | refine kxd_q ?_ | refine kw_s ?_ | refine kw_t ?_ | refine kw_k ?_ | refine ky_s ?_ | refine ky_t ?_ | refine ky_k ?_ | refine u_n ?_ | refine u_q ?_ | refine u_g ?_ | refine u_d ?_ | refine u_b ?_ | refine u_x ?_ | refine u_r ?_ | refine u_s ?_)
    refine awp_loopN (X := Nat) (fun i => i ≤ a.length) (fun i => [(1, .arg 1 (.fl s)), (2, .bp 2 0), (6, .t (.v (.int .i64 a.length))), (7, .own 34 0 a.length), (8, .own 35 0 (t + 1)), (9, .t (.v (.int .i64 ((t + 1) : Nat)))), (10, .own 41 0 k), (11, .own 42 0 k), (12, .t (.f .f32 (mxF (wyT a b c d s (t + 1)) k))), (13, .t (.v (.int .i64 (k : Nat)))), (14, .t (.v (.int .i64 (wyI d (wyB a b c d s t) a.length k i : Nat)))), (15, .t (.f .f32 (wyM d (wyB a b c d s t) a.length k i))), (16, .t (.v (.int .i64 (i : Nat)))), (36, .arg 1 (.fl s)), (37, .t (.v (.int .i64 s.length))), (38, .t (.v (.int .i64 ((t + 1) : Nat))))]) (fun _ => ovH (lkH [(2, .box 26 [.argc 0 0 (.fl a), .argc 0 1 (.fl b), .argc 0 2 (.fl c), .argc 0 3 (.fl d)]), (34, .sl 30 (.fl (wyB a b c d s t))), (35, .nest 65 (NI (wyRow0 a b c d s (t + 1))) [] noRem), (41, .sl 30 (.fl ((wyT a b c d s (t + 1)).take k))), (42, .sl 3 (.il ((wyF0 a b c d s (t + 1)).take k)))]) noFam) (fun i => a.length - i)
      0 (famN_0 (H := fun _ => [(2, .box 26 [.argc 0 0 (.fl a), .argc 0 1 (.fl b), .argc 0 2 (.fl c), .argc 0 3 (.fl d)]), (34, .sl 30 (.fl (wyB a b c d s t))), (35, .nest 65 (NI (wyRow0 a b c d s (t + 1))) [] noRem), (41, .sl 30 (.fl ((wyT a b c d s (t + 1)).take k))), (42, .sl 3 (.il ((wyF0 a b c d s (t + 1)).take k)))]) 0 (by omega) ⟨rfl, rfl, rfl, rfl, rfl, rfl, rfl, rfl, rfl, rfl, rfl, rfl, rfl, rfl, rfl, rfl, trivial⟩ ⟨rfl, .inl rfl, NI_sameP rfl, .inl rfl, .inl rfl, trivial⟩) (fun i hi => ?_)
    repeat (first | refine kx_q ?_ | refine kxd_q ?_ | refine kw_s ?_ | refine kw_t ?_ | refine kw_k ?_ | refine ky_s ?_ | refine ky_t ?_ | refine ky_k ?_ | refine u_n ?_ | refine u_q ?_ | refine u_g ?_ | refine u_d ?_ | refine u_b ?_ | refine u_x ?_ | refine u_r ?_ | refine u_s ?_)
    refine nlex_if rfl rfl rfl (fun g4 => ?_) (fun g4 => ?_)
    rotate_left
    · simp only [icmp, decide_eq_false_iff_not] at g4
      obtain rfl : i = a.length := by omega
      repeat (first | refine kx_q ?_ | refine kxd_q ?_ | refine kw_s ?_ | refine kw_t ?_ | refine kw_k ?_ | refine ky_s ?_ | refine ky_t ?_ | refine ky_k ?_ | refine u_n ?_ | refine u_q ?_ | refine u_g ?_ | refine u_d ?_ | refine u_b ?_ | refine u_x ?_ | refine u_r ?_ | refine u_s ?_)
      refine awp_ifF rfl rfl ?_
      repeat (first | refine kx_q ?_ | refine kxd_q ?_ | refine kw_s ?_ | refine kw_t ?_ | refine kw_k ?_ | refine ky_s ?_ | refine ky_t ?_ | refine ky_k ?_ | refine u_n ?_ | refine u_q ?_ | refine u_g ?_ | refine u_d ?_ | refine u_b ?_ | refine u_x ?_ | refine u_r ?_ | refine u_s ?_)
      try (first | (refine kw_r (q_idx_tree ((t + 1)) tyOk rfl rfl rfl rfl rfl rfl rfl rfl (by omega) (by first | omega | (simp only [T.len]; omega) | assumption)) (h := ?_)) | (refine ky_r (q_idx_tree ((t + 1)) tyOk rfl rfl rfl rfl rfl rfl rfl rfl (by omega) (by first | omega | (simp only [T.len]; omega) | assumption)) (h := ?_)))
      repeat (first | refine kx_q ?_ | refine kxd_q ?_ | refine kw_s ?_ | refine kw_t ?_ | refine kw_k ?_ | refine ky_s ?_ | refine ky_t ?_ | refine ky_k ?_ | refine u_n ?_ | refine u_q ?_ | refine u_g ?_ | refine u_d ?_ | refine u_b ?_ | refine u_x ?_ | refine u_r ?_ | refine u_s ?_)
      (first | (refine kc_q (l05Weight_c a b c d (s.getD (t + 1) 0) k fb hab hkn (by omega) (by omega) (by omega)) (h := ?_)) | (refine kz_q (l05Weight_c a b c d (s.getD (t + 1) 0) k fb hab hkn (by omega) (by omega) (by omega)) (h := ?_)))
      repeat (first | refine kx_q ?_ | refine kxd_q ?_ | refine kw_s ?_ | refine kw_t ?_ | refine kw_k ?_ | refine ky_s ?_ | refine ky_t ?_ | refine ky_k ?_ | refine u_n ?_ | refine u_q ?_ | refine u_g ?_ | refine u_d ?_ | refine u_b ?_ | refine u_x ?_ | refine u_r ?_ | refine u_s ?_)
      (first | refine ka_s (hn := by exact hz2) (h := ?_) | refine kb_s (hn := by exact hz2) (h := ?_))
      repeat (first | refine kx_q ?_ | refine kxd_q ?_ | refine kw_s ?_ | refine kw_t ?_ | refine kw_k ?_ | refine ky_s ?_ | refine ky_t ?_ | refine ky_k ?_ | refine u_n ?_ | refine u_q ?_ | refine u_g ?_ | refine u_d ?_ | refine u_b ?_ | refine u_x ?_ | refine u_r ?_ | refine u_s ?_)
      (first | refine ka_s (hn := by exact hz3) (h := ?_) | refine kb_s (hn := by exact hz3) (h := ?_))
      repeat (first | refine kx_q ?_ | refine kxd_q ?_ | refine kw_s ?_ | refine kw_t ?_ | refine kw_k ?_ | refine ky_s ?_ | refine ky_t ?_ | refine ky_k ?_ | refine u_n ?_ | refine u_q ?_ | refine u_g ?_ | refine u_d ?_ | refine u_b ?_ | refine u_x ?_ | refine u_r ?_ | refine u_s ?_)
      exact ⟨k + 1, by omega, famN_0 (H := fun k => [(2, .box 26 [.argc 0 0 (.fl a), .argc 0 1 (.fl b), .argc 0 2 (.fl c), .argc 0 3 (.fl d)]), (34, .sl 30 (.fl (wyB a b c d s t))), (35, .nest 65 (NI (wyRow0 a b c d s (t + 1))) [] noRem), (41, .sl 30 (.fl ((wyT a b c d s (t + 1)).take k))), (42, .sl 3 (.il ((wyF0 a b c d s (t + 1)).take k)))]) (k + 1) (by omega)
        ⟨rfl, rfl, rfl, rfl, rfl, rfl, own_eq (by simp only [T.app, T.len, List.length_append, hz2]; rfl), own_eq (by simp only [T.app, T.len, List.length_append, hz3]; rfl), fE0' (by rw [mxF_S, hget]), rfl, rfl, rfl, rfl, trivial⟩
        ⟨rfl, .inl rfl, NI_sameP rfl, .inl (sl_eq (congrArg T.fl (take_snoc (by rw [wyT_len]; omega) hget))), .inl (sl_eq (congrArg T.il (take_snoc0 (by rw [wyF0_len]; omega) hgef))), trivial⟩⟩

    simp only [icmp, decide_eq_true_eq] at g4
    have g4' : i < a.length := by omega
    repeat (first | refine kx_q ?_ | refine kxd_q ?_ | refine kw_s ?_ | refine kw_t ?_ | refine kw_k ?_ | refine ky_s ?_ | refine ky_t ?_ | refine ky_k ?_ | refine u_n ?_ | refine u_q ?_ | refine u_g ?_ | refine u_d ?_ | refine u_b ?_ | refine u_x ?_ | refine u_r ?_ | refine u_s ?_)
    refine awp_cond (b := _) rfl (fun g5 => ?_) (fun g5 => ?_)
    rotate_left
    · simp only [icmp, decide_eq_false_iff_not] at g5; omega
    have m1 := mul9 (i := i) (n := a.length) (by omega) hn3
    have m3 : (i + 1) * a.length ≤ a.length * a.length := Nat.mul_le_mul_right _ g4'
    have m4 : (i + 1) * a.length = i * a.length + a.length := by rw [Nat.add_mul, Nat.one_mul]
    repeat (first | refine kx_q ?_ | refine kxd_q ?_ | refine kw_s ?_ | refine kw_t ?_ | refine kw_k ?_ | refine ky_s ?_ | refine ky_t ?_ | refine ky_k ?_ | refine u_n ?_ | refine u_q ?_ | refine u_g ?_ | refine u_d ?_ | refine u_b ?_ | refine u_x ?_ | refine u_r ?_ | refine u_s ?_)
    try (first | (refine kw_r (q_idx_own (i) tyOk rfl rfl rfl rfl rfl rfl rfl (by omega) (by first | omega | (simp only [T.len]; omega) | assumption)) (h := ?_)) | (refine ky_r (q_idx_own (i) tyOk rfl rfl rfl rfl rfl rfl rfl (by omega) (by first | omega | (simp only [T.len]; omega) | assumption)) (h := ?_)))
    repeat (first | refine kx_q ?_ | refine kxd_q ?_ | refine kw_s ?_ | refine kw_t ?_ | refine kw_k ?_ | refine ky_s ?_ | refine ky_t ?_ | refine ky_k ?_ | refine u_n ?_ | refine u_q ?_ | refine u_g ?_ | refine u_d ?_ | refine u_b ?_ | refine u_x ?_ | refine u_r ?_ | refine u_s ?_)
    (first | (refine kw_r (q_mul rfl rfl rfl (by omega)) (h := ?_)) | (refine ky_r (q_mul rfl rfl rfl (by omega)) (h := ?_)))
    repeat (first | refine kx_q ?_ | refine kxd_q ?_ | refine kw_s ?_ | refine kw_t ?_ | refine kw_k ?_ | refine ky_s ?_ | refine ky_t ?_ | refine ky_k ?_ | refine u_n ?_ | refine u_q ?_ | refine u_g ?_ | refine u_d ?_ | refine u_b ?_ | refine u_x ?_ | refine u_r ?_ | refine u_s ?_)
    have hcast : ((i : Int) * (a.length : Int) + (k : Int)) = ((i * a.length + k : Nat) : Int) := by rw [Int.natCast_add, Int.natCast_mul]
    try (first | (refine kw_r (q_idx_tree (i * a.length + k) tyOk rfl rfl rfl rfl rfl rfl rfl rfl (by omega) (by first | omega | (simp only [T.len]; omega) | assumption)) (h := ?_)) | (refine ky_r (q_idx_tree (i * a.length + k) tyOk rfl rfl rfl rfl rfl rfl rfl rfl (by omega) (by first | omega | (simp only [T.len]; omega) | assumption)) (h := ?_)))
    repeat (first | refine kx_q ?_ | refine kxd_q ?_ | refine kw_s ?_ | refine kw_t ?_ | refine kw_k ?_ | refine ky_s ?_ | refine ky_t ?_ | refine ky_k ?_ | refine u_n ?_ | refine u_q ?_ | refine u_g ?_ | refine u_d ?_ | refine u_b ?_ | refine u_x ?_ | refine u_r ?_ | refine u_s ?_)
    rw [Nat.zero_add, show fop .mul .f32 ((wyB a b c d s t).getD i 0) (d.getD (i * a.length + k) 0) = wyY d (wyB a b c d s t) a.length k i from rfl]
    repeat (first | refine kx_q ?_ | refine kxd_q ?_ | refine kw_s ?_ | refine kw_t ?_ | refine kw_k ?_ | refine ky_s ?_ | refine ky_t ?_ | refine ky_k ?_ | refine u_n ?_ | refine u_q ?_ | refine u_g ?_ | refine u_d ?_ | refine u_b ?_ | refine u_x ?_ | refine u_r ?_ | refine u_s ?_)
    by_cases g6 : i = 0
    · subst g6
      have HY : (0 : Nat) = 0 ∨ fcmp .gtr .f32 (wyY d (wyB a b c d s t) a.length k 0) (wyM d (wyB a b c d s t) a.length k 0) = true := .inl rfl
      refine nlex_if rfl rfl rfl (fun g7 => ?_) (fun g7 => ?_)
      rotate_left
      · simp [icmp] at g7
      repeat (first | refine kx_q ?_ | refine kxd_q ?_ | refine kw_s ?_ | refine kw_t ?_ | refine kw_k ?_ | refine ky_s ?_ | refine ky_t ?_ | refine ky_k ?_ | refine u_n ?_ | refine u_q ?_ | refine u_g ?_ | refine u_d ?_ | refine u_b ?_ | refine u_x ?_ | refine u_r ?_ | refine u_s ?_)
      refine awp_ifT rfl rfl ?_
      repeat (first | refine kx_q ?_ | refine kxd_q ?_ | refine kw_s ?_ | refine kw_t ?_ | refine kw_k ?_ | refine ky_s ?_ | refine ky_t ?_ | refine ky_k ?_ | refine u_n ?_ | refine u_q ?_ | refine u_g ?_ | refine u_d ?_ | refine u_b ?_ | refine u_x ?_ | refine u_r ?_ | refine u_s ?_)
      exact ⟨0 + 1, by omega, famN_0 (H := fun _ => [(2, .box 26 [.argc 0 0 (.fl a), .argc 0 1 (.fl b), .argc 0 2 (.fl c), .argc 0 3 (.fl d)]), (34, .sl 30 (.fl (wyB a b c d s t))), (35, .nest 65 (NI (wyRow0 a b c d s (t + 1))) [] noRem), (41, .sl 30 (.fl ((wyT a b c d s (t + 1)).take k))), (42, .sl 3 (.il ((wyF0 a b c d s (t + 1)).take k)))]) (0 + 1) (by omega) ⟨rfl, rfl, rfl, rfl, rfl, rfl, rfl, rfl, rfl, rfl, iE0' (by rw [wyI_t HY]), fE0' (by rw [wyM_t HY]), iE0' (by omega), rfl, rfl, rfl, trivial⟩ ⟨rfl, .inl rfl, NI_sameP rfl, .inl rfl, .inl rfl, trivial⟩⟩
    refine nlex_if rfl rfl rfl (fun g7 => ?_) (fun g7 => ?_)
    · first | (simp [icmp] at g7; done) | (simp [icmp] at g7; omega)
    repeat (first | refine kx_q ?_ | refine kxd_q ?_ | refine kw_s ?_ | refine kw_t ?_ | refine kw_k ?_ | refine ky_s ?_ | refine ky_t ?_ | refine ky_k ?_ | refine u_n ?_ | refine u_q ?_ | refine u_g ?_ | refine u_d ?_ | refine u_b ?_ | refine u_x ?_ | refine u_r ?_ | refine u_s ?_)
    refine awp_cond (b := _) rfl (fun g7 => ?_) (fun g7 => ?_)
    · have HY : i = 0 ∨ fcmp .gtr .f32 (wyY d (wyB a b c d s t) a.length k i) (wyM d (wyB a b c d s t) a.length k i) = true := .inr g7
      repeat (first | refine kx_q ?_ | refine kxd_q ?_ | refine kw_s ?_ | refine kw_t ?_ | refine kw_k ?_ | refine ky_s ?_ | refine ky_t ?_ | refine ky_k ?_ | refine u_n ?_ | refine u_q ?_ | refine u_g ?_ | refine u_d ?_ | refine u_b ?_ | refine u_x ?_ | refine u_r ?_ | refine u_s ?_)
      exact ⟨i + 1, by omega, famN_0 (H := fun _ => [(2, .box 26 [.argc 0 0 (.fl a), .argc 0 1 (.fl b), .argc 0 2 (.fl c), .argc 0 3 (.fl d)]), (34, .sl 30 (.fl (wyB a b c d s t))), (35, .nest 65 (NI (wyRow0 a b c d s (t + 1))) [] noRem), (41, .sl 30 (.fl ((wyT a b c d s (t + 1)).take k))), (42, .sl 3 (.il ((wyF0 a b c d s (t + 1)).take k)))]) (i + 1) (by omega) ⟨rfl, rfl, rfl, rfl, rfl, rfl, rfl, rfl, rfl, rfl, iE0' (by rw [wyI_t HY]), fE0' (by rw [wyM_t HY]), iE0' (by omega), rfl, rfl, rfl, trivial⟩ ⟨rfl, .inl rfl, NI_sameP rfl, .inl rfl, .inl rfl, trivial⟩⟩
    · refine u_s ?_
      repeat (first | refine kx_q ?_ | refine kxd_q ?_ | refine kw_s ?_ | refine kw_t ?_ | refine kw_k ?_ | refine ky_s ?_ | refine ky_t ?_ | refine ky_k ?_ | refine u_n ?_ | refine u_q ?_ | refine u_g ?_ | refine u_d ?_ | refine u_b ?_ | refine u_x ?_ | refine u_r ?_ | refine u_s ?_)
      exact ⟨i + 1, by omega, famN_0 (H := fun _ => [(2, .box 26 [.argc 0 0 (.fl a), .argc 0 1 (.fl b), .argc 0 2 (.fl c), .argc 0 3 (.fl d)]), (34, .sl 30 (.fl (wyB a b c d s t))), (35, .nest 65 (NI (wyRow0 a b c d s (t + 1))) [] noRem), (41, .sl 30 (.fl ((wyT a b c d s (t + 1)).take k))), (42, .sl 3 (.il ((wyF0 a b c d s (t + 1)).take k)))]) (i + 1) (by omega) ⟨rfl, rfl, rfl, rfl, rfl, rfl, rfl, rfl, rfl, rfl, iE0' (by rw [wyI_f g6 g7]), fE0' (by rw [wyM_f g6 g7]), iE0' (by omega), rfl, rfl, rfl, trivial⟩ ⟨rfl, .inl rfl, NI_sameP rfl, .inl rfl, .inl rfl, trivial⟩⟩
end Go.Proofs.Ytpdnjcblkjjegaa

