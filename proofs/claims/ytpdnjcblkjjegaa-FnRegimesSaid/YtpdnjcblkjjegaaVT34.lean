import Derived.Test.YtpdnjcblkjjegaaVT33
import Derived.Test.YtpdnjcblkjjegaaVT28
set_option linter.unusedVariables false
set_option linter.unusedSimpArgs false
set_option maxRecDepth 20000
set_option maxHeartbeats 8000000
namespace Go.Proofs.Ytpdnjcblkjjegaa
open Go.Aw
attribute [local irreducible] QRun LexD AWp TCall TMut fop fint fcmp fconv

def shV (a : List Nat) (b s k : Nat) : Nat → Nat
  | 0 => fop .quo .f32 b (fop .sub .f32 (fop .sub .f32 1065353216 s) k)
  | i + 1 => if 0 < i then fop .add .f32 (fop .add .f32 b (fop .mul .f32 s (fop .mul .f32 (a.getD (i - 1) 0) (a.getD (i - 1) 0)))) (fop .mul .f32 k (shV a b s k i)) else shV a b s k i
theorem shV_F (a : List Nat) (b s k : Nat) : ∀ i, F32 (shV a b s k i)
  | 0 => F32_fop _ _ _
  | i + 1 => by
    unfold shV
    split
    · exact F32_fop _ _ _
    · exact shV_F a b s k i
theorem shV_t {a : List Nat} {b s k i : Nat} (h : 0 < i) : shV a b s k (i + 1) = fop .add .f32 (fop .add .f32 b (fop .mul .f32 s (fop .mul .f32 (a.getD (i - 1) 0) (a.getD (i - 1) 0)))) (fop .mul .f32 k (shV a b s k i)) := by rw [shV, if_pos h]
theorem shV_f {a : List Nat} {b s k i : Nat} (h : ¬ 0 < i) : shV a b s k (i + 1) = shV a b s k i := by rw [shV, if_neg h]
def shL (a : List Nat) (b s k : Nat) : List Nat := (List.range a.length).map fun i => shV a b s k (i + 1)
theorem shL_len (a : List Nat) (b s k : Nat) : (shL a b s k).length = a.length := by simp [shL]
def shS (a : List Nat) (b s k : Nat) : Nat → Nat
  | 0 => 0
  | i + 1 => fop .add .f32 (shS a b s k i) (fop .mul .f32 1056964608 (fop .add .f32 (logF (shV a b s k (i + 1))) (fop .quo .f32 (fop .mul .f32 (a.getD i 0) (a.getD i 0)) (shV a b s k (i + 1)))))
def shockF (a : List Nat) (b s k : Nat) : List Nat × Nat × Bool :=
  if isSer a && above b && least s && least k && fcmp .lss .f32 (fop .add .f32 s k) 1065353216 && (shL a b s k).all fin && fin (shS a b s k a.length) then (shL a b s k, shS a b s k a.length, true) else ([], 0, false)
theorem specShock_c (a : List Nat) (b s k : Nat) (ha : a.length ≤ 9223372036854775807) :
    TCall Try.prog 20 [.fl a, .f .f32 b, .f .f32 s, .f .f32 k] (.tup [.own 0 (shockF a b s k).1.length, .t (.f .f32 (shockF a b s k).2.1), .t (.v (.bool (shockF a b s k).2.2))]) [(0, .sl 30 (.fl (shockF a b s k).1))] := by
  refine tcall_of Try.func20 rfl (by kernel_rfl) (Nat.le_of_ble_eq_true rfl) rfl ?_
  simp only [argsL, argAV, argCs, argS]
  have bad : ¬ (isSer a = true ∧ above b = true ∧ least s = true ∧ least k = true ∧ fcmp .lss .f32 (fop .add .f32 s k) 1065353216 = true) → shockF a b s k = ([], 0, false) := fun hc => by
    unfold shockF; rw [if_neg (fun h => by simp only [Bool.and_eq_true] at h; exact hc ⟨h.1.1.1.1.1.1, h.1.1.1.1.1.2, h.1.1.1.1.2, h.1.1.1.2, h.1.1.2⟩)]
  repeat (first | refine w_q ?_ | refine w_s ?_ | refine w_t ?_ | refine w_k ?_ | refine y_q ?_ | refine y_s ?_ | refine y_t ?_ | refine y_k ?_ | refine u_n ?_ | refine u_q ?_ | refine u_g ?_ | refine u_d ?_ | refine u_b ?_ | refine u_x ?_ | refine u_r ?_ | refine u_s ?_)
  (first | refine c_q (specSer_c a ha) (h := ?_) | refine z_q (specSer_c a ha) (h := ?_))
  repeat (first | refine w_q ?_ | refine w_s ?_ | refine w_t ?_ | refine w_k ?_ | refine y_q ?_ | refine y_s ?_ | refine y_t ?_ | refine y_k ?_ | refine u_n ?_ | refine u_q ?_ | refine u_g ?_ | refine u_d ?_ | refine u_b ?_ | refine u_x ?_ | refine u_r ?_ | refine u_s ?_)
  refine lex_if rfl rfl rfl (fun h1 => ?_) (fun h1 => ?_)
  · simp only [Bool.not_eq_true'] at h1
    repeat (first | refine w_q ?_ | refine w_s ?_ | refine w_t ?_ | refine w_k ?_ | refine y_q ?_ | refine y_s ?_ | refine y_t ?_ | refine y_k ?_ | refine u_n ?_ | refine u_q ?_ | refine u_g ?_ | refine u_d ?_ | refine u_b ?_ | refine u_x ?_ | refine u_r ?_ | refine u_s ?_ | refine w_r (q_build tyOk rfl rfl rfl rfl rfl rfl rfl rfl) (h := ?_) | refine y_r (q_build tyOk rfl rfl rfl rfl rfl rfl rfl rfl) (h := ?_))
    refine awp_ifT rfl rfl ?_
    repeat (first | refine w_q ?_ | refine w_s ?_ | refine w_t ?_ | refine w_k ?_ | refine y_q ?_ | refine y_s ?_ | refine y_t ?_ | refine y_k ?_ | refine u_n ?_ | refine u_q ?_ | refine u_g ?_ | refine u_d ?_ | refine u_b ?_ | refine u_x ?_ | refine u_r ?_ | refine u_s ?_ | refine w_r (q_build tyOk rfl rfl rfl rfl rfl rfl rfl rfl) (h := ?_) | refine y_r (q_build tyOk rfl rfl rfl rfl rfl rfl rfl rfl) (h := ?_))
    rw [bad (fun hc => by first | (simp only [h1, Bool.false_eq_true, false_and, and_false] at hc; done) | omega)]
    (refine u_1 ?_; (repeat' (first | exact RetRelL.nil | refine RetRel.nil rfl ?_ | refine RetRelL.cons ?_ ?_ | refine rr_tup ?_ | refine rr_agg ?_ | refine rr_own rfl ?_ | exact RetRel.arg | exact RetRel.argc | refine rr_t ?_)); all_goals rfl)
  simp only [Bool.not_eq_false'] at h1
  repeat (first | refine w_q ?_ | refine w_s ?_ | refine w_t ?_ | refine w_k ?_ | refine y_q ?_ | refine y_s ?_ | refine y_t ?_ | refine y_k ?_ | refine u_n ?_ | refine u_q ?_ | refine u_g ?_ | refine u_d ?_ | refine u_b ?_ | refine u_x ?_ | refine u_r ?_ | refine u_s ?_)
  (first | refine c_q (above_c _) (h := ?_) | refine z_q (above_c _) (h := ?_))
  repeat (first | refine w_q ?_ | refine w_s ?_ | refine w_t ?_ | refine w_k ?_ | refine y_q ?_ | refine y_s ?_ | refine y_t ?_ | refine y_k ?_ | refine u_n ?_ | refine u_q ?_ | refine u_g ?_ | refine u_d ?_ | refine u_b ?_ | refine u_x ?_ | refine u_r ?_ | refine u_s ?_)
  refine lex_if rfl rfl rfl (fun h2 => ?_) (fun h2 => ?_)
  · simp only [Bool.not_eq_true'] at h2
    repeat (first | refine w_q ?_ | refine w_s ?_ | refine w_t ?_ | refine w_k ?_ | refine y_q ?_ | refine y_s ?_ | refine y_t ?_ | refine y_k ?_ | refine u_n ?_ | refine u_q ?_ | refine u_g ?_ | refine u_d ?_ | refine u_b ?_ | refine u_x ?_ | refine u_r ?_ | refine u_s ?_ | refine w_r (q_build tyOk rfl rfl rfl rfl rfl rfl rfl rfl) (h := ?_) | refine y_r (q_build tyOk rfl rfl rfl rfl rfl rfl rfl rfl) (h := ?_))
    refine awp_ifT rfl rfl ?_
    repeat (first | refine w_q ?_ | refine w_s ?_ | refine w_t ?_ | refine w_k ?_ | refine y_q ?_ | refine y_s ?_ | refine y_t ?_ | refine y_k ?_ | refine u_n ?_ | refine u_q ?_ | refine u_g ?_ | refine u_d ?_ | refine u_b ?_ | refine u_x ?_ | refine u_r ?_ | refine u_s ?_ | refine w_r (q_build tyOk rfl rfl rfl rfl rfl rfl rfl rfl) (h := ?_) | refine y_r (q_build tyOk rfl rfl rfl rfl rfl rfl rfl rfl) (h := ?_))
    rw [bad (fun hc => by first | (simp only [h2, Bool.false_eq_true, false_and, and_false] at hc; done) | omega)]
    (refine u_1 ?_; (repeat' (first | exact RetRelL.nil | refine RetRel.nil rfl ?_ | refine RetRelL.cons ?_ ?_ | refine rr_tup ?_ | refine rr_agg ?_ | refine rr_own rfl ?_ | exact RetRel.arg | exact RetRel.argc | refine rr_t ?_)); all_goals rfl)
  simp only [Bool.not_eq_false'] at h2
  repeat (first | refine w_q ?_ | refine w_s ?_ | refine w_t ?_ | refine w_k ?_ | refine y_q ?_ | refine y_s ?_ | refine y_t ?_ | refine y_k ?_ | refine u_n ?_ | refine u_q ?_ | refine u_g ?_ | refine u_d ?_ | refine u_b ?_ | refine u_x ?_ | refine u_r ?_ | refine u_s ?_)
  (first | refine c_q (least_c _) (h := ?_) | refine z_q (least_c _) (h := ?_))
  repeat (first | refine w_q ?_ | refine w_s ?_ | refine w_t ?_ | refine w_k ?_ | refine y_q ?_ | refine y_s ?_ | refine y_t ?_ | refine y_k ?_ | refine u_n ?_ | refine u_q ?_ | refine u_g ?_ | refine u_d ?_ | refine u_b ?_ | refine u_x ?_ | refine u_r ?_ | refine u_s ?_)
  refine lex_if rfl rfl rfl (fun h3 => ?_) (fun h3 => ?_)
  · simp only [Bool.not_eq_true'] at h3
    repeat (first | refine w_q ?_ | refine w_s ?_ | refine w_t ?_ | refine w_k ?_ | refine y_q ?_ | refine y_s ?_ | refine y_t ?_ | refine y_k ?_ | refine u_n ?_ | refine u_q ?_ | refine u_g ?_ | refine u_d ?_ | refine u_b ?_ | refine u_x ?_ | refine u_r ?_ | refine u_s ?_ | refine w_r (q_build tyOk rfl rfl rfl rfl rfl rfl rfl rfl) (h := ?_) | refine y_r (q_build tyOk rfl rfl rfl rfl rfl rfl rfl rfl) (h := ?_))
    refine awp_ifT rfl rfl ?_
    repeat (first | refine w_q ?_ | refine w_s ?_ | refine w_t ?_ | refine w_k ?_ | refine y_q ?_ | refine y_s ?_ | refine y_t ?_ | refine y_k ?_ | refine u_n ?_ | refine u_q ?_ | refine u_g ?_ | refine u_d ?_ | refine u_b ?_ | refine u_x ?_ | refine u_r ?_ | refine u_s ?_ | refine w_r (q_build tyOk rfl rfl rfl rfl rfl rfl rfl rfl) (h := ?_) | refine y_r (q_build tyOk rfl rfl rfl rfl rfl rfl rfl rfl) (h := ?_))
    rw [bad (fun hc => by first | (simp only [h3, Bool.false_eq_true, false_and, and_false] at hc; done) | omega)]
    (refine u_1 ?_; (repeat' (first | exact RetRelL.nil | refine RetRel.nil rfl ?_ | refine RetRelL.cons ?_ ?_ | refine rr_tup ?_ | refine rr_agg ?_ | refine rr_own rfl ?_ | exact RetRel.arg | exact RetRel.argc | refine rr_t ?_)); all_goals rfl)
  simp only [Bool.not_eq_false'] at h3
  repeat (first | refine w_q ?_ | refine w_s ?_ | refine w_t ?_ | refine w_k ?_ | refine y_q ?_ | refine y_s ?_ | refine y_t ?_ | refine y_k ?_ | refine u_n ?_ | refine u_q ?_ | refine u_g ?_ | refine u_d ?_ | refine u_b ?_ | refine u_x ?_ | refine u_r ?_ | refine u_s ?_)
  (first | refine c_q (least_c _) (h := ?_) | refine z_q (least_c _) (h := ?_))
  repeat (first | refine w_q ?_ | refine w_s ?_ | refine w_t ?_ | refine w_k ?_ | refine y_q ?_ | refine y_s ?_ | refine y_t ?_ | refine y_k ?_ | refine u_n ?_ | refine u_q ?_ | refine u_g ?_ | refine u_d ?_ | refine u_b ?_ | refine u_x ?_ | refine u_r ?_ | refine u_s ?_)
  refine lex_if rfl rfl rfl (fun h4 => ?_) (fun h4 => ?_)
  · simp only [Bool.not_eq_true'] at h4
    repeat (first | refine w_q ?_ | refine w_s ?_ | refine w_t ?_ | refine w_k ?_ | refine y_q ?_ | refine y_s ?_ | refine y_t ?_ | refine y_k ?_ | refine u_n ?_ | refine u_q ?_ | refine u_g ?_ | refine u_d ?_ | refine u_b ?_ | refine u_x ?_ | refine u_r ?_ | refine u_s ?_ | refine w_r (q_build tyOk rfl rfl rfl rfl rfl rfl rfl rfl) (h := ?_) | refine y_r (q_build tyOk rfl rfl rfl rfl rfl rfl rfl rfl) (h := ?_))
    refine awp_ifT rfl rfl ?_
    repeat (first | refine w_q ?_ | refine w_s ?_ | refine w_t ?_ | refine w_k ?_ | refine y_q ?_ | refine y_s ?_ | refine y_t ?_ | refine y_k ?_ | refine u_n ?_ | refine u_q ?_ | refine u_g ?_ | refine u_d ?_ | refine u_b ?_ | refine u_x ?_ | refine u_r ?_ | refine u_s ?_ | refine w_r (q_build tyOk rfl rfl rfl rfl rfl rfl rfl rfl) (h := ?_) | refine y_r (q_build tyOk rfl rfl rfl rfl rfl rfl rfl rfl) (h := ?_))
    rw [bad (fun hc => by first | (simp only [h4, Bool.false_eq_true, false_and, and_false] at hc; done) | omega)]
    (refine u_1 ?_; (repeat' (first | exact RetRelL.nil | refine RetRel.nil rfl ?_ | refine RetRelL.cons ?_ ?_ | refine rr_tup ?_ | refine rr_agg ?_ | refine rr_own rfl ?_ | exact RetRel.arg | exact RetRel.argc | refine rr_t ?_)); all_goals rfl)
  simp only [Bool.not_eq_false'] at h4
  repeat (first | refine w_q ?_ | refine w_s ?_ | refine w_t ?_ | refine w_k ?_ | refine y_q ?_ | refine y_s ?_ | refine y_t ?_ | refine y_k ?_ | refine u_n ?_ | refine u_q ?_ | refine u_g ?_ | refine u_d ?_ | refine u_b ?_ | refine u_x ?_ | refine u_r ?_ | refine u_s ?_)
  refine awp_if rfl (fun h5 => ?_) (fun h5 => ?_)
  · simp only [Bool.not_eq_true'] at h5
    repeat (first | refine w_q ?_ | refine w_s ?_ | refine w_t ?_ | refine w_k ?_ | refine y_q ?_ | refine y_s ?_ | refine y_t ?_ | refine y_k ?_ | refine u_n ?_ | refine u_q ?_ | refine u_g ?_ | refine u_d ?_ | refine u_b ?_ | refine u_x ?_ | refine u_r ?_ | refine u_s ?_)
    rw [bad (fun hc => by simp only [h5, Bool.false_eq_true, false_and, and_false] at hc)]
    (refine u_1 ?_; (repeat' (first | exact RetRelL.nil | refine RetRel.nil rfl ?_ | refine RetRelL.cons ?_ ?_ | refine rr_tup ?_ | refine rr_agg ?_ | refine rr_own rfl ?_ | exact RetRel.arg | exact RetRel.argc | refine rr_t ?_)); all_goals rfl)
  simp only [Bool.not_eq_false'] at h5
  have hs := isSer_len h1
  have hll := shL_len a b s k
  repeat (first | refine w_q ?_ | refine w_s ?_ | refine w_t ?_ | refine w_k ?_ | refine u_n ?_ | refine u_q ?_ | refine u_g ?_ | refine u_d ?_ | refine u_b ?_ | refine u_x ?_ | refine u_r ?_ | refine u_s ?_)
  refine awp_loop (X := Nat) (fun i => i ≤ a.length) (fun i => [(0, .arg 0 (.fl a)), (1, .t (.f .f32 b)), (2, .t (.f .f32 s)), (3, .t (.f .f32 k)), (11, .t (.f .f32 (shV a b s k i))), (12, .own 46 0 i), (13, .t (.f .f32 (shS a b s k i))), (47, .arg 0 (.fl a)), (48, .t (.v (.int .i64 a.length))), (49, .t (.v (.int .i64 i)))]) (fun i => [(46, .sl 30 (.fl ((shL a b s k).take i)))]) (fun i => a.length - i)
    0 ⟨by omega, fun i => i, ⟨rfl, rfl, rfl, rfl, rfl, rfl, rfl, rfl, rfl, rfl, trivial⟩, ⟨rfl, trivial⟩, injOn_id _⟩ (fun i hi => ?_)
  have hz : ((shL a b s k).take i).length = i := by simp [hll]; omega
  repeat (first | refine w_q ?_ | refine w_s ?_ | refine w_t ?_ | refine w_k ?_ | refine u_n ?_ | refine u_q ?_ | refine u_g ?_ | refine u_d ?_ | refine u_b ?_ | refine u_x ?_ | refine u_r ?_ | refine u_s ?_)
  refine awp_if rfl (fun h => ?_) (fun h => ?_)
  · simp only [icmp, decide_eq_true_eq] at h
    have hget : (shL a b s k).getD i 0 = shV a b s k (i + 1) := getD_mapR _ (by omega)
    repeat (first | refine w_q ?_ | refine w_s ?_ | refine w_t ?_ | refine w_k ?_ | refine y_q ?_ | refine y_s ?_ | refine y_t ?_ | refine y_k ?_ | refine u_n ?_ | refine u_q ?_ | refine u_g ?_ | refine u_d ?_ | refine u_b ?_ | refine u_x ?_ | refine u_r ?_ | refine u_s ?_)
    refine awp_if rfl (fun hp => ?_) (fun hp => ?_)
    · simp only [icmp, decide_eq_true_eq] at hp
      have hv := shV_t (a := a) (b := b) (s := s) (k := k) (i := i) (by omega)
      repeat (first | refine w_q ?_ | refine w_s ?_ | refine w_t ?_ | refine w_k ?_ | refine y_q ?_ | refine y_s ?_ | refine y_t ?_ | refine y_k ?_ | refine u_n ?_ | refine u_q ?_ | refine u_g ?_ | refine u_d ?_ | refine u_b ?_ | refine u_x ?_ | refine u_r ?_ | refine u_s ?_)
      (first | (refine w_r (q_idx_tree (i - 1) tyOk rfl rfl rfl rfl rfl rfl rfl rfl (by omega) (by first | omega | (simp only [T.len]; omega) | assumption)) (h := ?_)) | (refine y_r (q_idx_tree (i - 1) tyOk rfl rfl rfl rfl rfl rfl rfl rfl (by omega) (by first | omega | (simp only [T.len]; omega) | assumption)) (h := ?_)))
      repeat (first | refine w_q ?_ | refine w_s ?_ | refine w_t ?_ | refine w_k ?_ | refine y_q ?_ | refine y_s ?_ | refine y_t ?_ | refine y_k ?_ | refine u_n ?_ | refine u_q ?_ | refine u_g ?_ | refine u_d ?_ | refine u_b ?_ | refine u_x ?_ | refine u_r ?_ | refine u_s ?_)
      (first | (refine w_r (q_idx_tree (i - 1) tyOk rfl rfl rfl rfl rfl rfl rfl rfl (by omega) (by first | omega | (simp only [T.len]; omega) | assumption)) (h := ?_)) | (refine y_r (q_idx_tree (i - 1) tyOk rfl rfl rfl rfl rfl rfl rfl rfl (by omega) (by first | omega | (simp only [T.len]; omega) | assumption)) (h := ?_)))
      repeat (first | refine w_q ?_ | refine w_s ?_ | refine w_t ?_ | refine w_k ?_ | refine y_q ?_ | refine y_s ?_ | refine y_t ?_ | refine y_k ?_ | refine u_n ?_ | refine u_q ?_ | refine u_g ?_ | refine u_d ?_ | refine u_b ?_ | refine u_x ?_ | refine u_r ?_ | refine u_s ?_)
      rw [← hv]
      repeat (first | refine w_q ?_ | refine w_s ?_ | refine w_t ?_ | refine w_k ?_ | refine y_q ?_ | refine y_s ?_ | refine y_t ?_ | refine y_k ?_ | refine u_n ?_ | refine u_q ?_ | refine u_g ?_ | refine u_d ?_ | refine u_b ?_ | refine u_x ?_ | refine u_r ?_ | refine u_s ?_)
      (first | refine a_s (hn := by exact hz) (h := ?_) | refine b_s (hn := by exact hz) (h := ?_))
      repeat (first | refine w_q ?_ | refine w_s ?_ | refine w_t ?_ | refine w_k ?_ | refine y_q ?_ | refine y_s ?_ | refine y_t ?_ | refine y_k ?_ | refine u_n ?_ | refine u_q ?_ | refine u_g ?_ | refine u_d ?_ | refine u_b ?_ | refine u_x ?_ | refine u_r ?_ | refine u_s ?_)
      (first | (refine c_q (l01Log_c _ (shV_F a b s k (i + 1))) (h := ?_)) | (refine z_q (l01Log_c _ (shV_F a b s k (i + 1))) (h := ?_)))
      repeat (first | refine w_q ?_ | refine w_s ?_ | refine w_t ?_ | refine w_k ?_ | refine y_q ?_ | refine y_s ?_ | refine y_t ?_ | refine y_k ?_ | refine u_n ?_ | refine u_q ?_ | refine u_g ?_ | refine u_d ?_ | refine u_b ?_ | refine u_x ?_ | refine u_r ?_ | refine u_s ?_)
      exact ⟨i + 1, by omega, by omega, fun i => i, ⟨rfl, rfl, rfl, rfl, rfl, own_eq (by simp only [T.app, T.len, List.length_append, hz]; rfl), rfl, rfl, rfl, rfl, trivial⟩, ⟨sl_eq (congrArg T.fl (take_snoc (by omega) hget)), trivial⟩, injOn_id _⟩
    · simp only [icmp, decide_eq_false_iff_not] at hp
      have hv := shV_f (a := a) (b := b) (s := s) (k := k) (i := i) (by omega)
      rw [← hv]
      repeat (first | refine w_q ?_ | refine w_s ?_ | refine w_t ?_ | refine w_k ?_ | refine y_q ?_ | refine y_s ?_ | refine y_t ?_ | refine y_k ?_ | refine u_n ?_ | refine u_q ?_ | refine u_g ?_ | refine u_d ?_ | refine u_b ?_ | refine u_x ?_ | refine u_r ?_ | refine u_s ?_)
      (first | refine a_s (hn := by exact hz) (h := ?_) | refine b_s (hn := by exact hz) (h := ?_))
      repeat (first | refine w_q ?_ | refine w_s ?_ | refine w_t ?_ | refine w_k ?_ | refine y_q ?_ | refine y_s ?_ | refine y_t ?_ | refine y_k ?_ | refine u_n ?_ | refine u_q ?_ | refine u_g ?_ | refine u_d ?_ | refine u_b ?_ | refine u_x ?_ | refine u_r ?_ | refine u_s ?_)
      (first | (refine c_q (l01Log_c _ (shV_F a b s k (i + 1))) (h := ?_)) | (refine z_q (l01Log_c _ (shV_F a b s k (i + 1))) (h := ?_)))
      repeat (first | refine w_q ?_ | refine w_s ?_ | refine w_t ?_ | refine w_k ?_ | refine y_q ?_ | refine y_s ?_ | refine y_t ?_ | refine y_k ?_ | refine u_n ?_ | refine u_q ?_ | refine u_g ?_ | refine u_d ?_ | refine u_b ?_ | refine u_x ?_ | refine u_r ?_ | refine u_s ?_)
      exact ⟨i + 1, by omega, by omega, fun i => i, ⟨rfl, rfl, rfl, rfl, rfl, own_eq (by simp only [T.app, T.len, List.length_append, hz]; rfl), rfl, rfl, rfl, rfl, trivial⟩, ⟨sl_eq (congrArg T.fl (take_snoc (by omega) hget)), trivial⟩, injOn_id _⟩
  · simp only [icmp, decide_eq_false_iff_not] at h
    have : i = a.length := by omega
    subst this
    have hfull : (shL a b s k).take a.length = shL a b s k := List.take_of_length_le (by omega)
    rw [hfull]
    repeat (first | refine w_q ?_ | refine w_s ?_ | refine w_t ?_ | refine w_k ?_ | refine u_n ?_ | refine u_q ?_ | refine u_g ?_ | refine u_d ?_ | refine u_b ?_ | refine u_x ?_ | refine u_r ?_ | refine u_s ?_)
    (first | (refine c_q (l02Finite_c (shL a b s k) (by omega)) (h := ?_)) | (refine z_q (l02Finite_c (shL a b s k) (by omega)) (h := ?_)))
    repeat (first | refine w_q ?_ | refine w_s ?_ | refine w_t ?_ | refine w_k ?_ | refine u_n ?_ | refine u_q ?_ | refine u_g ?_ | refine u_d ?_ | refine u_b ?_ | refine u_x ?_ | refine u_r ?_ | refine u_s ?_)
    refine lex_if rfl rfl rfl (fun h6 => ?_) (fun h6 => ?_)
    · simp only [Bool.not_eq_true'] at h6
      repeat (first | refine w_q ?_ | refine w_s ?_ | refine w_t ?_ | refine w_k ?_ | refine u_n ?_ | refine u_q ?_ | refine u_g ?_ | refine u_d ?_ | refine u_b ?_ | refine u_x ?_ | refine u_r ?_ | refine u_s ?_)
      refine awp_ifT rfl rfl ?_
      repeat (first | refine w_q ?_ | refine w_s ?_ | refine w_t ?_ | refine w_k ?_ | refine u_n ?_ | refine u_q ?_ | refine u_g ?_ | refine u_d ?_ | refine u_b ?_ | refine u_x ?_ | refine u_r ?_ | refine u_s ?_)
      rw [show shockF a b s k = ([], 0, false) by unfold shockF; rw [h6]; simp]
      (refine u_1 ?_; (repeat' (first | exact RetRelL.nil | refine RetRel.nil rfl ?_ | refine RetRelL.cons ?_ ?_ | refine rr_tup ?_ | refine rr_agg ?_ | refine rr_own rfl ?_ | exact RetRel.arg | exact RetRel.argc | refine rr_t ?_)); all_goals rfl)
    simp only [Bool.not_eq_false'] at h6
    repeat (first | refine w_q ?_ | refine w_s ?_ | refine w_t ?_ | refine w_k ?_ | refine u_n ?_ | refine u_q ?_ | refine u_g ?_ | refine u_d ?_ | refine u_b ?_ | refine u_x ?_ | refine u_r ?_ | refine u_s ?_)
    (first | refine c_q (l01Finite_c _) (h := ?_) | refine z_q (l01Finite_c _) (h := ?_))
    repeat (first | refine w_q ?_ | refine w_s ?_ | refine w_t ?_ | refine w_k ?_ | refine u_n ?_ | refine u_q ?_ | refine u_g ?_ | refine u_d ?_ | refine u_b ?_ | refine u_x ?_ | refine u_r ?_ | refine u_s ?_)
    refine awp_if rfl (fun h7 => ?_) (fun h7 => ?_)
    · simp only [Bool.not_eq_true'] at h7
      repeat (first | refine w_q ?_ | refine w_s ?_ | refine w_t ?_ | refine w_k ?_ | refine u_n ?_ | refine u_q ?_ | refine u_g ?_ | refine u_d ?_ | refine u_b ?_ | refine u_x ?_ | refine u_r ?_ | refine u_s ?_)
      rw [show shockF a b s k = ([], 0, false) by unfold shockF; rw [h7]; simp]
      (refine u_1 ?_; (repeat' (first | exact RetRelL.nil | refine RetRel.nil rfl ?_ | refine RetRelL.cons ?_ ?_ | refine rr_tup ?_ | refine rr_agg ?_ | refine rr_own rfl ?_ | exact RetRel.arg | exact RetRel.argc | refine rr_t ?_)); all_goals rfl)
    simp only [Bool.not_eq_false'] at h7
    repeat (first | refine w_q ?_ | refine w_s ?_ | refine w_t ?_ | refine w_k ?_ | refine u_n ?_ | refine u_q ?_ | refine u_g ?_ | refine u_d ?_ | refine u_b ?_ | refine u_x ?_ | refine u_r ?_ | refine u_s ?_)
    rw [show shockF a b s k = (shL a b s k, shS a b s k a.length, true) by unfold shockF; rw [h1, h2, h3, h4, h5, h6, h7]; rfl]
    refine ret_ok tyOk (by first | exact .inr rfl | exact .inl rfl) (pi1 46) rfl (by repeat (first | exact .nil | (apply ResAl.cons; first | exact .tmp | exact .cell rfl rfl rfl rfl rfl rfl | exact .cell1 rfl rfl rfl rfl rfl))) ?_ ⟨rfl, trivial⟩ (injO_1 _ _ _)
    repeat' (first | exact RetRelL.nil | refine RetRel.nil rfl ?_ | refine RetRelL.cons ?_ ?_ | refine rr_tup ?_ | refine rr_agg ?_ | refine rr_own rfl ?_ | exact RetRel.arg | exact RetRel.argc | refine rr_t ?_)
    all_goals first | rfl | exact hll.symm
theorem implShock_c (a : List Nat) (b s k : Nat) (ha : a.length ≤ 9223372036854775807) :
    TCall Try.prog 19 [.fl a, .f .f32 b, .f .f32 s, .f .f32 k] (.tup [.own 0 (shockF a b s k).1.length, .t (.f .f32 (shockF a b s k).2.1), .t (.v (.bool (shockF a b s k).2.2))]) [(0, .sl 30 (.fl (shockF a b s k).1))] := by
  refine tcall_of Try.func19 rfl (by kernel_rfl) (Nat.le_of_ble_eq_true rfl) rfl ?_
  simp only [argsL, argAV, argCs, argS]
  have bad0 : ¬ (isSer a = true ∧ above b = true ∧ least s = true ∧ least k = true ∧ fcmp .lss .f32 (fop .add .f32 s k) 1065353216 = true) → shockF a b s k = ([], 0, false) := fun hc => by
    unfold shockF; rw [if_neg (fun h => by simp only [Bool.and_eq_true] at h; exact hc ⟨h.1.1.1.1.1.1, h.1.1.1.1.1.2, h.1.1.1.1.2, h.1.1.1.2, h.1.1.2⟩)]
  have bad : ¬ (isSer a = true ∧ [b].all above = true ∧ [s, k].all least = true ∧ fcmp .lss .f32 (fop .add .f32 s k) 1065353216 = true) → shockF a b s k = ([], 0, false) := fun hc => bad0 (fun h => hc ⟨h.1, by simp [h.2.1], by simp [h.2.2.1, h.2.2.2.1], h.2.2.2.2⟩)
  repeat (first | refine w_q ?_ | refine w_s ?_ | refine w_t ?_ | refine w_k ?_ | refine y_q ?_ | refine y_s ?_ | refine y_t ?_ | refine y_k ?_ | refine u_n ?_ | refine u_q ?_ | refine u_g ?_ | refine u_d ?_ | refine u_b ?_ | refine u_x ?_ | refine u_r ?_ | refine u_s ?_)
  (first | refine c_q (implSer_c a ha) (h := ?_) | refine z_q (implSer_c a ha) (h := ?_))
  repeat (first | refine w_q ?_ | refine w_s ?_ | refine w_t ?_ | refine w_k ?_ | refine y_q ?_ | refine y_s ?_ | refine y_t ?_ | refine y_k ?_ | refine u_n ?_ | refine u_q ?_ | refine u_g ?_ | refine u_d ?_ | refine u_b ?_ | refine u_x ?_ | refine u_r ?_ | refine u_s ?_)
  refine lex_if rfl rfl rfl (fun h1 => ?_) (fun h1 => ?_)
  · simp only [Bool.not_eq_true'] at h1
    repeat (first | refine w_q ?_ | refine w_s ?_ | refine w_t ?_ | refine w_k ?_ | refine y_q ?_ | refine y_s ?_ | refine y_t ?_ | refine y_k ?_ | refine u_n ?_ | refine u_q ?_ | refine u_g ?_ | refine u_d ?_ | refine u_b ?_ | refine u_x ?_ | refine u_r ?_ | refine u_s ?_ | refine w_r (q_build tyOk rfl rfl rfl rfl rfl rfl rfl rfl) (h := ?_) | refine y_r (q_build tyOk rfl rfl rfl rfl rfl rfl rfl rfl) (h := ?_))
    refine awp_ifT rfl rfl ?_
    repeat (first | refine w_q ?_ | refine w_s ?_ | refine w_t ?_ | refine w_k ?_ | refine y_q ?_ | refine y_s ?_ | refine y_t ?_ | refine y_k ?_ | refine u_n ?_ | refine u_q ?_ | refine u_g ?_ | refine u_d ?_ | refine u_b ?_ | refine u_x ?_ | refine u_r ?_ | refine u_s ?_ | refine w_r (q_build tyOk rfl rfl rfl rfl rfl rfl rfl rfl) (h := ?_) | refine y_r (q_build tyOk rfl rfl rfl rfl rfl rfl rfl rfl) (h := ?_))
    rw [bad (fun hc => by first | (simp only [h1, Bool.false_eq_true, false_and, and_false] at hc; done) | omega)]
    (refine u_1 ?_; (repeat' (first | exact RetRelL.nil | refine RetRel.nil rfl ?_ | refine RetRelL.cons ?_ ?_ | refine rr_tup ?_ | refine rr_agg ?_ | refine rr_own rfl ?_ | exact RetRel.arg | exact RetRel.argc | refine rr_t ?_)); all_goals rfl)
  simp only [Bool.not_eq_false'] at h1
  repeat (first | refine w_q ?_ | refine w_s ?_ | refine w_t ?_ | refine w_k ?_ | refine y_q ?_ | refine y_s ?_ | refine y_t ?_ | refine y_k ?_ | refine u_n ?_ | refine u_q ?_ | refine u_g ?_ | refine u_d ?_ | refine u_b ?_ | refine u_x ?_ | refine u_r ?_ | refine u_s ?_)
  (first | (refine c_q (areMore_c [b] (by simp)) (h := ?_)) | (refine z_q (areMore_c [b] (by simp)) (h := ?_)))
  repeat (first | refine w_q ?_ | refine w_s ?_ | refine w_t ?_ | refine w_k ?_ | refine y_q ?_ | refine y_s ?_ | refine y_t ?_ | refine y_k ?_ | refine u_n ?_ | refine u_q ?_ | refine u_g ?_ | refine u_d ?_ | refine u_b ?_ | refine u_x ?_ | refine u_r ?_ | refine u_s ?_)
  refine lex_if rfl rfl rfl (fun h2a => ?_) (fun h2a => ?_)
  · simp only [Bool.not_eq_true'] at h2a
    repeat (first | refine w_q ?_ | refine w_s ?_ | refine w_t ?_ | refine w_k ?_ | refine y_q ?_ | refine y_s ?_ | refine y_t ?_ | refine y_k ?_ | refine u_n ?_ | refine u_q ?_ | refine u_g ?_ | refine u_d ?_ | refine u_b ?_ | refine u_x ?_ | refine u_r ?_ | refine u_s ?_ | refine w_r (q_build tyOk rfl rfl rfl rfl rfl rfl rfl rfl) (h := ?_) | refine y_r (q_build tyOk rfl rfl rfl rfl rfl rfl rfl rfl) (h := ?_))
    refine awp_ifT rfl rfl ?_
    repeat (first | refine w_q ?_ | refine w_s ?_ | refine w_t ?_ | refine w_k ?_ | refine y_q ?_ | refine y_s ?_ | refine y_t ?_ | refine y_k ?_ | refine u_n ?_ | refine u_q ?_ | refine u_g ?_ | refine u_d ?_ | refine u_b ?_ | refine u_x ?_ | refine u_r ?_ | refine u_s ?_ | refine w_r (q_build tyOk rfl rfl rfl rfl rfl rfl rfl rfl) (h := ?_) | refine y_r (q_build tyOk rfl rfl rfl rfl rfl rfl rfl rfl) (h := ?_))
    rw [bad (fun hc => by first | (simp only [h2a, Bool.false_eq_true, false_and, and_false] at hc; done) | omega)]
    (refine u_1 ?_; (repeat' (first | exact RetRelL.nil | refine RetRel.nil rfl ?_ | refine RetRelL.cons ?_ ?_ | refine rr_tup ?_ | refine rr_agg ?_ | refine rr_own rfl ?_ | exact RetRel.arg | exact RetRel.argc | refine rr_t ?_)); all_goals rfl)
  simp only [Bool.not_eq_false'] at h2a
  repeat (first | refine w_q ?_ | refine w_s ?_ | refine w_t ?_ | refine w_k ?_ | refine y_q ?_ | refine y_s ?_ | refine y_t ?_ | refine y_k ?_ | refine u_n ?_ | refine u_q ?_ | refine u_g ?_ | refine u_d ?_ | refine u_b ?_ | refine u_x ?_ | refine u_r ?_ | refine u_s ?_)
  (first | (refine c_q (areNotLess_c [s, k] (by simp)) (h := ?_)) | (refine z_q (areNotLess_c [s, k] (by simp)) (h := ?_)))
  repeat (first | refine w_q ?_ | refine w_s ?_ | refine w_t ?_ | refine w_k ?_ | refine y_q ?_ | refine y_s ?_ | refine y_t ?_ | refine y_k ?_ | refine u_n ?_ | refine u_q ?_ | refine u_g ?_ | refine u_d ?_ | refine u_b ?_ | refine u_x ?_ | refine u_r ?_ | refine u_s ?_)
  refine lex_if rfl rfl rfl (fun h34 => ?_) (fun h34 => ?_)
  · simp only [Bool.not_eq_true'] at h34
    repeat (first | refine w_q ?_ | refine w_s ?_ | refine w_t ?_ | refine w_k ?_ | refine y_q ?_ | refine y_s ?_ | refine y_t ?_ | refine y_k ?_ | refine u_n ?_ | refine u_q ?_ | refine u_g ?_ | refine u_d ?_ | refine u_b ?_ | refine u_x ?_ | refine u_r ?_ | refine u_s ?_ | refine w_r (q_build tyOk rfl rfl rfl rfl rfl rfl rfl rfl) (h := ?_) | refine y_r (q_build tyOk rfl rfl rfl rfl rfl rfl rfl rfl) (h := ?_))
    refine awp_ifT rfl rfl ?_
    repeat (first | refine w_q ?_ | refine w_s ?_ | refine w_t ?_ | refine w_k ?_ | refine y_q ?_ | refine y_s ?_ | refine y_t ?_ | refine y_k ?_ | refine u_n ?_ | refine u_q ?_ | refine u_g ?_ | refine u_d ?_ | refine u_b ?_ | refine u_x ?_ | refine u_r ?_ | refine u_s ?_ | refine w_r (q_build tyOk rfl rfl rfl rfl rfl rfl rfl rfl) (h := ?_) | refine y_r (q_build tyOk rfl rfl rfl rfl rfl rfl rfl rfl) (h := ?_))
    rw [bad (fun hc => by first | (simp only [h34, Bool.false_eq_true, false_and, and_false] at hc; done) | omega)]
    (refine u_1 ?_; (repeat' (first | exact RetRelL.nil | refine RetRel.nil rfl ?_ | refine RetRelL.cons ?_ ?_ | refine rr_tup ?_ | refine rr_agg ?_ | refine rr_own rfl ?_ | exact RetRel.arg | exact RetRel.argc | refine rr_t ?_)); all_goals rfl)
  simp only [Bool.not_eq_false'] at h34
  have h2 : above b = true := by simpa using h2a
  have h3 : least s = true := by simp at h34; exact h34.1
  have h4 : least k = true := by simp at h34; exact h34.2
  repeat (first | refine w_q ?_ | refine w_s ?_ | refine w_t ?_ | refine w_k ?_ | refine y_q ?_ | refine y_s ?_ | refine y_t ?_ | refine y_k ?_ | refine u_n ?_ | refine u_q ?_ | refine u_g ?_ | refine u_d ?_ | refine u_b ?_ | refine u_x ?_ | refine u_r ?_ | refine u_s ?_)
  refine awp_if rfl (fun h5 => ?_) (fun h5 => ?_)
  · simp only [Bool.not_eq_true'] at h5
    repeat (first | refine w_q ?_ | refine w_s ?_ | refine w_t ?_ | refine w_k ?_ | refine y_q ?_ | refine y_s ?_ | refine y_t ?_ | refine y_k ?_ | refine u_n ?_ | refine u_q ?_ | refine u_g ?_ | refine u_d ?_ | refine u_b ?_ | refine u_x ?_ | refine u_r ?_ | refine u_s ?_)
    rw [bad (fun hc => by simp only [h5, Bool.false_eq_true, false_and, and_false] at hc)]
    (refine u_1 ?_; (repeat' (first | exact RetRelL.nil | refine RetRel.nil rfl ?_ | refine RetRelL.cons ?_ ?_ | refine rr_tup ?_ | refine rr_agg ?_ | refine rr_own rfl ?_ | exact RetRel.arg | exact RetRel.argc | refine rr_t ?_)); all_goals rfl)
  simp only [Bool.not_eq_false'] at h5
  have hs := isSer_len h1
  have hll := shL_len a b s k
  repeat (first | refine w_q ?_ | refine w_s ?_ | refine w_t ?_ | refine w_k ?_ | refine u_n ?_ | refine u_q ?_ | refine u_g ?_ | refine u_d ?_ | refine u_b ?_ | refine u_x ?_ | refine u_r ?_ | refine u_s ?_)
  refine awp_loop (X := Nat) (fun i => i ≤ a.length) (fun i => [(0, .arg 0 (.fl a)), (1, .t (.f .f32 b)), (2, .t (.f .f32 s)), (3, .t (.f .f32 k)), (11, .t (.f .f32 (shV a b s k i))), (12, .own 46 0 i), (13, .t (.f .f32 (shS a b s k i))), (47, .arg 0 (.fl a)), (48, .t (.v (.int .i64 a.length))), (49, .t (.v (.int .i64 i)))]) (fun i => [(46, .sl 30 (.fl ((shL a b s k).take i)))]) (fun i => a.length - i)
    0 ⟨by omega, fun i => i, ⟨rfl, rfl, rfl, rfl, rfl, rfl, rfl, rfl, rfl, rfl, trivial⟩, ⟨rfl, trivial⟩, injOn_id _⟩ (fun i hi => ?_)
  have hz : ((shL a b s k).take i).length = i := by simp [hll]; omega
  repeat (first | refine w_q ?_ | refine w_s ?_ | refine w_t ?_ | refine w_k ?_ | refine u_n ?_ | refine u_q ?_ | refine u_g ?_ | refine u_d ?_ | refine u_b ?_ | refine u_x ?_ | refine u_r ?_ | refine u_s ?_)
  refine awp_if rfl (fun h => ?_) (fun h => ?_)
  · simp only [icmp, decide_eq_true_eq] at h
    have hget : (shL a b s k).getD i 0 = shV a b s k (i + 1) := getD_mapR _ (by omega)
    repeat (first | refine w_q ?_ | refine w_s ?_ | refine w_t ?_ | refine w_k ?_ | refine y_q ?_ | refine y_s ?_ | refine y_t ?_ | refine y_k ?_ | refine u_n ?_ | refine u_q ?_ | refine u_g ?_ | refine u_d ?_ | refine u_b ?_ | refine u_x ?_ | refine u_r ?_ | refine u_s ?_)
    refine awp_if rfl (fun hp => ?_) (fun hp => ?_)
    · simp only [icmp, decide_eq_true_eq] at hp
      have hv := shV_t (a := a) (b := b) (s := s) (k := k) (i := i) (by omega)
      repeat (first | refine w_q ?_ | refine w_s ?_ | refine w_t ?_ | refine w_k ?_ | refine y_q ?_ | refine y_s ?_ | refine y_t ?_ | refine y_k ?_ | refine u_n ?_ | refine u_q ?_ | refine u_g ?_ | refine u_d ?_ | refine u_b ?_ | refine u_x ?_ | refine u_r ?_ | refine u_s ?_)
      (first | (refine w_r (q_idx_tree (i - 1) tyOk rfl rfl rfl rfl rfl rfl rfl rfl (by omega) (by first | omega | (simp only [T.len]; omega) | assumption)) (h := ?_)) | (refine y_r (q_idx_tree (i - 1) tyOk rfl rfl rfl rfl rfl rfl rfl rfl (by omega) (by first | omega | (simp only [T.len]; omega) | assumption)) (h := ?_)))
      repeat (first | refine w_q ?_ | refine w_s ?_ | refine w_t ?_ | refine w_k ?_ | refine y_q ?_ | refine y_s ?_ | refine y_t ?_ | refine y_k ?_ | refine u_n ?_ | refine u_q ?_ | refine u_g ?_ | refine u_d ?_ | refine u_b ?_ | refine u_x ?_ | refine u_r ?_ | refine u_s ?_)
      rw [← hv]
      repeat (first | refine w_q ?_ | refine w_s ?_ | refine w_t ?_ | refine w_k ?_ | refine y_q ?_ | refine y_s ?_ | refine y_t ?_ | refine y_k ?_ | refine u_n ?_ | refine u_q ?_ | refine u_g ?_ | refine u_d ?_ | refine u_b ?_ | refine u_x ?_ | refine u_r ?_ | refine u_s ?_)
      (first | refine a_s (hn := by exact hz) (h := ?_) | refine b_s (hn := by exact hz) (h := ?_))
      repeat (first | refine w_q ?_ | refine w_s ?_ | refine w_t ?_ | refine w_k ?_ | refine y_q ?_ | refine y_s ?_ | refine y_t ?_ | refine y_k ?_ | refine u_n ?_ | refine u_q ?_ | refine u_g ?_ | refine u_d ?_ | refine u_b ?_ | refine u_x ?_ | refine u_r ?_ | refine u_s ?_)
      (first | (refine c_q (logNumber_c _ (shV_F a b s k (i + 1))) (h := ?_)) | (refine z_q (logNumber_c _ (shV_F a b s k (i + 1))) (h := ?_)))
      repeat (first | refine w_q ?_ | refine w_s ?_ | refine w_t ?_ | refine w_k ?_ | refine y_q ?_ | refine y_s ?_ | refine y_t ?_ | refine y_k ?_ | refine u_n ?_ | refine u_q ?_ | refine u_g ?_ | refine u_d ?_ | refine u_b ?_ | refine u_x ?_ | refine u_r ?_ | refine u_s ?_)
      exact ⟨i + 1, by omega, by omega, fun i => i, ⟨rfl, rfl, rfl, rfl, rfl, own_eq (by simp only [T.app, T.len, List.length_append, hz]; rfl), rfl, rfl, rfl, rfl, trivial⟩, ⟨sl_eq (congrArg T.fl (take_snoc (by omega) hget)), trivial⟩, injOn_id _⟩
    · simp only [icmp, decide_eq_false_iff_not] at hp
      have hv := shV_f (a := a) (b := b) (s := s) (k := k) (i := i) (by omega)
      rw [← hv]
      repeat (first | refine w_q ?_ | refine w_s ?_ | refine w_t ?_ | refine w_k ?_ | refine y_q ?_ | refine y_s ?_ | refine y_t ?_ | refine y_k ?_ | refine u_n ?_ | refine u_q ?_ | refine u_g ?_ | refine u_d ?_ | refine u_b ?_ | refine u_x ?_ | refine u_r ?_ | refine u_s ?_)
      (first | refine a_s (hn := by exact hz) (h := ?_) | refine b_s (hn := by exact hz) (h := ?_))
      repeat (first | refine w_q ?_ | refine w_s ?_ | refine w_t ?_ | refine w_k ?_ | refine y_q ?_ | refine y_s ?_ | refine y_t ?_ | refine y_k ?_ | refine u_n ?_ | refine u_q ?_ | refine u_g ?_ | refine u_d ?_ | refine u_b ?_ | refine u_x ?_ | refine u_r ?_ | refine u_s ?_)
      (first | (refine c_q (logNumber_c _ (shV_F a b s k (i + 1))) (h := ?_)) | (refine z_q (logNumber_c _ (shV_F a b s k (i + 1))) (h := ?_)))
      repeat (first | refine w_q ?_ | refine w_s ?_ | refine w_t ?_ | refine w_k ?_ | refine y_q ?_ | refine y_s ?_ | refine y_t ?_ | refine y_k ?_ | refine u_n ?_ | refine u_q ?_ | refine u_g ?_ | refine u_d ?_ | refine u_b ?_ | refine u_x ?_ | refine u_r ?_ | refine u_s ?_)
      exact ⟨i + 1, by omega, by omega, fun i => i, ⟨rfl, rfl, rfl, rfl, rfl, own_eq (by simp only [T.app, T.len, List.length_append, hz]; rfl), rfl, rfl, rfl, rfl, trivial⟩, ⟨sl_eq (congrArg T.fl (take_snoc (by omega) hget)), trivial⟩, injOn_id _⟩
  · simp only [icmp, decide_eq_false_iff_not] at h
    have : i = a.length := by omega
    subst this
    have hfull : (shL a b s k).take a.length = shL a b s k := List.take_of_length_le (by omega)
    rw [hfull]
    repeat (first | refine w_q ?_ | refine w_s ?_ | refine w_t ?_ | refine w_k ?_ | refine u_n ?_ | refine u_q ?_ | refine u_g ?_ | refine u_d ?_ | refine u_b ?_ | refine u_x ?_ | refine u_r ?_ | refine u_s ?_)
    (first | (refine c_q (areFinite_c (shL a b s k) (by omega)) (h := ?_)) | (refine z_q (areFinite_c (shL a b s k) (by omega)) (h := ?_)))
    repeat (first | refine w_q ?_ | refine w_s ?_ | refine w_t ?_ | refine w_k ?_ | refine u_n ?_ | refine u_q ?_ | refine u_g ?_ | refine u_d ?_ | refine u_b ?_ | refine u_x ?_ | refine u_r ?_ | refine u_s ?_)
    refine lex_if rfl rfl rfl (fun h6 => ?_) (fun h6 => ?_)
    · simp only [Bool.not_eq_true'] at h6
      repeat (first | refine w_q ?_ | refine w_s ?_ | refine w_t ?_ | refine w_k ?_ | refine u_n ?_ | refine u_q ?_ | refine u_g ?_ | refine u_d ?_ | refine u_b ?_ | refine u_x ?_ | refine u_r ?_ | refine u_s ?_)
      refine awp_ifT rfl rfl ?_
      repeat (first | refine w_q ?_ | refine w_s ?_ | refine w_t ?_ | refine w_k ?_ | refine u_n ?_ | refine u_q ?_ | refine u_g ?_ | refine u_d ?_ | refine u_b ?_ | refine u_x ?_ | refine u_r ?_ | refine u_s ?_)
      rw [show shockF a b s k = ([], 0, false) by unfold shockF; rw [h6]; simp]
      (refine u_1 ?_; (repeat' (first | exact RetRelL.nil | refine RetRel.nil rfl ?_ | refine RetRelL.cons ?_ ?_ | refine rr_tup ?_ | refine rr_agg ?_ | refine rr_own rfl ?_ | exact RetRel.arg | exact RetRel.argc | refine rr_t ?_)); all_goals rfl)
    simp only [Bool.not_eq_false'] at h6
    repeat (first | refine w_q ?_ | refine w_s ?_ | refine w_t ?_ | refine w_k ?_ | refine u_n ?_ | refine u_q ?_ | refine u_g ?_ | refine u_d ?_ | refine u_b ?_ | refine u_x ?_ | refine u_r ?_ | refine u_s ?_)
    (first | refine c_q (isFinite_c _) (h := ?_) | refine z_q (isFinite_c _) (h := ?_))
    repeat (first | refine w_q ?_ | refine w_s ?_ | refine w_t ?_ | refine w_k ?_ | refine u_n ?_ | refine u_q ?_ | refine u_g ?_ | refine u_d ?_ | refine u_b ?_ | refine u_x ?_ | refine u_r ?_ | refine u_s ?_)
    refine awp_if rfl (fun h7 => ?_) (fun h7 => ?_)
    · simp only [Bool.not_eq_true'] at h7
      repeat (first | refine w_q ?_ | refine w_s ?_ | refine w_t ?_ | refine w_k ?_ | refine u_n ?_ | refine u_q ?_ | refine u_g ?_ | refine u_d ?_ | refine u_b ?_ | refine u_x ?_ | refine u_r ?_ | refine u_s ?_)
      rw [show shockF a b s k = ([], 0, false) by unfold shockF; rw [h7]; simp]
      (refine u_1 ?_; (repeat' (first | exact RetRelL.nil | refine RetRel.nil rfl ?_ | refine RetRelL.cons ?_ ?_ | refine rr_tup ?_ | refine rr_agg ?_ | refine rr_own rfl ?_ | exact RetRel.arg | exact RetRel.argc | refine rr_t ?_)); all_goals rfl)
    simp only [Bool.not_eq_false'] at h7
    repeat (first | refine w_q ?_ | refine w_s ?_ | refine w_t ?_ | refine w_k ?_ | refine u_n ?_ | refine u_q ?_ | refine u_g ?_ | refine u_d ?_ | refine u_b ?_ | refine u_x ?_ | refine u_r ?_ | refine u_s ?_)
    rw [show shockF a b s k = (shL a b s k, shS a b s k a.length, true) by unfold shockF; rw [h1, h2, h3, h4, h5, h6, h7]; rfl]
    refine ret_ok tyOk (by first | exact .inr rfl | exact .inl rfl) (pi1 46) rfl (by repeat (first | exact .nil | (apply ResAl.cons; first | exact .tmp | exact .cell rfl rfl rfl rfl rfl rfl | exact .cell1 rfl rfl rfl rfl rfl))) ?_ ⟨rfl, trivial⟩ (injO_1 _ _ _)
    repeat' (first | exact RetRelL.nil | refine RetRel.nil rfl ?_ | refine RetRelL.cons ?_ ?_ | refine rr_tup ?_ | refine rr_agg ?_ | refine rr_own rfl ?_ | exact RetRel.arg | exact RetRel.argc | refine rr_t ?_)
    all_goals first | rfl | exact hll.symm
end Go.Proofs.Ytpdnjcblkjjegaa

