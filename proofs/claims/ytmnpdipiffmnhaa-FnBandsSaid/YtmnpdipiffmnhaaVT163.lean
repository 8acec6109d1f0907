import Derived.Test.YtmnpdipiffmnhaaVT162
set_option linter.unusedVariables false
set_option linter.unusedSimpArgs false
set_option maxRecDepth 20000
set_option maxHeartbeats 8000000
namespace Go.Proofs.Ytmnpdipiffmnhaa
open Go.Aw
attribute [local irreducible] QRun LexD AWp TCall TMut fop fint fcmp fconv swC insC sortF Fnt rv

/-! ### two parts in order become one in order: where they are cut -/
theorem app_atB (P A B S : List Nat) {i t : Nat} (h : i = P.length + A.length + t) (ht : t < B.length) : (P ++ A ++ B ++ S).getD i 0 = B.getD t 0 := app_at (P ++ A) B S (by simp; omega) ht
theorem app_atA (P A B S : List Nat) {i t : Nat} (h : i = P.length + t) (ht : t < A.length) : (P ++ A ++ B ++ S).getD i 0 = A.getD t 0 := by rw [List.append_assoc]; exact app_at P A (B ++ S) h ht
def SmI (A B : List Nat) (M s0 r0 : Nat) (x : Nat × Nat) : Prop := s0 ≤ x.1 ∧ x.1 ≤ x.2 ∧ x.2 ≤ r0 ∧ (∀ t, s0 ≤ t → t < x.1 → kk (A.getD t 0) ≤ kk (B.getD (M - 1 - t) 0)) ∧ ∀ t, x.2 ≤ t → t < r0 → kk (B.getD (M - 1 - t) 0) < kk (A.getD t 0)
theorem sm_6 {d : Nat} (hIH : MergeC d) (N : Nat) (P A B S L L' : List Nat) (a m b M s0 r0 : Nat) (hd : A.length + B.length ≤ d + 1) (h1 : 1 ≤ A.length) (h2 : 1 ≤ B.length) (hN : L.length = N) (hN2 : N ≤ 1048576) (hA : Srt A) (hB : Srt B) (hf : ∀ x ∈ A ++ B, Fnt .f32 x) (hL : L = P ++ A ++ B ++ S) (hL' : L' = P ++ sortF (A ++ B) ++ S)
    (ha : a = P.length) (hm : m = P.length + A.length) (hb : b = P.length + A.length + B.length) (hM : M = (A.length + B.length) / 2) (h0 : (M < A.length ∧ s0 = M - B.length ∧ r0 = M) ∨ (A.length ≤ M ∧ s0 = 0 ∧ r0 = A.length)) :
    AWp Try.prog Try.f228.ntmps (tlF Try.f228 6) (smR N (a : Nat) (m : Nat) (b : Nat) L')
      (lkF [(0, .argo 0 900 0 N), (1, .t (.v (.int .i64 (a : Nat)))), (2, .t (.v (.int .i64 (m : Nat)))), (3, .t (.v (.int .i64 (b : Nat)))), (4, .arg 4 (.fn 214 [])), (18, .t (.v (.int .i64 ((a + M : Nat) : Int)))), (19, .t (.v (.int .i64 ((a + M + m : Nat) : Int)))), (20, .t (.v (.int .i64 ((a + s0 : Nat) : Int)))), (21, .t (.v (.int .i64 ((a + r0 : Nat) : Int))))]) (lkH [(900, .sl 30 (.fl L))]) := by
  have hsum : b ≤ N := by rw [← hN, hL]; simp; omega
  repeat (first | (refine w_q (h := ?_)) | (refine w_s (h := ?_)) | (refine w_t (h := ?_)) | (refine w_k (h := ?_)) | (refine y_q (h := ?_)) | (refine y_s (h := ?_)) | (refine y_t (h := ?_)) | (refine y_k (h := ?_)) | (refine lex_nil (by kernel_rfl) ?_) | (refine awp_sq ?_) | (refine awp_rg ?_) | (refine awp_rd (by kernel_rfl) (by kernel_rfl) ?_) | (refine awp_block ?_) | (refine awp_exit ?_) | (refine awp_ret ?_) | (refine awp_skip ?_))
  refine awp_loop (X := Nat × Nat) (SmI A B M s0 r0) (fun x => [(0, .argo 0 900 0 N), (1, .t (.v (.int .i64 (a : Nat)))), (2, .t (.v (.int .i64 (m : Nat)))), (3, .t (.v (.int .i64 (b : Nat)))), (4, .arg 4 (.fn 214 [])), (18, .t (.v (.int .i64 ((a + M : Nat) : Int)))), (19, .t (.v (.int .i64 ((a + M + m : Nat) : Int)))), (20, .t (.v (.int .i64 ((a + x.1 : Nat) : Int)))), (21, .t (.v (.int .i64 ((a + x.2 : Nat) : Int)))), (22, .t (.v (.int .i64 ((a + M + m - 1 : Nat) : Int))))])
    (fun x => [(900, .sl 30 (.fl L))]) (fun x => x.2 - x.1)
    (s0, r0) ⟨⟨Nat.le_refl _, by simp only []; omega, Nat.le_refl _, fun t g1 g2 => by simp only [] at g2; omega, fun t g1 g2 => by simp only [] at g1; omega⟩, fun i => i, ⟨rfl, rfl, rfl, rfl, rfl, rfl, rfl, rfl, rfl, iESo (by omega), trivial⟩, ⟨rfl, trivial⟩, injOn_id _⟩ (fun x hx => ?_)
  obtain ⟨s, r⟩ := x
  obtain ⟨q1, q2, q3, q4, q5⟩ := hx
  simp only [] at q1 q2 q3 q4 q5
  dsimp only
  repeat (first | (refine w_q (h := ?_)) | (refine w_s (h := ?_)) | (refine w_t (h := ?_)) | (refine w_k (h := ?_)) | (refine y_q (h := ?_)) | (refine y_s (h := ?_)) | (refine y_t (h := ?_)) | (refine y_k (h := ?_)) | (refine lex_nil (by kernel_rfl) ?_) | (refine awp_sq ?_) | (refine awp_rg ?_) | (refine awp_rd (by kernel_rfl) (by kernel_rfl) ?_) | (refine awp_block ?_) | (refine awp_exit ?_) | (refine awp_ret ?_) | (refine awp_skip ?_))
  refine awp_if rfl (fun h => ?_) (fun h => ?_)
  · simp only [icmp, decide_eq_true_eq] at h
    have hsr : s < r := by omega
    have hc1 : (a + s + (a + r)) / 2 = a + (s + r) / 2 := by omega
    generalize hc : (s + r) / 2 = c at *
    have hca : c < A.length := by omega
    have hcb : M - 1 - c < B.length := by omega
    have hcM : c < M := by omega
    have hga := app_atA P A B S (i := 0 + (a + c)) (by omega) hca
    have hgb := app_atB P A B S (i := 0 + (a + A.length + (M - 1 - c))) (by omega) hcb
    rw [← hL] at hga hgb
    have hfa := hf _ (List.mem_append_left B (mem_at hca))
    have hfb := hf _ (List.mem_append_right A (mem_at hcb))
    repeat (first | (refine w_q (h := ?_)) | (refine w_s (h := ?_)) | (refine w_t (h := ?_)) | (refine w_k (h := ?_)) | (refine y_q (h := ?_)) | (refine y_s (h := ?_)) | (refine y_t (h := ?_)) | (refine y_k (h := ?_)) | (refine lex_nil (by kernel_rfl) ?_) | (refine awp_sq ?_) | (refine awp_rg ?_) | (refine awp_rd (by kernel_rfl) (by kernel_rfl) ?_) | (refine awp_block ?_) | (refine awp_exit ?_) | (refine awp_ret ?_) | (refine awp_skip ?_))
    (first | (refine w_r (q_i2u (a + s + (a + r)) (by omega) (by omega) tyOk rfl rfl rfl rfl rfl) (h := ?_)) | (refine y_r (q_i2u (a + s + (a + r)) (by omega) (by omega) tyOk rfl rfl rfl rfl rfl) (h := ?_)))
    repeat (first | (refine w_q (h := ?_)) | (refine w_s (h := ?_)) | (refine w_t (h := ?_)) | (refine w_k (h := ?_)) | (refine y_q (h := ?_)) | (refine y_s (h := ?_)) | (refine y_t (h := ?_)) | (refine y_k (h := ?_)) | (refine lex_nil (by kernel_rfl) ?_) | (refine awp_sq ?_) | (refine awp_rg ?_) | (refine awp_rd (by kernel_rfl) (by kernel_rfl) ?_) | (refine awp_block ?_) | (refine awp_exit ?_) | (refine awp_ret ?_) | (refine awp_skip ?_))
    (first | (refine w_r (q_sh1 rfl rfl rfl) (h := ?_)) | (refine y_r (q_sh1 rfl rfl rfl) (h := ?_)))
    repeat (first | (refine w_q (h := ?_)) | (refine w_s (h := ?_)) | (refine w_t (h := ?_)) | (refine w_k (h := ?_)) | (refine y_q (h := ?_)) | (refine y_s (h := ?_)) | (refine y_t (h := ?_)) | (refine y_k (h := ?_)) | (refine lex_nil (by kernel_rfl) ?_) | (refine awp_sq ?_) | (refine awp_rg ?_) | (refine awp_rd (by kernel_rfl) (by kernel_rfl) ?_) | (refine awp_block ?_) | (refine awp_exit ?_) | (refine awp_ret ?_) | (refine awp_skip ?_))
    rw [hc1]
    (first | (refine w_r (q_u2i (a + c) (by omega) tyOk rfl rfl rfl rfl rfl) (h := ?_)) | (refine y_r (q_u2i (a + c) (by omega) tyOk rfl rfl rfl rfl rfl) (h := ?_)))
    repeat (first | (refine w_q (h := ?_)) | (refine w_s (h := ?_)) | (refine w_t (h := ?_)) | (refine w_k (h := ?_)) | (refine y_q (h := ?_)) | (refine y_s (h := ?_)) | (refine y_t (h := ?_)) | (refine y_k (h := ?_)) | (refine lex_nil (by kernel_rfl) ?_) | (refine awp_sq ?_) | (refine awp_rg ?_) | (refine awp_rd (by kernel_rfl) (by kernel_rfl) ?_) | (refine awp_block ?_) | (refine awp_exit ?_) | (refine awp_ret ?_) | (refine awp_skip ?_) | (first | (refine w_r (q_idx_own (a + A.length + (M - 1 - c)) tyOk rfl rfl rfl rfl rfl rfl rfl (by omega) (by first | omega | (simp only [T.len]; omega) | assumption)) (h := ?_)) | (refine y_r (q_idx_own (a + A.length + (M - 1 - c)) tyOk rfl rfl rfl rfl rfl rfl rfl (by omega) (by first | omega | (simp only [T.len]; omega) | assumption)) (h := ?_))) | (first | (refine w_r (q_idx_own (a + c) tyOk rfl rfl rfl rfl rfl rfl rfl (by omega) (by first | omega | (simp only [T.len]; omega) | assumption)) (h := ?_)) | (refine y_r (q_idx_own (a + c) tyOk rfl rfl rfl rfl rfl rfl rfl (by omega) (by first | omega | (simp only [T.len]; omega) | assumption)) (h := ?_))))
    rw [hga, hgb]
    (first | (refine c_q (sorted1_c _ _) (h := ?_)) | (refine z_q (sorted1_c _ _) (h := ?_)))
    repeat (first | (refine w_q (h := ?_)) | (refine w_s (h := ?_)) | (refine w_t (h := ?_)) | (refine w_k (h := ?_)) | (refine y_q (h := ?_)) | (refine y_s (h := ?_)) | (refine y_t (h := ?_)) | (refine y_k (h := ?_)) | (refine lex_nil (by kernel_rfl) ?_) | (refine awp_sq ?_) | (refine awp_rg ?_) | (refine awp_rd (by kernel_rfl) (by kernel_rfl) ?_) | (refine awp_block ?_) | (refine awp_exit ?_) | (refine awp_ret ?_) | (refine awp_skip ?_))
    refine awp_if rfl (fun h3 => ?_) (fun h3 => ?_)
    · rw [cmpI_neg, Bool.not_eq_true', lss_rv hfb hfa] at h3
      have h3 := Rat.not_lt.1 (of_decide_eq_false h3)
      repeat (first | (refine w_q (h := ?_)) | (refine w_s (h := ?_)) | (refine w_t (h := ?_)) | (refine w_k (h := ?_)) | (refine y_q (h := ?_)) | (refine y_s (h := ?_)) | (refine y_t (h := ?_)) | (refine y_k (h := ?_)) | (refine lex_nil (by kernel_rfl) ?_) | (refine awp_sq ?_) | (refine awp_rg ?_) | (refine awp_rd (by kernel_rfl) (by kernel_rfl) ?_) | (refine awp_block ?_) | (refine awp_exit ?_) | (refine awp_ret ?_) | (refine awp_skip ?_))
      exact ⟨(c + 1, r), by simp only []; omega, ⟨by simp only []; omega, by simp only []; omega, q3, fun t g1 g2 => Rat.le_trans (srt_at hA (show t ≤ c by simp only [] at g2; omega) hca) (Rat.le_trans h3 (srt_at hB (show M - 1 - c ≤ M - 1 - t by simp only [] at g2; omega) (by omega))), q5⟩, fun i => i, ⟨rfl, rfl, rfl, rfl, rfl, rfl, rfl, iESo (by simp only []; omega), rfl, rfl, trivial⟩, ⟨rfl, trivial⟩, injOn_id _⟩
    · rw [cmpI_neg, Bool.not_eq_false', lss_rv hfb hfa] at h3
      have h3 := of_decide_eq_true h3
      repeat (first | (refine w_q (h := ?_)) | (refine w_s (h := ?_)) | (refine w_t (h := ?_)) | (refine w_k (h := ?_)) | (refine y_q (h := ?_)) | (refine y_s (h := ?_)) | (refine y_t (h := ?_)) | (refine y_k (h := ?_)) | (refine lex_nil (by kernel_rfl) ?_) | (refine awp_sq ?_) | (refine awp_rg ?_) | (refine awp_rd (by kernel_rfl) (by kernel_rfl) ?_) | (refine awp_block ?_) | (refine awp_exit ?_) | (refine awp_ret ?_) | (refine awp_skip ?_))
      exact ⟨(s, c), by simp only []; omega, ⟨q1, by simp only []; omega, by simp only []; omega, q4, fun t g1 g2 => by
        simp only [] at g1
        have k1 := srt_at hA (show c ≤ t from g1) (by omega)
        have k2 := srt_at hB (show M - 1 - t ≤ M - 1 - c by omega) hcb
        grind⟩, fun i => i, ⟨rfl, rfl, rfl, rfl, rfl, rfl, rfl, rfl, rfl, rfl, trivial⟩, ⟨rfl, trivial⟩, injOn_id _⟩
  simp only [icmp, decide_eq_false_iff_not] at h
  obtain rfl : s = r := by omega
  have hmeet := meet_ok hf hA hB hM h0 ⟨q1, q3⟩ q4 q5
  have hA1 : Srt (A.take s ++ A.drop s) := by rw [List.take_append_drop]; exact hA
  have hB1 : Srt (B.take (M - s) ++ B.drop (M - s)) := by rw [List.take_append_drop]; exact hB
  have pA := List.pairwise_append.1 hA1
  have pB := List.pairwise_append.1 hB1
  have lA1 : (A.take s).length = s := by rw [List.length_take]; omega
  have lA2 : (A.drop s).length = A.length - s := List.length_drop ..
  have lB1 : (B.take (M - s)).length = M - s := by rw [List.length_take]; omega
  have lB2 : (B.drop (M - s)).length = B.length - (M - s) := List.length_drop ..
  have hf1 : ∀ x ∈ A.take s ++ B.take (M - s), Fnt .f32 x := fun x hx => hf x ((List.mem_append.1 hx).elim (fun h => List.mem_append_left _ (List.mem_of_mem_take h)) (fun h => List.mem_append_right _ (List.mem_of_mem_take h)))
  have hf2 : ∀ x ∈ A.drop s ++ B.drop (M - s), Fnt .f32 x := fun x hx => hf x ((List.mem_append.1 hx).elim (fun h => List.mem_append_left _ (List.mem_of_mem_drop h)) (fun h => List.mem_append_right _ (List.mem_of_mem_drop h)))
  have hL2 : L = P ++ A.take s ++ A.drop s ++ B.take (M - s) ++ (B.drop (M - s) ++ S) := by
    rw [hL]
    conv => lhs; rw [← List.take_append_drop s A, ← List.take_append_drop (M - s) B]
    simp only [List.append_assoc]
  have hgo : ∀ L1, L1 = P ++ A.take s ++ B.take (M - s) ++ A.drop s ++ B.drop (M - s) ++ S → AWp Try.prog Try.f228.ntmps (tlF Try.f228 10) (smR N (a : Nat) (m : Nat) (b : Nat) L')
      (lkF [(0, .argo 0 900 0 N), (1, .t (.v (.int .i64 (a : Nat)))), (3, .t (.v (.int .i64 (b : Nat)))), (4, .arg 4 (.fn 214 [])), (18, .t (.v (.int .i64 ((a + M : Nat) : Int)))), (20, .t (.v (.int .i64 ((a + s : Nat) : Int)))), (24, .t (.v (.int .i64 ((m + (M - s) : Nat) : Int))))]) (lkH [(900, .sl 30 (.fl L1))]) := fun L1 hL1 =>
    sm_10 hIH N _ P (A.take s) (B.take (M - s)) (A.drop s) (B.drop (M - s)) S L1 L' a (a + s) (a + M) (m + (M - s)) b (by omega) (by omega) (by rw [hL1, ← hN, hL2]; simp only [List.length_append]; omega) hN2 pA.1 pB.1 pA.2.1 pB.2.1 hf1 hf2 hL1 (by rw [hL', hmeet]) ha (by omega) (by omega) (by omega) (by omega)
  clear hmeet hA1 hB1 pA pB
  have hen : ((a + M + m : Nat) : Int) - ((a + s : Nat) : Int) = ((m + (M - s) : Nat) : Int) := by omega
  repeat (first | (refine w_q (h := ?_)) | (refine w_s (h := ?_)) | (refine w_t (h := ?_)) | (refine w_k (h := ?_)) | (refine y_q (h := ?_)) | (refine y_s (h := ?_)) | (refine y_t (h := ?_)) | (refine y_k (h := ?_)) | (refine lex_nil (by kernel_rfl) ?_) | (refine awp_sq ?_) | (refine awp_rg ?_) | (refine awp_rd (by kernel_rfl) (by kernel_rfl) ?_) | (refine awp_block ?_) | (refine awp_exit ?_) | (refine awp_ret ?_) | (refine awp_skip ?_))
  rw [hen]
  refine lex_if rfl rfl rfl (fun h5 => ?_) (fun h5 => ?_)
  · simp only [icmp, decide_eq_true_eq] at h5
    repeat (first | (refine w_q (h := ?_)) | (refine w_s (h := ?_)) | (refine w_t (h := ?_)) | (refine w_k (h := ?_)) | (refine y_q (h := ?_)) | (refine y_s (h := ?_)) | (refine y_t (h := ?_)) | (refine y_k (h := ?_)) | (refine lex_nil (by kernel_rfl) ?_) | (refine awp_sq ?_) | (refine awp_rg ?_) | (refine awp_rd (by kernel_rfl) (by kernel_rfl) ?_) | (refine awp_block ?_) | (refine awp_exit ?_) | (refine awp_ret ?_) | (refine awp_skip ?_))
    refine awp_if rfl (fun h6 => ?_) (fun h6 => ?_)
    · simp only [icmp, decide_eq_true_eq] at h6
      repeat (first | (refine w_q (h := ?_)) | (refine w_s (h := ?_)) | (refine w_t (h := ?_)) | (refine w_k (h := ?_)) | (refine y_q (h := ?_)) | (refine y_s (h := ?_)) | (refine y_t (h := ?_)) | (refine y_k (h := ?_)) | (refine lex_nil (by kernel_rfl) ?_) | (refine awp_sq ?_) | (refine awp_rg ?_) | (refine awp_rd (by kernel_rfl) (by kernel_rfl) ?_) | (refine awp_block ?_) | (refine awp_exit ?_) | (refine awp_ret ?_) | (refine awp_skip ?_))
      (refine m_s [(900, _)] (rotate_c N (P ++ A.take s) (A.drop s) (B.take (M - s)) (B.drop (M - s) ++ S) L (P ++ A.take s ++ B.take (M - s) ++ A.drop s ++ B.drop (M - s) ++ S) ((a + s : Nat) : Int) (m : Nat) ((m + (M - s) : Nat) : Int) hN hN2 (by omega) (by omega) hL2 (by simp only [List.append_assoc]) (by rw [List.length_append]; omega) (by rw [List.length_append]; omega) (by rw [List.length_append]; omega)) (h := ?_))
      repeat (first | (refine w_q (h := ?_)) | (refine w_s (h := ?_)) | (refine w_t (h := ?_)) | (refine w_k (h := ?_)))
      refine lex_nil (by kernel_rfl) ?_
      refine awp_weak (fun i => i) _ _ (by exact ⟨rfl, rfl, rfl, rfl, rfl, rfl, rfl, trivial⟩) (by exact ⟨rfl, trivial⟩) (injOn_id _) (hgo _ rfl)
    · simp only [icmp, decide_eq_false_iff_not] at h6
      have hB0 : B.take (M - s) = [] := List.length_eq_zero_iff.1 (by omega)
      refine awp_skip ?_
      refine awp_weak (fun i => i) _ _ (by exact ⟨rfl, rfl, rfl, rfl, rfl, rfl, rfl, trivial⟩) (by exact ⟨rfl, trivial⟩) (injOn_id _) (hgo L (by rw [hL2, hB0]; simp only [List.append_assoc, List.append_nil, List.nil_append]))
  · simp only [icmp, decide_eq_false_iff_not] at h5
    have hA0 : A.drop s = [] := List.length_eq_zero_iff.1 (by omega)
    repeat (first | (refine w_q (h := ?_)) | (refine w_s (h := ?_)) | (refine w_t (h := ?_)) | (refine w_k (h := ?_)))
    refine lex_nil (by kernel_rfl) ?_
    refine awp_ifF rfl rfl ?_
    refine awp_skip ?_
    refine awp_weak (fun i => i) _ _ (by exact ⟨rfl, rfl, rfl, rfl, rfl, rfl, rfl, trivial⟩) (by exact ⟨rfl, trivial⟩) (injOn_id _) (hgo L (by rw [hL2, hA0]; simp only [List.append_assoc, List.append_nil, List.nil_append]))
end Go.Proofs.Ytmnpdipiffmnhaa

