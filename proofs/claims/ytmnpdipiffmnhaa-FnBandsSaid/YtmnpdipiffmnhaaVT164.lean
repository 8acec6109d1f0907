import Derived.Test.YtmnpdipiffmnhaaVT163
set_option linter.unusedVariables false
set_option linter.unusedSimpArgs false
set_option maxRecDepth 20000
set_option maxHeartbeats 8000000
namespace Go.Proofs.Ytmnpdipiffmnhaa
open Go.Aw
attribute [local irreducible] QRun LexD AWp TCall TMut fop fint fcmp fconv swC insC sortF Fnt rv

/-! ### two parts in order become one in order: the whole -/
theorem sm_2 {d : Nat} (hIH : MergeC d) (N : Nat) (P A B S L L' : List Nat) (a m b : Nat) (hd : A.length + B.length ≤ d + 1) (h1 : 1 ≤ A.length) (h2 : 1 ≤ B.length) (hN : L.length = N) (hN2 : N ≤ 1048576) (hA : Srt A) (hB : Srt B) (hf : ∀ x ∈ A ++ B, Fnt .f32 x) (hL : L = P ++ A ++ B ++ S) (hL' : L' = P ++ sortF (A ++ B) ++ S)
    (ha : a = P.length) (hm : m = P.length + A.length) (hb : b = P.length + A.length + B.length) :
    AWp Try.prog Try.f228.ntmps (tlF Try.f228 2) (smR N (a : Nat) (m : Nat) (b : Nat) L')
      (lkF [(0, .argo 0 900 0 N), (1, .t (.v (.int .i64 (a : Nat)))), (2, .t (.v (.int .i64 (m : Nat)))), (3, .t (.v (.int .i64 (b : Nat)))), (4, .arg 4 (.fn 214 []))]) (lkH [(900, .sl 30 (.fl L))]) := by
  have hsum : b ≤ N := by rw [← hN, hL]; simp; omega
  obtain ⟨M, hM⟩ : ∃ M, M = (A.length + B.length) / 2 := ⟨_, rfl⟩
  have hmid : (a + b) / 2 = a + M := by omega
  repeat (first | (refine w_q (h := ?_)) | (refine w_s (h := ?_)) | (refine w_t (h := ?_)) | (refine w_k (h := ?_)) | (refine y_q (h := ?_)) | (refine y_s (h := ?_)) | (refine y_t (h := ?_)) | (refine y_k (h := ?_)) | (refine lex_nil (by kernel_rfl) ?_) | (refine awp_sq ?_) | (refine awp_rg ?_) | (refine awp_rd (by kernel_rfl) (by kernel_rfl) ?_) | (refine awp_block ?_) | (refine awp_exit ?_) | (refine awp_ret ?_) | (refine awp_skip ?_))
  (first | (refine w_r (q_i2u (a + b) (by omega) (by omega) tyOk rfl rfl rfl rfl rfl) (h := ?_)) | (refine y_r (q_i2u (a + b) (by omega) (by omega) tyOk rfl rfl rfl rfl rfl) (h := ?_)))
  repeat (first | (refine w_q (h := ?_)) | (refine w_s (h := ?_)) | (refine w_t (h := ?_)) | (refine w_k (h := ?_)) | (refine y_q (h := ?_)) | (refine y_s (h := ?_)) | (refine y_t (h := ?_)) | (refine y_k (h := ?_)) | (refine lex_nil (by kernel_rfl) ?_) | (refine awp_sq ?_) | (refine awp_rg ?_) | (refine awp_rd (by kernel_rfl) (by kernel_rfl) ?_) | (refine awp_block ?_) | (refine awp_exit ?_) | (refine awp_ret ?_) | (refine awp_skip ?_))
  (first | (refine w_r (q_sh1 rfl rfl rfl) (h := ?_)) | (refine y_r (q_sh1 rfl rfl rfl) (h := ?_)))
  repeat (first | (refine w_q (h := ?_)) | (refine w_s (h := ?_)) | (refine w_t (h := ?_)) | (refine w_k (h := ?_)) | (refine y_q (h := ?_)) | (refine y_s (h := ?_)) | (refine y_t (h := ?_)) | (refine y_k (h := ?_)) | (refine lex_nil (by kernel_rfl) ?_) | (refine awp_sq ?_) | (refine awp_rg ?_) | (refine awp_rd (by kernel_rfl) (by kernel_rfl) ?_) | (refine awp_block ?_) | (refine awp_exit ?_) | (refine awp_ret ?_) | (refine awp_skip ?_))
  rw [hmid]
  (first | (refine w_r (q_u2i (a + M) (by omega) tyOk rfl rfl rfl rfl rfl) (h := ?_)) | (refine y_r (q_u2i (a + M) (by omega) tyOk rfl rfl rfl rfl rfl) (h := ?_)))
  repeat (first | (refine w_q (h := ?_)) | (refine w_s (h := ?_)) | (refine w_t (h := ?_)) | (refine w_k (h := ?_)) | (refine y_q (h := ?_)) | (refine y_s (h := ?_)) | (refine y_t (h := ?_)) | (refine y_k (h := ?_)) | (refine lex_nil (by kernel_rfl) ?_) | (refine awp_sq ?_) | (refine awp_rg ?_) | (refine awp_rd (by kernel_rfl) (by kernel_rfl) ?_) | (refine awp_block ?_) | (refine awp_exit ?_) | (refine awp_ret ?_) | (refine awp_skip ?_))
  refine awp_if rfl (fun h => ?_) (fun h => ?_)
  · simp only [icmp, decide_eq_true_eq] at h
    refine awp_sq ?_
    refine awp_rg ?_
    repeat (first | (refine w_q (h := ?_)) | (refine w_s (h := ?_)) | (refine w_t (h := ?_)) | (refine w_k (h := ?_)))
    refine lex_nil (by kernel_rfl) ?_
    refine awp_rg ?_
    repeat (first | (refine w_q (h := ?_)) | (refine w_s (h := ?_)) | (refine w_t (h := ?_)) | (refine w_k (h := ?_)))
    refine lex_nil (by kernel_rfl) ?_
    refine awp_weak (fun i => i) _ _ (by exact ⟨rfl, rfl, rfl, rfl, rfl, rfl, iESo (Int.natCast_add _ _), iESo (by omega), rfl, trivial⟩) (by exact ⟨rfl, trivial⟩) (injOn_id _) (sm_6 hIH N P A B S L L' a m b M (M - B.length) M hd h1 h2 hN hN2 hA hB hf hL hL' ha hm hb hM (.inl ⟨by omega, rfl, rfl⟩))
  · simp only [icmp, decide_eq_false_iff_not] at h
    refine awp_sq ?_
    refine awp_rg ?_
    repeat (first | (refine w_q (h := ?_)) | (refine w_s (h := ?_)) | (refine w_t (h := ?_)) | (refine w_k (h := ?_)))
    refine lex_nil (by kernel_rfl) ?_
    refine awp_rg ?_
    repeat (first | (refine w_q (h := ?_)) | (refine w_s (h := ?_)) | (refine w_t (h := ?_)) | (refine w_k (h := ?_)))
    refine lex_nil (by kernel_rfl) ?_
    refine awp_weak (fun i => i) _ _ (by exact ⟨rfl, rfl, rfl, rfl, rfl, rfl, iESo (Int.natCast_add _ _), iESo (by omega), iESo (by omega), trivial⟩) (by exact ⟨rfl, trivial⟩) (injOn_id _) (sm_6 hIH N P A B S L L' a m b M 0 A.length hd h1 h2 hN hN2 hA hB hf hL hL' ha hm hb hM (.inr ⟨by omega, rfl, rfl⟩))
def BsI (p : Nat → Prop) (q : Nat → Prop) (n : Nat) (x : Nat × Nat) : Prop := x.1 ≤ x.2 ∧ x.2 ≤ n ∧ (∀ t, t < x.1 → p t) ∧ ∀ t, x.2 ≤ t → t < n → q t
theorem symMerge_c : ∀ d, MergeC d := fun d => by
  induction d with
  | zero => intro N P A B S L L' a m b hd _ _ h1; omega
  | succ d hIH =>
  intro N P A B S L L' a m b hd hN hN2 h1 h2 hA hB hf hL hL' ha hm hb
  obtain ⟨a', ha'⟩ : ∃ n, n = P.length := ⟨_, rfl⟩
  obtain ⟨m', hm'⟩ : ∃ n, n = P.length + A.length := ⟨_, rfl⟩
  obtain ⟨b', hb'⟩ : ∃ n, n = P.length + A.length + B.length := ⟨_, rfl⟩
  obtain rfl : a = (a' : Nat) := by omega
  obtain rfl : m = (m' : Nat) := by omega
  obtain rfl : b = (b' : Nat) := by omega
  clear ha hm hb
  have hsum : b' ≤ N := by rw [← hN, hL]; simp; omega
  refine tmut_of Try.func228 rfl (by kernel_rfl) (Nat.le_of_ble_eq_true rfl) rfl ?_
  simp only [slotsL]
  repeat (first | (refine w_q (h := ?_)) | (refine w_s (h := ?_)) | (refine w_t (h := ?_)) | (refine w_k (h := ?_)) | (refine y_q (h := ?_)) | (refine y_s (h := ?_)) | (refine y_t (h := ?_)) | (refine y_k (h := ?_)) | (refine lex_nil (by kernel_rfl) ?_) | (refine awp_sq ?_) | (refine awp_rg ?_) | (refine awp_rd (by kernel_rfl) (by kernel_rfl) ?_) | (refine awp_block ?_) | (refine awp_exit ?_) | (refine awp_ret ?_) | (refine awp_skip ?_))
  refine awp_if rfl (fun h => ?_) (fun h => ?_)
  · simp only [icmp] at h
    have hA1 : A.length = 1 := by
      have h0 : (m' : Int) - (a' : Int) = 1 := by simpa using h
      omega
    obtain ⟨x, rfl⟩ := List.length_eq_one_iff.1 hA1
    have hx : Fnt .f32 x := hf x (by simp)
    have hLx : L = insC P B x S 0 := by rw [hL]; unfold insC; simp
    have hLl := insC_len P B x S
    have hax := app_atA P [x] B S (i := 0 + a') (t := 0) (by omega) (by simp)
    rw [← hL, show [x].getD 0 0 = x from rfl] at hax
    simp only [List.length_singleton] at hm' hb'
    repeat (first | (refine w_q (h := ?_)) | (refine w_s (h := ?_)) | (refine w_t (h := ?_)) | (refine w_k (h := ?_)) | (refine y_q (h := ?_)) | (refine y_s (h := ?_)) | (refine y_t (h := ?_)) | (refine y_k (h := ?_)) | (refine lex_nil (by kernel_rfl) ?_) | (refine awp_sq ?_) | (refine awp_rg ?_) | (refine awp_rd (by kernel_rfl) (by kernel_rfl) ?_) | (refine awp_block ?_) | (refine awp_exit ?_) | (refine awp_ret ?_) | (refine awp_skip ?_))
    refine awp_loop (X := Nat × Nat) (BsI (fun t => kk (B.getD t 0) < kk x) (fun t => kk x ≤ kk (B.getD t 0)) B.length) (fun z => [(0, .argo 0 900 0 N), (1, .t (.v (.int .i64 (a' : Nat)))), (4, .arg 4 (.fn 214 [])), (10, .t (.v (.int .i64 ((m' + z.1 : Nat) : Int)))), (11, .t (.v (.int .i64 ((m' + z.2 : Nat) : Int))))])
      (fun z => [(900, .sl 30 (.fl L))]) (fun z => z.2 - z.1)
      (0, B.length) ⟨⟨Nat.zero_le _, Nat.le_refl _, fun t g => absurd g (Nat.not_lt_zero t), fun t g1 g2 => by simp only [] at g1; omega⟩, fun i => i, ⟨rfl, rfl, rfl, iESo (by simp), iESo (by simp only []; omega), trivial⟩, ⟨rfl, trivial⟩, injOn_id _⟩ (fun z hz => ?_)
    obtain ⟨p, q⟩ := z
    obtain ⟨q1, q2, q3, q4⟩ := hz
    simp only [] at q1 q2 q3 q4
    dsimp only
    repeat (first | (refine w_q (h := ?_)) | (refine w_s (h := ?_)) | (refine w_t (h := ?_)) | (refine w_k (h := ?_)) | (refine y_q (h := ?_)) | (refine y_s (h := ?_)) | (refine y_t (h := ?_)) | (refine y_k (h := ?_)) | (refine lex_nil (by kernel_rfl) ?_) | (refine awp_sq ?_) | (refine awp_rg ?_) | (refine awp_rd (by kernel_rfl) (by kernel_rfl) ?_) | (refine awp_block ?_) | (refine awp_exit ?_) | (refine awp_ret ?_) | (refine awp_skip ?_))
    refine awp_if rfl (fun h3 => ?_) (fun h3 => ?_)
    · simp only [icmp, decide_eq_true_eq] at h3
      have hpq : p < q := by omega
      have hc1 : (m' + p + (m' + q)) / 2 = m' + (p + q) / 2 := by omega
      generalize hc : (p + q) / 2 = c at *
      have hcb : c < B.length := by omega
      have hgb := app_atB P [x] B S (i := 0 + (m' + c)) (by simp; omega) hcb
      rw [← hL] at hgb
      have hfb := hf _ (List.mem_append_right [x] (mem_at hcb))
      repeat (first | (refine w_q (h := ?_)) | (refine w_s (h := ?_)) | (refine w_t (h := ?_)) | (refine w_k (h := ?_)) | (refine y_q (h := ?_)) | (refine y_s (h := ?_)) | (refine y_t (h := ?_)) | (refine y_k (h := ?_)) | (refine lex_nil (by kernel_rfl) ?_) | (refine awp_sq ?_) | (refine awp_rg ?_) | (refine awp_rd (by kernel_rfl) (by kernel_rfl) ?_) | (refine awp_block ?_) | (refine awp_exit ?_) | (refine awp_ret ?_) | (refine awp_skip ?_))
      (first | (refine w_r (q_i2u (m' + p + (m' + q)) (by omega) (by omega) tyOk rfl rfl rfl rfl rfl) (h := ?_)) | (refine y_r (q_i2u (m' + p + (m' + q)) (by omega) (by omega) tyOk rfl rfl rfl rfl rfl) (h := ?_)))
      repeat (first | (refine w_q (h := ?_)) | (refine w_s (h := ?_)) | (refine w_t (h := ?_)) | (refine w_k (h := ?_)) | (refine y_q (h := ?_)) | (refine y_s (h := ?_)) | (refine y_t (h := ?_)) | (refine y_k (h := ?_)) | (refine lex_nil (by kernel_rfl) ?_) | (refine awp_sq ?_) | (refine awp_rg ?_) | (refine awp_rd (by kernel_rfl) (by kernel_rfl) ?_) | (refine awp_block ?_) | (refine awp_exit ?_) | (refine awp_ret ?_) | (refine awp_skip ?_))
      (first | (refine w_r (q_sh1 rfl rfl rfl) (h := ?_)) | (refine y_r (q_sh1 rfl rfl rfl) (h := ?_)))
      repeat (first | (refine w_q (h := ?_)) | (refine w_s (h := ?_)) | (refine w_t (h := ?_)) | (refine w_k (h := ?_)) | (refine y_q (h := ?_)) | (refine y_s (h := ?_)) | (refine y_t (h := ?_)) | (refine y_k (h := ?_)) | (refine lex_nil (by kernel_rfl) ?_) | (refine awp_sq ?_) | (refine awp_rg ?_) | (refine awp_rd (by kernel_rfl) (by kernel_rfl) ?_) | (refine awp_block ?_) | (refine awp_exit ?_) | (refine awp_ret ?_) | (refine awp_skip ?_))
      rw [hc1]
      (first | (refine w_r (q_u2i (m' + c) (by omega) tyOk rfl rfl rfl rfl rfl) (h := ?_)) | (refine y_r (q_u2i (m' + c) (by omega) tyOk rfl rfl rfl rfl rfl) (h := ?_)))
      repeat (first | (refine w_q (h := ?_)) | (refine w_s (h := ?_)) | (refine w_t (h := ?_)) | (refine w_k (h := ?_)) | (refine y_q (h := ?_)) | (refine y_s (h := ?_)) | (refine y_t (h := ?_)) | (refine y_k (h := ?_)) | (refine lex_nil (by kernel_rfl) ?_) | (refine awp_sq ?_) | (refine awp_rg ?_) | (refine awp_rd (by kernel_rfl) (by kernel_rfl) ?_) | (refine awp_block ?_) | (refine awp_exit ?_) | (refine awp_ret ?_) | (refine awp_skip ?_) | (first | (refine w_r (q_idx_own (m' + c) tyOk rfl rfl rfl rfl rfl rfl rfl (by omega) (by first | omega | (simp only [T.len]; omega) | assumption)) (h := ?_)) | (refine y_r (q_idx_own (m' + c) tyOk rfl rfl rfl rfl rfl rfl rfl (by omega) (by first | omega | (simp only [T.len]; omega) | assumption)) (h := ?_))) | (first | (refine w_r (q_idx_own (a') tyOk rfl rfl rfl rfl rfl rfl rfl (by omega) (by first | omega | (simp only [T.len]; omega) | assumption)) (h := ?_)) | (refine y_r (q_idx_own (a') tyOk rfl rfl rfl rfl rfl rfl rfl (by omega) (by first | omega | (simp only [T.len]; omega) | assumption)) (h := ?_))))
      rw [hax, hgb]
      (first | (refine c_q (sorted1_c _ _) (h := ?_)) | (refine z_q (sorted1_c _ _) (h := ?_)))
      repeat (first | (refine w_q (h := ?_)) | (refine w_s (h := ?_)) | (refine w_t (h := ?_)) | (refine w_k (h := ?_)) | (refine y_q (h := ?_)) | (refine y_s (h := ?_)) | (refine y_t (h := ?_)) | (refine y_k (h := ?_)) | (refine lex_nil (by kernel_rfl) ?_) | (refine awp_sq ?_) | (refine awp_rg ?_) | (refine awp_rd (by kernel_rfl) (by kernel_rfl) ?_) | (refine awp_block ?_) | (refine awp_exit ?_) | (refine awp_ret ?_) | (refine awp_skip ?_))
      refine awp_if rfl (fun h4 => ?_) (fun h4 => ?_)
      · rw [cmpI_neg, lss_rv hfb hx] at h4
        have h4 := of_decide_eq_true h4
        repeat (first | (refine w_q (h := ?_)) | (refine w_s (h := ?_)) | (refine w_t (h := ?_)) | (refine w_k (h := ?_)) | (refine y_q (h := ?_)) | (refine y_s (h := ?_)) | (refine y_t (h := ?_)) | (refine y_k (h := ?_)) | (refine lex_nil (by kernel_rfl) ?_) | (refine awp_sq ?_) | (refine awp_rg ?_) | (refine awp_rd (by kernel_rfl) (by kernel_rfl) ?_) | (refine awp_block ?_) | (refine awp_exit ?_) | (refine awp_ret ?_) | (refine awp_skip ?_))
        exact ⟨(c + 1, q), by simp only []; omega, ⟨by simp only []; omega, q2, fun t g => by
          have k1 := srt_at hB (show t ≤ c by simp only [] at g; omega) hcb
          grind, q4⟩, fun i => i, ⟨rfl, rfl, rfl, iESo (by simp only []; omega), rfl, trivial⟩, ⟨rfl, trivial⟩, injOn_id _⟩
      · rw [cmpI_neg, lss_rv hfb hx] at h4
        have h4 := Rat.not_lt.1 (of_decide_eq_false h4)
        repeat (first | (refine w_q (h := ?_)) | (refine w_s (h := ?_)) | (refine w_t (h := ?_)) | (refine w_k (h := ?_)) | (refine y_q (h := ?_)) | (refine y_s (h := ?_)) | (refine y_t (h := ?_)) | (refine y_k (h := ?_)) | (refine lex_nil (by kernel_rfl) ?_) | (refine awp_sq ?_) | (refine awp_rg ?_) | (refine awp_rd (by kernel_rfl) (by kernel_rfl) ?_) | (refine awp_block ?_) | (refine awp_exit ?_) | (refine awp_ret ?_) | (refine awp_skip ?_))
        exact ⟨(p, c), by simp only []; omega, ⟨by simp only []; omega, by simp only []; omega, q3, fun t g1 g2 => Rat.le_trans h4 (srt_at hB (show c ≤ t from g1) g2)⟩, fun i => i, ⟨rfl, rfl, rfl, rfl, rfl, trivial⟩, ⟨rfl, trivial⟩, injOn_id _⟩
    simp only [icmp, decide_eq_false_iff_not] at h3
    obtain rfl : p = q := by omega
    have hfin := sortF_left hf hB (p := p) (fun t g1 g2 => q3 t g1) (fun t g1 g2 => q4 t g1 g2)
    have hL2 : L' = insC P B x S p := by rw [hL', hfin]; unfold insC; simp only [List.append_assoc, List.cons_append]
    have hNs : P.length + B.length + 1 + S.length = N := by rw [← hN, hLx, hLl]
    rw [hLx]
    repeat (first | (refine w_q (h := ?_)) | (refine w_s (h := ?_)) | (refine w_t (h := ?_)) | (refine w_k (h := ?_)) | (refine y_q (h := ?_)) | (refine y_s (h := ?_)) | (refine y_t (h := ?_)) | (refine y_k (h := ?_)) | (refine lex_nil (by kernel_rfl) ?_) | (refine awp_sq ?_) | (refine awp_rg ?_) | (refine awp_rd (by kernel_rfl) (by kernel_rfl) ?_) | (refine awp_block ?_) | (refine awp_exit ?_) | (refine awp_ret ?_) | (refine awp_skip ?_))
    refine awp_loop (X := Nat) (fun t => t ≤ p) (fun t => [(0, .argo 0 900 0 N), (10, .t (.v (.int .i64 ((m' + p : Nat) : Int)))), (13, .t (.v (.int .i64 ((a' + t : Nat) : Int))))])
      (fun t => [(900, .sl 30 (.fl (insC P B x S t)))]) (fun t => p - t)
      0 ⟨Nat.zero_le _, fun i => i, ⟨rfl, rfl, iESo (by simp), trivial⟩, ⟨rfl, trivial⟩, injOn_id _⟩ (fun t ht => ?_)
    have hlt := hLl t
    repeat (first | (refine w_q (h := ?_)) | (refine w_s (h := ?_)) | (refine w_t (h := ?_)) | (refine w_k (h := ?_)) | (refine y_q (h := ?_)) | (refine y_s (h := ?_)) | (refine y_t (h := ?_)) | (refine y_k (h := ?_)) | (refine lex_nil (by kernel_rfl) ?_) | (refine awp_sq ?_) | (refine awp_rg ?_) | (refine awp_rd (by kernel_rfl) (by kernel_rfl) ?_) | (refine awp_block ?_) | (refine awp_exit ?_) | (refine awp_ret ?_) | (refine awp_skip ?_))
    refine awp_if rfl (fun h5 => ?_) (fun h5 => ?_)
    · simp only [icmp, decide_eq_true_eq] at h5
      have htp : t < p := by omega
      have hup := insC_up (P := P) (x := x) (S := S) (t := t) (k := a' + t) (show t < B.length by omega) (by omega)
      have hsl : ((insC P B x S t).set (0 + (a' + t)) ((insC P B x S t).getD (0 + (a' + t + 1)) 0)).length = N := by rw [List.length_set, hlt, hNs]
      repeat (first | (refine w_q (h := ?_)) | (refine w_s (h := ?_)) | (refine w_t (h := ?_)) | (refine w_k (h := ?_)) | (refine y_q (h := ?_)) | (refine y_s (h := ?_)) | (refine y_t (h := ?_)) | (refine y_k (h := ?_)) | (refine lex_nil (by kernel_rfl) ?_) | (refine awp_sq ?_) | (refine awp_rg ?_) | (refine awp_rd (by kernel_rfl) (by kernel_rfl) ?_) | (refine awp_block ?_) | (refine awp_exit ?_) | (refine awp_ret ?_) | (refine awp_skip ?_) | (first | (refine w_r (q_idx_own (a' + t + 1) tyOk rfl rfl rfl rfl rfl rfl rfl (by omega) (by first | omega | (simp only [T.len]; omega) | assumption)) (h := ?_)) | (refine y_r (q_idx_own (a' + t + 1) tyOk rfl rfl rfl rfl rfl rfl rfl (by omega) (by first | omega | (simp only [T.len]; omega) | assumption)) (h := ?_))) | (first | (refine w_r (q_idx_own (a' + t) tyOk rfl rfl rfl rfl rfl rfl rfl (by omega) (by first | omega | (simp only [T.len]; omega) | assumption)) (h := ?_)) | (refine y_r (q_idx_own (a' + t) tyOk rfl rfl rfl rfl rfl rfl rfl (by omega) (by first | omega | (simp only [T.len]; omega) | assumption)) (h := ?_))))
      exact ⟨t + 1, by omega, by omega, fun i => i, ⟨rfl, rfl, iESo (by omega), trivial⟩, ⟨sl_eq (congrArg T.fl (by simp only [Nat.zero_add]; exact hup)), trivial⟩, injOn_id _⟩
    simp only [icmp, decide_eq_false_iff_not] at h5
    obtain rfl : t = p := by omega
    rw [← hL2]
    repeat (first | (refine w_q (h := ?_)) | (refine w_s (h := ?_)) | (refine w_t (h := ?_)) | (refine w_k (h := ?_)) | (refine y_q (h := ?_)) | (refine y_s (h := ?_)) | (refine y_t (h := ?_)) | (refine y_k (h := ?_)) | (refine lex_nil (by kernel_rfl) ?_) | (refine awp_sq ?_) | (refine awp_rg ?_) | (refine awp_rd (by kernel_rfl) (by kernel_rfl) ?_) | (refine awp_block ?_) | (refine awp_exit ?_) | (refine awp_ret ?_) | (refine awp_skip ?_))
    refine mret_ok tyOk (by first | exact .inr rfl | exact .inl rfl) (piA 900 900) rfl .nil ?_ ⟨rfl, trivial⟩ (injO_1 _ _ _) (held1 0 0 900 0 _ 0 _ rfl rfl rfl)
    exact rr_tup .nil
  simp only [icmp] at h
  refine awp_skip ?_
  repeat (first | (refine w_q (h := ?_)) | (refine w_s (h := ?_)) | (refine w_t (h := ?_)) | (refine w_k (h := ?_)) | (refine y_q (h := ?_)) | (refine y_s (h := ?_)) | (refine y_t (h := ?_)) | (refine y_k (h := ?_)) | (refine lex_nil (by kernel_rfl) ?_) | (refine awp_sq ?_) | (refine awp_rg ?_) | (refine awp_rd (by kernel_rfl) (by kernel_rfl) ?_) | (refine awp_block ?_) | (refine awp_exit ?_) | (refine awp_ret ?_) | (refine awp_skip ?_))
  refine awp_if rfl (fun h3 => ?_) (fun h3 => ?_)
  · simp only [icmp] at h3
    have hB1 : B.length = 1 := by
      have h0 : (b' : Int) - (m' : Int) = 1 := by simpa using h3
      omega
    obtain ⟨x, rfl⟩ := List.length_eq_one_iff.1 hB1
    have hx : Fnt .f32 x := hf x (by simp)
    have hLx : L = insC P A x S A.length := by rw [hL]; unfold insC; rw [List.take_length, List.drop_length]; simp
    have hLl := insC_len P A x S
    have hax := app_atB P A [x] S (i := 0 + m') (t := 0) (by omega) (by simp)
    rw [← hL, show [x].getD 0 0 = x from rfl] at hax
    simp only [List.length_singleton] at hb'
    repeat (first | (refine w_q (h := ?_)) | (refine w_s (h := ?_)) | (refine w_t (h := ?_)) | (refine w_k (h := ?_)) | (refine y_q (h := ?_)) | (refine y_s (h := ?_)) | (refine y_t (h := ?_)) | (refine y_k (h := ?_)) | (refine lex_nil (by kernel_rfl) ?_) | (refine awp_sq ?_) | (refine awp_rg ?_) | (refine awp_rd (by kernel_rfl) (by kernel_rfl) ?_) | (refine awp_block ?_) | (refine awp_exit ?_) | (refine awp_ret ?_) | (refine awp_skip ?_))
    refine awp_loop (X := Nat × Nat) (BsI (fun t => kk (A.getD t 0) ≤ kk x) (fun t => kk x < kk (A.getD t 0)) A.length) (fun z => [(0, .argo 0 900 0 N), (2, .t (.v (.int .i64 (m' : Nat)))), (4, .arg 4 (.fn 214 [])), (14, .t (.v (.int .i64 ((a' + z.1 : Nat) : Int)))), (15, .t (.v (.int .i64 ((a' + z.2 : Nat) : Int))))])
      (fun z => [(900, .sl 30 (.fl L))]) (fun z => z.2 - z.1)
      (0, A.length) ⟨⟨Nat.zero_le _, Nat.le_refl _, fun t g => absurd g (Nat.not_lt_zero t), fun t g1 g2 => by simp only [] at g1; omega⟩, fun i => i, ⟨rfl, rfl, rfl, iESo (by simp), iESo (by simp only []; omega), trivial⟩, ⟨rfl, trivial⟩, injOn_id _⟩ (fun z hz => ?_)
    obtain ⟨p, q⟩ := z
    obtain ⟨q1, q2, q3, q4⟩ := hz
    simp only [] at q1 q2 q3 q4
    dsimp only
    repeat (first | (refine w_q (h := ?_)) | (refine w_s (h := ?_)) | (refine w_t (h := ?_)) | (refine w_k (h := ?_)) | (refine y_q (h := ?_)) | (refine y_s (h := ?_)) | (refine y_t (h := ?_)) | (refine y_k (h := ?_)) | (refine lex_nil (by kernel_rfl) ?_) | (refine awp_sq ?_) | (refine awp_rg ?_) | (refine awp_rd (by kernel_rfl) (by kernel_rfl) ?_) | (refine awp_block ?_) | (refine awp_exit ?_) | (refine awp_ret ?_) | (refine awp_skip ?_))
    refine awp_if rfl (fun h3 => ?_) (fun h3 => ?_)
    · simp only [icmp, decide_eq_true_eq] at h3
      have hpq : p < q := by omega
      have hc1 : (a' + p + (a' + q)) / 2 = a' + (p + q) / 2 := by omega
      generalize hc : (p + q) / 2 = c at *
      have hcb : c < A.length := by omega
      have hgb := app_atA P A [x] S (i := 0 + (a' + c)) (by omega) hcb
      rw [← hL] at hgb
      have hfb := hf _ (List.mem_append_left [x] (mem_at hcb))
      repeat (first | (refine w_q (h := ?_)) | (refine w_s (h := ?_)) | (refine w_t (h := ?_)) | (refine w_k (h := ?_)) | (refine y_q (h := ?_)) | (refine y_s (h := ?_)) | (refine y_t (h := ?_)) | (refine y_k (h := ?_)) | (refine lex_nil (by kernel_rfl) ?_) | (refine awp_sq ?_) | (refine awp_rg ?_) | (refine awp_rd (by kernel_rfl) (by kernel_rfl) ?_) | (refine awp_block ?_) | (refine awp_exit ?_) | (refine awp_ret ?_) | (refine awp_skip ?_))
      (first | (refine w_r (q_i2u (a' + p + (a' + q)) (by omega) (by omega) tyOk rfl rfl rfl rfl rfl) (h := ?_)) | (refine y_r (q_i2u (a' + p + (a' + q)) (by omega) (by omega) tyOk rfl rfl rfl rfl rfl) (h := ?_)))
      repeat (first | (refine w_q (h := ?_)) | (refine w_s (h := ?_)) | (refine w_t (h := ?_)) | (refine w_k (h := ?_)) | (refine y_q (h := ?_)) | (refine y_s (h := ?_)) | (refine y_t (h := ?_)) | (refine y_k (h := ?_)) | (refine lex_nil (by kernel_rfl) ?_) | (refine awp_sq ?_) | (refine awp_rg ?_) | (refine awp_rd (by kernel_rfl) (by kernel_rfl) ?_) | (refine awp_block ?_) | (refine awp_exit ?_) | (refine awp_ret ?_) | (refine awp_skip ?_))
      (first | (refine w_r (q_sh1 rfl rfl rfl) (h := ?_)) | (refine y_r (q_sh1 rfl rfl rfl) (h := ?_)))
      repeat (first | (refine w_q (h := ?_)) | (refine w_s (h := ?_)) | (refine w_t (h := ?_)) | (refine w_k (h := ?_)) | (refine y_q (h := ?_)) | (refine y_s (h := ?_)) | (refine y_t (h := ?_)) | (refine y_k (h := ?_)) | (refine lex_nil (by kernel_rfl) ?_) | (refine awp_sq ?_) | (refine awp_rg ?_) | (refine awp_rd (by kernel_rfl) (by kernel_rfl) ?_) | (refine awp_block ?_) | (refine awp_exit ?_) | (refine awp_ret ?_) | (refine awp_skip ?_))
      rw [hc1]
      (first | (refine w_r (q_u2i (a' + c) (by omega) tyOk rfl rfl rfl rfl rfl) (h := ?_)) | (refine y_r (q_u2i (a' + c) (by omega) tyOk rfl rfl rfl rfl rfl) (h := ?_)))
      repeat (first | (refine w_q (h := ?_)) | (refine w_s (h := ?_)) | (refine w_t (h := ?_)) | (refine w_k (h := ?_)) | (refine y_q (h := ?_)) | (refine y_s (h := ?_)) | (refine y_t (h := ?_)) | (refine y_k (h := ?_)) | (refine lex_nil (by kernel_rfl) ?_) | (refine awp_sq ?_) | (refine awp_rg ?_) | (refine awp_rd (by kernel_rfl) (by kernel_rfl) ?_) | (refine awp_block ?_) | (refine awp_exit ?_) | (refine awp_ret ?_) | (refine awp_skip ?_) | (first | (refine w_r (q_idx_own (a' + c) tyOk rfl rfl rfl rfl rfl rfl rfl (by omega) (by first | omega | (simp only [T.len]; omega) | assumption)) (h := ?_)) | (refine y_r (q_idx_own (a' + c) tyOk rfl rfl rfl rfl rfl rfl rfl (by omega) (by first | omega | (simp only [T.len]; omega) | assumption)) (h := ?_))) | (first | (refine w_r (q_idx_own (m') tyOk rfl rfl rfl rfl rfl rfl rfl (by omega) (by first | omega | (simp only [T.len]; omega) | assumption)) (h := ?_)) | (refine y_r (q_idx_own (m') tyOk rfl rfl rfl rfl rfl rfl rfl (by omega) (by first | omega | (simp only [T.len]; omega) | assumption)) (h := ?_))))
      rw [hax, hgb]
      (first | (refine c_q (sorted1_c _ _) (h := ?_)) | (refine z_q (sorted1_c _ _) (h := ?_)))
      repeat (first | (refine w_q (h := ?_)) | (refine w_s (h := ?_)) | (refine w_t (h := ?_)) | (refine w_k (h := ?_)) | (refine y_q (h := ?_)) | (refine y_s (h := ?_)) | (refine y_t (h := ?_)) | (refine y_k (h := ?_)) | (refine lex_nil (by kernel_rfl) ?_) | (refine awp_sq ?_) | (refine awp_rg ?_) | (refine awp_rd (by kernel_rfl) (by kernel_rfl) ?_) | (refine awp_block ?_) | (refine awp_exit ?_) | (refine awp_ret ?_) | (refine awp_skip ?_))
      refine awp_if rfl (fun h4 => ?_) (fun h4 => ?_)
      · rw [cmpI_neg, Bool.not_eq_true', lss_rv hx hfb] at h4
        have h4 := Rat.not_lt.1 (of_decide_eq_false h4)
        repeat (first | (refine w_q (h := ?_)) | (refine w_s (h := ?_)) | (refine w_t (h := ?_)) | (refine w_k (h := ?_)) | (refine y_q (h := ?_)) | (refine y_s (h := ?_)) | (refine y_t (h := ?_)) | (refine y_k (h := ?_)) | (refine lex_nil (by kernel_rfl) ?_) | (refine awp_sq ?_) | (refine awp_rg ?_) | (refine awp_rd (by kernel_rfl) (by kernel_rfl) ?_) | (refine awp_block ?_) | (refine awp_exit ?_) | (refine awp_ret ?_) | (refine awp_skip ?_))
        exact ⟨(c + 1, q), by simp only []; omega, ⟨by simp only []; omega, q2, fun t g => Rat.le_trans (srt_at hA (show t ≤ c by simp only [] at g; omega) hcb) h4, q4⟩, fun i => i, ⟨rfl, rfl, rfl, iESo (by simp only []; omega), rfl, trivial⟩, ⟨rfl, trivial⟩, injOn_id _⟩
      · rw [cmpI_neg, Bool.not_eq_false', lss_rv hx hfb] at h4
        have h4 := of_decide_eq_true h4
        repeat (first | (refine w_q (h := ?_)) | (refine w_s (h := ?_)) | (refine w_t (h := ?_)) | (refine w_k (h := ?_)) | (refine y_q (h := ?_)) | (refine y_s (h := ?_)) | (refine y_t (h := ?_)) | (refine y_k (h := ?_)) | (refine lex_nil (by kernel_rfl) ?_) | (refine awp_sq ?_) | (refine awp_rg ?_) | (refine awp_rd (by kernel_rfl) (by kernel_rfl) ?_) | (refine awp_block ?_) | (refine awp_exit ?_) | (refine awp_ret ?_) | (refine awp_skip ?_))
        exact ⟨(p, c), by simp only []; omega, ⟨by simp only []; omega, by simp only []; omega, q3, fun t g1 g2 => by
          have k1 := srt_at hA (show c ≤ t from g1) g2
          grind⟩, fun i => i, ⟨rfl, rfl, rfl, rfl, rfl, trivial⟩, ⟨rfl, trivial⟩, injOn_id _⟩
    simp only [icmp, decide_eq_false_iff_not] at h3
    obtain rfl : p = q := by omega
    have hfin := sortF_right hf hA (p := p) (fun t g1 g2 => q3 t g1) (fun t g1 g2 => q4 t g1 g2)
    have hL2 : L' = insC P A x S p := by rw [hL', hfin]; unfold insC; simp only [List.append_assoc, List.cons_append]
    have hNs : P.length + A.length + 1 + S.length = N := by rw [← hN, hLx, hLl]
    rw [hLx]
    repeat (first | (refine w_q (h := ?_)) | (refine w_s (h := ?_)) | (refine w_t (h := ?_)) | (refine w_k (h := ?_)) | (refine y_q (h := ?_)) | (refine y_s (h := ?_)) | (refine y_t (h := ?_)) | (refine y_k (h := ?_)) | (refine lex_nil (by kernel_rfl) ?_) | (refine awp_sq ?_) | (refine awp_rg ?_) | (refine awp_rd (by kernel_rfl) (by kernel_rfl) ?_) | (refine awp_block ?_) | (refine awp_exit ?_) | (refine awp_ret ?_) | (refine awp_skip ?_))
    refine awp_loop (X := Nat) (fun t => p ≤ t ∧ t ≤ A.length) (fun t => [(0, .argo 0 900 0 N), (14, .t (.v (.int .i64 ((a' + p : Nat) : Int)))), (17, .t (.v (.int .i64 ((a' + t : Nat) : Int))))])
      (fun t => [(900, .sl 30 (.fl (insC P A x S t)))]) (fun t => t)
      A.length ⟨⟨q2, Nat.le_refl _⟩, fun i => i, ⟨rfl, rfl, iESo (by omega), trivial⟩, ⟨rfl, trivial⟩, injOn_id _⟩ (fun t ht => ?_)
    have hlt := hLl t
    repeat (first | (refine w_q (h := ?_)) | (refine w_s (h := ?_)) | (refine w_t (h := ?_)) | (refine w_k (h := ?_)) | (refine y_q (h := ?_)) | (refine y_s (h := ?_)) | (refine y_t (h := ?_)) | (refine y_k (h := ?_)) | (refine lex_nil (by kernel_rfl) ?_) | (refine awp_sq ?_) | (refine awp_rg ?_) | (refine awp_rd (by kernel_rfl) (by kernel_rfl) ?_) | (refine awp_block ?_) | (refine awp_exit ?_) | (refine awp_ret ?_) | (refine awp_skip ?_))
    refine awp_if rfl (fun h5 => ?_) (fun h5 => ?_)
    · simp only [icmp, decide_eq_true_eq] at h5
      obtain ⟨u, rfl⟩ : ∃ u, t = u + 1 := ⟨t - 1, by omega⟩
      have hup := insC_dn (P := P) (x := x) (S := S) (t := u) (k := a' + u) (show u < A.length by omega) (by omega)
      have hsl : ((insC P A x S (u + 1)).set (0 + (a' + (u + 1))) ((insC P A x S (u + 1)).getD (0 + (a' + u)) 0)).length = N := by rw [List.length_set, hlt, hNs]
      repeat (first | (refine w_q (h := ?_)) | (refine w_s (h := ?_)) | (refine w_t (h := ?_)) | (refine w_k (h := ?_)) | (refine y_q (h := ?_)) | (refine y_s (h := ?_)) | (refine y_t (h := ?_)) | (refine y_k (h := ?_)) | (refine lex_nil (by kernel_rfl) ?_) | (refine awp_sq ?_) | (refine awp_rg ?_) | (refine awp_rd (by kernel_rfl) (by kernel_rfl) ?_) | (refine awp_block ?_) | (refine awp_exit ?_) | (refine awp_ret ?_) | (refine awp_skip ?_) | (first | (refine w_r (q_idx_own (a' + (u + 1)) tyOk rfl rfl rfl rfl rfl rfl rfl (by omega) (by first | omega | (simp only [T.len]; omega) | assumption)) (h := ?_)) | (refine y_r (q_idx_own (a' + (u + 1)) tyOk rfl rfl rfl rfl rfl rfl rfl (by omega) (by first | omega | (simp only [T.len]; omega) | assumption)) (h := ?_))) | (first | (refine w_r (q_idx_own (a' + u) tyOk rfl rfl rfl rfl rfl rfl rfl (by omega) (by first | omega | (simp only [T.len]; omega) | assumption)) (h := ?_)) | (refine y_r (q_idx_own (a' + u) tyOk rfl rfl rfl rfl rfl rfl rfl (by omega) (by first | omega | (simp only [T.len]; omega) | assumption)) (h := ?_))))
      exact ⟨u, by omega, by omega, fun i => i, ⟨rfl, rfl, iESo (by omega), trivial⟩, ⟨sl_eq (congrArg T.fl (by simp only [Nat.zero_add]; exact hup)), trivial⟩, injOn_id _⟩
    simp only [icmp, decide_eq_false_iff_not] at h5
    obtain rfl : t = p := by omega
    rw [← hL2]
    repeat (first | (refine w_q (h := ?_)) | (refine w_s (h := ?_)) | (refine w_t (h := ?_)) | (refine w_k (h := ?_)) | (refine y_q (h := ?_)) | (refine y_s (h := ?_)) | (refine y_t (h := ?_)) | (refine y_k (h := ?_)) | (refine lex_nil (by kernel_rfl) ?_) | (refine awp_sq ?_) | (refine awp_rg ?_) | (refine awp_rd (by kernel_rfl) (by kernel_rfl) ?_) | (refine awp_block ?_) | (refine awp_exit ?_) | (refine awp_ret ?_) | (refine awp_skip ?_))
    refine mret_ok tyOk (by first | exact .inr rfl | exact .inl rfl) (piA 900 900) rfl .nil ?_ ⟨rfl, trivial⟩ (injO_1 _ _ _) (held1 0 0 900 0 _ 0 _ rfl rfl rfl)
    exact rr_tup .nil
  refine awp_skip ?_
  refine awp_weak (fun i => i) _ _ (by exact ⟨rfl, rfl, rfl, rfl, rfl, trivial⟩) (by exact ⟨rfl, trivial⟩) (injOn_id _) (sm_2 hIH N P A B S L L' a' m' b' hd h1 h2 hN hN2 hA hB hf hL hL' ha' hm' hb')
end Go.Proofs.Ytmnpdipiffmnhaa

