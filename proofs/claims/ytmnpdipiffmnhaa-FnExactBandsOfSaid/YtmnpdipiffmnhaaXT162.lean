import Derived.Test.YtmnpdipiffmnhaaXT161
set_option linter.unusedVariables false
set_option linter.unusedSimpArgs false
set_option maxRecDepth 20000
set_option maxHeartbeats 8000000
namespace Go.Proofs.Ytmnpdipiffmnhaa
open Go.Aw
attribute [local irreducible] QRun LexD AWp TCall TMut fop fint fcmp fconv swC insC sortF Fnt

/-! ### two parts in order become one in order: the walk -/
abbrev smA (N : Nat) (a m b : Int) : List AV := [.argo 0 900 0 N, .t (.v (.int .i64 a)), .t (.v (.int .i64 m)), .t (.v (.int .i64 b)), .arg 4 (.fn 214 [])]
abbrev smR (N : Nat) (a m b : Int) (L' : List Nat) := RetM Try.prog Try.f228 (smA N a m b) (.tup []) [(900, .sl 30 (.fl L'))] []
def MergeC (d : Nat) : Prop := ∀ (N : Nat) (P A B S L L' : List Nat) (a m b : Int), A.length + B.length ≤ d → L.length = N → N ≤ 1048576 → 1 ≤ A.length → 1 ≤ B.length → Srt A → Srt B → (∀ x ∈ A ++ B, Fnt .f32 x) → L = P ++ A ++ B ++ S → L' = P ++ sortF (A ++ B) ++ S →
    a = (P.length : Nat) → m = ((P.length + A.length : Nat) : Int) → b = ((P.length + A.length + B.length : Nat) : Int) →
    TMut Try.prog 228 (smA N a m b) [(900, .sl 30 (.fl L))] (.tup []) [(900, .sl 30 (.fl L'))] []
theorem sm_11 {d : Nat} (hIH : MergeC d) (N : Nat) (a0 m0 : Int) (P A B S L L' : List Nat) (mid en b : Nat) (hd : A.length + B.length ≤ d) (hN : L.length = N) (hN2 : N ≤ 1048576) (hA : Srt A) (hB : Srt B) (hf : ∀ x ∈ A ++ B, Fnt .f32 x) (hL : L = P ++ A ++ B ++ S) (hL' : L' = P ++ sortF (A ++ B) ++ S)
    (hm : mid = P.length) (he : en = P.length + A.length) (hb : b = P.length + A.length + B.length) :
    AWp Try.prog Try.f228.ntmps (tlF Try.f228 11) (smR N a0 m0 (b : Nat) L')
      (lkF [(0, .argo 0 900 0 N), (3, .t (.v (.int .i64 (b : Nat)))), (4, .arg 4 (.fn 214 [])), (18, .t (.v (.int .i64 (mid : Nat)))), (24, .t (.v (.int .i64 (en : Nat))))]) (lkH [(900, .sl 30 (.fl L))]) := by
  have hsum : b ≤ N := by rw [← hN, hL]; simp; omega
  repeat (first | (refine w_q (h := ?_)) | (refine w_s (h := ?_)) | (refine w_t (h := ?_)) | (refine w_k (h := ?_)) | (refine y_q (h := ?_)) | (refine y_s (h := ?_)) | (refine y_t (h := ?_)) | (refine y_k (h := ?_)) | (refine lex_nil (by kernel_rfl) ?_) | (refine awp_sq ?_) | (refine awp_rg ?_) | (refine awp_rd (by kernel_rfl) (by kernel_rfl) ?_) | (refine awp_block ?_) | (refine awp_exit ?_) | (refine awp_ret ?_) | (refine awp_skip ?_))
  refine lex_if rfl rfl rfl (fun h1 => ?_) (fun h1 => ?_)
  · simp only [icmp, decide_eq_true_eq] at h1
    repeat (first | (refine w_q (h := ?_)) | (refine w_s (h := ?_)) | (refine w_t (h := ?_)) | (refine w_k (h := ?_)) | (refine y_q (h := ?_)) | (refine y_s (h := ?_)) | (refine y_t (h := ?_)) | (refine y_k (h := ?_)) | (refine lex_nil (by kernel_rfl) ?_) | (refine awp_sq ?_) | (refine awp_rg ?_) | (refine awp_rd (by kernel_rfl) (by kernel_rfl) ?_) | (refine awp_block ?_) | (refine awp_exit ?_) | (refine awp_ret ?_) | (refine awp_skip ?_))
    refine awp_if rfl (fun h2 => ?_) (fun h2 => ?_)
    · simp only [icmp, decide_eq_true_eq] at h2
      repeat (first | (refine w_q (h := ?_)) | (refine w_s (h := ?_)) | (refine w_t (h := ?_)) | (refine w_k (h := ?_)) | (refine y_q (h := ?_)) | (refine y_s (h := ?_)) | (refine y_t (h := ?_)) | (refine y_k (h := ?_)) | (refine lex_nil (by kernel_rfl) ?_) | (refine awp_sq ?_) | (refine awp_rg ?_) | (refine awp_rd (by kernel_rfl) (by kernel_rfl) ?_) | (refine awp_block ?_) | (refine awp_exit ?_) | (refine awp_ret ?_) | (refine awp_skip ?_))
      (refine m_s [(900, _)] (hIH N P A B S L L' (mid : Nat) (en : Nat) (b : Nat) hd hN hN2 (by omega) (by omega) hA hB hf hL hL' (by omega) (by omega) (by omega)) (h := ?_))
      repeat (first | (refine w_q (h := ?_)) | (refine w_s (h := ?_)) | (refine w_t (h := ?_)) | (refine w_k (h := ?_)) | (refine y_q (h := ?_)) | (refine y_s (h := ?_)) | (refine y_t (h := ?_)) | (refine y_k (h := ?_)) | (refine lex_nil (by kernel_rfl) ?_) | (refine awp_sq ?_) | (refine awp_rg ?_) | (refine awp_rd (by kernel_rfl) (by kernel_rfl) ?_) | (refine awp_block ?_) | (refine awp_exit ?_) | (refine awp_ret ?_) | (refine awp_skip ?_))
      refine mret_ok tyOk (by first | exact .inr rfl | exact .inl rfl) (piA 900 900) rfl .nil ?_ ⟨rfl, trivial⟩ (injO_1 _ _ _) (held1 0 0 900 0 _ 0 _ rfl rfl rfl)
      exact rr_tup .nil
    · simp only [icmp, decide_eq_false_iff_not] at h2
      obtain rfl : B = [] := List.length_eq_zero_iff.1 (by omega)
      rw [List.append_nil] at hf hL'
      rw [sortF_id hf hA] at hL'
      obtain rfl : L = L' := by rw [hL, hL']; simp
      repeat (first | (refine w_q (h := ?_)) | (refine w_s (h := ?_)) | (refine w_t (h := ?_)) | (refine w_k (h := ?_)) | (refine y_q (h := ?_)) | (refine y_s (h := ?_)) | (refine y_t (h := ?_)) | (refine y_k (h := ?_)) | (refine lex_nil (by kernel_rfl) ?_) | (refine awp_sq ?_) | (refine awp_rg ?_) | (refine awp_rd (by kernel_rfl) (by kernel_rfl) ?_) | (refine awp_block ?_) | (refine awp_exit ?_) | (refine awp_ret ?_) | (refine awp_skip ?_))
      refine mret_ok tyOk (by first | exact .inr rfl | exact .inl rfl) (piA 900 900) rfl .nil ?_ ⟨rfl, trivial⟩ (injO_1 _ _ _) (held1 0 0 900 0 _ 0 _ rfl rfl rfl)
      exact rr_tup .nil
  · simp only [icmp, decide_eq_false_iff_not] at h1
    obtain rfl : A = [] := List.length_eq_zero_iff.1 (by omega)
    rw [List.nil_append] at hf hL'
    rw [sortF_id hf hB] at hL'
    obtain rfl : L = L' := by rw [hL, hL']; simp
    repeat (first | (refine w_q (h := ?_)) | (refine w_s (h := ?_)) | (refine w_t (h := ?_)) | (refine w_k (h := ?_)) | (refine y_q (h := ?_)) | (refine y_s (h := ?_)) | (refine y_t (h := ?_)) | (refine y_k (h := ?_)) | (refine lex_nil (by kernel_rfl) ?_) | (refine awp_sq ?_) | (refine awp_rg ?_) | (refine awp_rd (by kernel_rfl) (by kernel_rfl) ?_) | (refine awp_block ?_) | (refine awp_exit ?_) | (refine awp_ret ?_) | (refine awp_skip ?_))
    refine awp_ifF rfl rfl ?_
    repeat (first | (refine w_q (h := ?_)) | (refine w_s (h := ?_)) | (refine w_t (h := ?_)) | (refine w_k (h := ?_)) | (refine y_q (h := ?_)) | (refine y_s (h := ?_)) | (refine y_t (h := ?_)) | (refine y_k (h := ?_)) | (refine lex_nil (by kernel_rfl) ?_) | (refine awp_sq ?_) | (refine awp_rg ?_) | (refine awp_rd (by kernel_rfl) (by kernel_rfl) ?_) | (refine awp_block ?_) | (refine awp_exit ?_) | (refine awp_ret ?_) | (refine awp_skip ?_))
    refine mret_ok tyOk (by first | exact .inr rfl | exact .inl rfl) (piA 900 900) rfl .nil ?_ ⟨rfl, trivial⟩ (injO_1 _ _ _) (held1 0 0 900 0 _ 0 _ rfl rfl rfl)
    exact rr_tup .nil
theorem sm_10 {d : Nat} (hIH : MergeC d) (N : Nat) (m0 : Int) (P A1 B1 A2 B2 S L L' : List Nat) (a st mid en b : Nat) (hd1 : A1.length + B1.length ≤ d) (hd : A2.length + B2.length ≤ d) (hN : L.length = N) (hN2 : N ≤ 1048576) (hA1 : Srt A1) (hB1 : Srt B1) (hA : Srt A2) (hB : Srt B2) (hf1 : ∀ x ∈ A1 ++ B1, Fnt .f32 x) (hf : ∀ x ∈ A2 ++ B2, Fnt .f32 x)
    (hL : L = P ++ A1 ++ B1 ++ A2 ++ B2 ++ S) (hL' : L' = P ++ (sortF (A1 ++ B1) ++ sortF (A2 ++ B2)) ++ S)
    (ha : a = P.length) (hs : st = P.length + A1.length) (hm : mid = st + B1.length) (he : en = mid + A2.length) (hb : b = en + B2.length) :
    AWp Try.prog Try.f228.ntmps (tlF Try.f228 10) (smR N (a : Nat) m0 (b : Nat) L')
      (lkF [(0, .argo 0 900 0 N), (1, .t (.v (.int .i64 (a : Nat)))), (3, .t (.v (.int .i64 (b : Nat)))), (4, .arg 4 (.fn 214 [])), (18, .t (.v (.int .i64 (mid : Nat)))), (20, .t (.v (.int .i64 (st : Nat)))), (24, .t (.v (.int .i64 (en : Nat))))]) (lkH [(900, .sl 30 (.fl L))]) := by
  have hsum : b ≤ N := by rw [← hN, hL]; simp; omega
  have hl1 : (sortF (A1 ++ B1)).length = A1.length + B1.length := by rw [sortF_len, List.length_append]
  have hgo : ∀ L1, L1 = P ++ sortF (A1 ++ B1) ++ A2 ++ B2 ++ S → AWp Try.prog Try.f228.ntmps (tlF Try.f228 11) (smR N (a : Nat) m0 (b : Nat) L')
      (lkF [(0, .argo 0 900 0 N), (3, .t (.v (.int .i64 (b : Nat)))), (4, .arg 4 (.fn 214 [])), (18, .t (.v (.int .i64 (mid : Nat)))), (24, .t (.v (.int .i64 (en : Nat))))]) (lkH [(900, .sl 30 (.fl L1))]) := fun L1 hL1 =>
    sm_11 hIH N _ _ (P ++ sortF (A1 ++ B1)) A2 B2 S L1 L' mid en b hd (by rw [hL1, ← hN, hL]; simp [hl1]; omega) hN2 hA hB hf hL1 (by rw [hL']; simp) (by simp [hl1]; omega) (by simp [hl1]; omega) (by simp [hl1]; omega)
  repeat (first | (refine w_q (h := ?_)) | (refine w_s (h := ?_)) | (refine w_t (h := ?_)) | (refine w_k (h := ?_)) | (refine y_q (h := ?_)) | (refine y_s (h := ?_)) | (refine y_t (h := ?_)) | (refine y_k (h := ?_)) | (refine lex_nil (by kernel_rfl) ?_) | (refine awp_sq ?_) | (refine awp_rg ?_) | (refine awp_rd (by kernel_rfl) (by kernel_rfl) ?_) | (refine awp_block ?_) | (refine awp_exit ?_) | (refine awp_ret ?_) | (refine awp_skip ?_))
  refine lex_if rfl rfl rfl (fun h1 => ?_) (fun h1 => ?_)
  · simp only [icmp, decide_eq_true_eq] at h1
    repeat (first | (refine w_q (h := ?_)) | (refine w_s (h := ?_)) | (refine w_t (h := ?_)) | (refine w_k (h := ?_)) | (refine y_q (h := ?_)) | (refine y_s (h := ?_)) | (refine y_t (h := ?_)) | (refine y_k (h := ?_)) | (refine lex_nil (by kernel_rfl) ?_) | (refine awp_sq ?_) | (refine awp_rg ?_) | (refine awp_rd (by kernel_rfl) (by kernel_rfl) ?_) | (refine awp_block ?_) | (refine awp_exit ?_) | (refine awp_ret ?_) | (refine awp_skip ?_))
    refine awp_if rfl (fun h2 => ?_) (fun h2 => ?_)
    · simp only [icmp, decide_eq_true_eq] at h2
      repeat (first | (refine w_q (h := ?_)) | (refine w_s (h := ?_)) | (refine w_t (h := ?_)) | (refine w_k (h := ?_)) | (refine y_q (h := ?_)) | (refine y_s (h := ?_)) | (refine y_t (h := ?_)) | (refine y_k (h := ?_)) | (refine lex_nil (by kernel_rfl) ?_) | (refine awp_sq ?_) | (refine awp_rg ?_) | (refine awp_rd (by kernel_rfl) (by kernel_rfl) ?_) | (refine awp_block ?_) | (refine awp_exit ?_) | (refine awp_ret ?_) | (refine awp_skip ?_))
      (refine m_s [(900, _)] (hIH N P A1 B1 (A2 ++ B2 ++ S) L (P ++ sortF (A1 ++ B1) ++ A2 ++ B2 ++ S) (a : Nat) (st : Nat) (mid : Nat) hd1 hN hN2 (by omega) (by omega) hA1 hB1 hf1 (by rw [hL]; simp) (by simp) (by omega) (by omega) (by omega)) (h := ?_))
      repeat (first | (refine w_q (h := ?_)) | (refine w_s (h := ?_)) | (refine w_t (h := ?_)) | (refine w_k (h := ?_)))
      refine lex_nil (by kernel_rfl) ?_
      refine awp_weak (fun i => i) _ _ (by exact ⟨rfl, rfl, rfl, rfl, rfl, trivial⟩) (by exact ⟨rfl, trivial⟩) (injOn_id _) (hgo _ rfl)
    · simp only [icmp, decide_eq_false_iff_not] at h2
      obtain rfl : B1 = [] := List.length_eq_zero_iff.1 (by omega)
      refine awp_skip ?_
      refine awp_weak (fun i => i) _ _ (by exact ⟨rfl, rfl, rfl, rfl, rfl, trivial⟩) (by exact ⟨rfl, trivial⟩) (injOn_id _) (hgo L (by rw [List.append_nil] at hf1 ⊢; rw [sortF_id hf1 hA1, hL]; simp))
  · simp only [icmp, decide_eq_false_iff_not] at h1
    obtain rfl : A1 = [] := List.length_eq_zero_iff.1 (by omega)
    repeat (first | (refine w_q (h := ?_)) | (refine w_s (h := ?_)) | (refine w_t (h := ?_)) | (refine w_k (h := ?_)))
    refine lex_nil (by kernel_rfl) ?_
    refine awp_ifF rfl rfl ?_
    refine awp_skip ?_
    refine awp_weak (fun i => i) _ _ (by exact ⟨rfl, rfl, rfl, rfl, rfl, trivial⟩) (by exact ⟨rfl, trivial⟩) (injOn_id _) (hgo L (by rw [List.nil_append] at hf1 ⊢; rw [sortF_id hf1 hB1, hL]; simp))
end Go.Proofs.Ytmnpdipiffmnhaa

