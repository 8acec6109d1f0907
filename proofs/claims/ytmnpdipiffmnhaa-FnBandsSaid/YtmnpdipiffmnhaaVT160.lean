import Derived.Test.YtmnpdipiffmnhaaVT159
set_option linter.unusedVariables false
set_option linter.unusedSimpArgs false
set_option maxRecDepth 20000
set_option maxHeartbeats 8000000
namespace Go.Proofs.Ytmnpdipiffmnhaa
open Go.Aw

/-! ### parts of a slice that change places -/
theorem iESo {k : IntKind} {a b : Int} (h : a = b) : AV.t (.v (.int k a)) = AV.t (.v (.int k b)) := by rw [h]
theorem sw_app (U V W : List Nat) (x y : Nat) : (((U ++ x :: (V ++ y :: W)).set U.length y).set (U.length + 1 + V.length) x) = U ++ y :: (V ++ x :: W) := by
  have e : U.length + 1 + V.length - U.length = V.length + 1 := by omega
  have h : ¬ (U.length + 1 + V.length < U.length) := by omega
  simp [List.set_append, e, h]
theorem get_app1 (U R : List Nat) (x : Nat) : (U ++ x :: R).getD U.length 0 = x := by simp [List.getD_eq_getElem?_getD]
theorem get_app2 (U V W : List Nat) (x y : Nat) : (U ++ x :: (V ++ y :: W)).getD (U.length + 1 + V.length) 0 = y := by
  have e : U.length + 1 + V.length - U.length = V.length + 1 := by omega
  have h : ¬ (U.length + 1 + V.length < U.length) := by omega
  simp [List.getD_eq_getElem?_getD, List.getElem?_append, e, h]
theorem cut_at {X : List Nat} {i : Nat} (h : i < X.length) : ∃ x, X.drop i = x :: X.drop (i + 1) ∧ X.take (i + 1) = X.take i ++ [x] :=
  ⟨X[i], List.drop_eq_getElem_cons h, List.take_succ_eq_append_getElem h⟩
def swC (P X Q Y S : List Nat) (i : Nat) : List Nat := P ++ (Y.take i ++ X.drop i) ++ Q ++ (X.take i ++ Y.drop i) ++ S
theorem swC_len {P X Q Y S : List Nat} (h : X.length = Y.length) (i : Nat) : (swC P X Q Y S i).length = (P ++ X ++ Q ++ Y ++ S).length := by simp [swC]; omega
theorem swC_0 (P X Q Y S : List Nat) : swC P X Q Y S 0 = P ++ X ++ Q ++ Y ++ S := by simp [swC]
theorem swC_n {P X Q Y S : List Nat} (h : X.length = Y.length) : swC P X Q Y S X.length = P ++ Y ++ Q ++ X ++ S := by
  unfold swC; rw [List.take_length, List.drop_length, h, List.take_length, List.drop_length]; simp
theorem swC_S {P X Q Y S : List Nat} (h : X.length = Y.length) {i a b : Nat} (hi : i < X.length) (ha : a = P.length + i) (hb : b = P.length + X.length + Q.length + i) :
    ((swC P X Q Y S i).set a ((swC P X Q Y S i).getD b 0)).set b ((swC P X Q Y S i).getD a 0) = swC P X Q Y S (i + 1) := by
  obtain ⟨x, hX, hx⟩ := cut_at hi
  obtain ⟨y, hY, hy⟩ := cut_at (show i < Y.length by omega)
  have e : swC P X Q Y S i = (P ++ Y.take i) ++ x :: ((X.drop (i + 1) ++ Q ++ X.take i) ++ y :: (Y.drop (i + 1) ++ S)) := by unfold swC; rw [hX, hY]; simp only [List.append_assoc, List.cons_append]
  have e2 : swC P X Q Y S (i + 1) = (P ++ Y.take i) ++ y :: ((X.drop (i + 1) ++ Q ++ X.take i) ++ x :: (Y.drop (i + 1) ++ S)) := by unfold swC; rw [hx, hy]; simp only [List.append_assoc, List.cons_append, List.nil_append]
  have ea : a = (P ++ Y.take i).length := by simp; omega
  have eb : b = (P ++ Y.take i).length + 1 + (X.drop (i + 1) ++ Q ++ X.take i).length := by simp; omega
  rw [e, e2, ea, eb, get_app1, get_app2, sw_app]
attribute [local irreducible] QRun LexD AWp TCall TMut fop fint fcmp fconv swC
theorem swapRange_c (N : Nat) (P X Q Y S L L' : List Nat) (a b n : Int) (hN : L.length = N) (hN2 : N ≤ 1048576) (hXY : X.length = Y.length) (hL : L = P ++ X ++ Q ++ Y ++ S) (hL' : L' = P ++ Y ++ Q ++ X ++ S) (ha : a = (P.length : Nat)) (hb : b = ((P.length + X.length + Q.length : Nat) : Int)) (hn : n = (X.length : Nat)) :
    TMut Try.prog 236 [.argo 0 900 0 N, .t (.v (.int .i64 a)), .t (.v (.int .i64 b)), .t (.v (.int .i64 n)), .arg 4 (.fn 214 [])] [(900, .sl 30 (.fl L))] (.tup []) [(900, .sl 30 (.fl L'))] [] := by
  subst ha hb hn
  have hlen := fun i => swC_len (P := P) (Q := Q) (S := S) hXY i
  rw [← hL, hN] at hlen
  have hsum : P.length + X.length + Q.length + Y.length ≤ N := by rw [← hN, hL]; simp; omega
  refine tmut_of Try.func236 rfl (by kernel_rfl) (Nat.le_of_ble_eq_true rfl) rfl ?_
  simp only [slotsL]
  repeat (first | (refine w_q (h := ?_)) | (refine w_s (h := ?_)) | (refine w_t (h := ?_)) | (refine w_k (h := ?_)) | (refine y_q (h := ?_)) | (refine y_s (h := ?_)) | (refine y_t (h := ?_)) | (refine y_k (h := ?_)) | (refine lex_nil (by kernel_rfl) ?_) | (refine awp_sq ?_) | (refine awp_rg ?_) | (refine awp_rd (by kernel_rfl) (by kernel_rfl) ?_) | (refine awp_block ?_) | (refine awp_exit ?_) | (refine awp_ret ?_) | (refine awp_skip ?_))
  refine awp_loop (X := Nat) (fun i => i ≤ X.length) (fun i => [(0, .argo 0 900 0 N), (1, .t (.v (.int .i64 (P.length : Nat)))), (2, .t (.v (.int .i64 ((P.length + X.length + Q.length : Nat) : Int)))), (3, .t (.v (.int .i64 (X.length : Nat)))), (10, .t (.v (.int .i64 (i : Nat))))])
    (fun i => [(900, .sl 30 (.fl (swC P X Q Y S i)))]) (fun i => X.length - i)
    0 ⟨by omega, fun i => i, ⟨rfl, rfl, rfl, rfl, rfl, trivial⟩, ⟨sl_eq (congrArg T.fl (by rw [swC_0, hL])), trivial⟩, injOn_id _⟩ (fun i hi => ?_)
  have hl := hlen i
  repeat (first | (refine w_q (h := ?_)) | (refine w_s (h := ?_)) | (refine w_t (h := ?_)) | (refine w_k (h := ?_)) | (refine y_q (h := ?_)) | (refine y_s (h := ?_)) | (refine y_t (h := ?_)) | (refine y_k (h := ?_)) | (refine lex_nil (by kernel_rfl) ?_) | (refine awp_sq ?_) | (refine awp_rg ?_) | (refine awp_rd (by kernel_rfl) (by kernel_rfl) ?_) | (refine awp_block ?_) | (refine awp_exit ?_) | (refine awp_ret ?_) | (refine awp_skip ?_))
  refine awp_if rfl (fun h => ?_) (fun h => ?_)
  · simp only [icmp, decide_eq_true_eq] at h
    have hix : i < X.length := by omega
    have hst := swC_S (P := P) (Q := Q) (S := S) hXY hix rfl rfl
    have hsl : ((swC P X Q Y S i).set (0 + (P.length + i)) ((swC P X Q Y S i).getD (0 + (P.length + X.length + Q.length + i)) 0)).length = N := by rw [List.length_set, hl]
    repeat (first | (refine w_q (h := ?_)) | (refine w_s (h := ?_)) | (refine w_t (h := ?_)) | (refine w_k (h := ?_)) | (refine y_q (h := ?_)) | (refine y_s (h := ?_)) | (refine y_t (h := ?_)) | (refine y_k (h := ?_)) | (refine lex_nil (by kernel_rfl) ?_) | (refine awp_sq ?_) | (refine awp_rg ?_) | (refine awp_rd (by kernel_rfl) (by kernel_rfl) ?_) | (refine awp_block ?_) | (refine awp_exit ?_) | (refine awp_ret ?_) | (refine awp_skip ?_) | (first | (refine w_r (q_idx_own (P.length + i) tyOk rfl rfl rfl rfl rfl rfl rfl (by omega) (by first | omega | (simp only [T.len]; omega) | assumption)) (h := ?_)) | (refine y_r (q_idx_own (P.length + i) tyOk rfl rfl rfl rfl rfl rfl rfl (by omega) (by first | omega | (simp only [T.len]; omega) | assumption)) (h := ?_))) | (first | (refine w_r (q_idx_own (P.length + X.length + Q.length + i) tyOk rfl rfl rfl rfl rfl rfl rfl (by omega) (by first | omega | (simp only [T.len]; omega) | assumption)) (h := ?_)) | (refine y_r (q_idx_own (P.length + X.length + Q.length + i) tyOk rfl rfl rfl rfl rfl rfl rfl (by omega) (by first | omega | (simp only [T.len]; omega) | assumption)) (h := ?_))))
    exact ⟨i + 1, by omega, by omega, fun i => i, ⟨rfl, rfl, rfl, rfl, congrArg (fun z => AV.t (T.v (Value.int .i64 z))) (show ((i : Nat) : Int) + 1 = ((i + 1 : Nat) : Int) by omega), trivial⟩, ⟨sl_eq (congrArg T.fl (by simp only [Nat.zero_add]; exact hst)), trivial⟩, injOn_id _⟩
  simp only [icmp, decide_eq_false_iff_not] at h
  obtain rfl : i = X.length := by omega
  rw [swC_n hXY, ← hL']
  repeat (first | (refine w_q (h := ?_)) | (refine w_s (h := ?_)) | (refine w_t (h := ?_)) | (refine w_k (h := ?_)) | (refine y_q (h := ?_)) | (refine y_s (h := ?_)) | (refine y_t (h := ?_)) | (refine y_k (h := ?_)) | (refine lex_nil (by kernel_rfl) ?_) | (refine awp_sq ?_) | (refine awp_rg ?_) | (refine awp_rd (by kernel_rfl) (by kernel_rfl) ?_) | (refine awp_block ?_) | (refine awp_exit ?_) | (refine awp_ret ?_) | (refine awp_skip ?_))
  refine mret_ok tyOk (by first | exact .inr rfl | exact .inl rfl) (piA 900 900) rfl .nil ?_ ⟨rfl, trivial⟩ (injO_1 _ _ _) (held1 0 0 900 0 _ 0 _ rfl rfl rfl)
  exact rr_tup .nil
def RotI (m : Nat) (L' : List Nat) (N : Nat) (x : Nat × Nat × List Nat) : Prop := ∃ P A B S, x.2.2 = P ++ A ++ B ++ S ∧ A.length = x.1 ∧ B.length = x.2.1 ∧ 1 ≤ x.1 ∧ 1 ≤ x.2.1 ∧ P.length + A.length = m ∧ L' = P ++ B ++ A ++ S ∧ x.2.2.length = N
theorem rotate_c (N : Nat) (P A B S L L' : List Nat) (a m b : Int) (hN : L.length = N) (hN2 : N ≤ 1048576) (h1 : 1 ≤ A.length) (h2 : 1 ≤ B.length) (hL : L = P ++ A ++ B ++ S) (hL' : L' = P ++ B ++ A ++ S) (ha : a = (P.length : Nat)) (hm : m = ((P.length + A.length : Nat) : Int)) (hb : b = ((P.length + A.length + B.length : Nat) : Int)) :
    TMut Try.prog 233 [.argo 0 900 0 N, .t (.v (.int .i64 a)), .t (.v (.int .i64 m)), .t (.v (.int .i64 b)), .arg 4 (.fn 214 [])] [(900, .sl 30 (.fl L))] (.tup []) [(900, .sl 30 (.fl L'))] [] := by
  subst ha hm hb
  have hsum : P.length + A.length + B.length ≤ N := by rw [← hN, hL]; simp; omega
  refine tmut_of Try.func233 rfl (by kernel_rfl) (Nat.le_of_ble_eq_true rfl) rfl ?_
  simp only [slotsL]
  repeat (first | (refine w_q (h := ?_)) | (refine w_s (h := ?_)) | (refine w_t (h := ?_)) | (refine w_k (h := ?_)) | (refine y_q (h := ?_)) | (refine y_s (h := ?_)) | (refine y_t (h := ?_)) | (refine y_k (h := ?_)) | (refine lex_nil (by kernel_rfl) ?_) | (refine awp_sq ?_) | (refine awp_rg ?_) | (refine awp_rd (by kernel_rfl) (by kernel_rfl) ?_) | (refine awp_block ?_) | (refine awp_exit ?_) | (refine awp_ret ?_) | (refine awp_skip ?_))
  generalize hmm : P.length + A.length = m at *
  refine awp_loop (X := Nat × Nat × List Nat) (RotI m L' N) (fun x => [(0, .argo 0 900 0 N), (2, .t (.v (.int .i64 (m : Nat)))), (4, .arg 4 (.fn 214 [])), (10, .t (.v (.int .i64 (x.1 : Nat)))), (11, .t (.v (.int .i64 (x.2.1 : Nat))))])
    (fun x => [(900, .sl 30 (.fl x.2.2))]) (fun x => x.1 + x.2.1)
    (A.length, B.length, L) ⟨⟨P, A, B, S, hL, rfl, rfl, h1, h2, hmm, hL', hN⟩, fun i => i, ⟨rfl, rfl, rfl, iESo (by simp only []; omega), iESo (by simp only []; omega), trivial⟩, ⟨rfl, trivial⟩, injOn_id _⟩ (fun x hx => ?_)
  obtain ⟨i, j, M⟩ := x
  obtain ⟨P, A, B, S, q1, q2, q3, q4, q5, q6, q7, q8⟩ := hx
  simp only [] at q1 q2 q3 q4 q5 q8
  have hs2 : m + j ≤ N := by rw [← q8, q1]; simp; omega
  dsimp only
  repeat (first | (refine w_q (h := ?_)) | (refine w_s (h := ?_)) | (refine w_t (h := ?_)) | (refine w_k (h := ?_)) | (refine y_q (h := ?_)) | (refine y_s (h := ?_)) | (refine y_t (h := ?_)) | (refine y_k (h := ?_)) | (refine lex_nil (by kernel_rfl) ?_) | (refine awp_sq ?_) | (refine awp_rg ?_) | (refine awp_rd (by kernel_rfl) (by kernel_rfl) ?_) | (refine awp_block ?_) | (refine awp_exit ?_) | (refine awp_ret ?_) | (refine awp_skip ?_))
  refine awp_if rfl (fun h => ?_) (fun h => ?_)
  · simp only [icmp, decide_eq_true_eq, bne_iff_ne, ne_eq] at h
    repeat (first | (refine w_q (h := ?_)) | (refine w_s (h := ?_)) | (refine w_t (h := ?_)) | (refine w_k (h := ?_)) | (refine y_q (h := ?_)) | (refine y_s (h := ?_)) | (refine y_t (h := ?_)) | (refine y_k (h := ?_)) | (refine lex_nil (by kernel_rfl) ?_) | (refine awp_sq ?_) | (refine awp_rg ?_) | (refine awp_rd (by kernel_rfl) (by kernel_rfl) ?_) | (refine awp_block ?_) | (refine awp_exit ?_) | (refine awp_ret ?_) | (refine awp_skip ?_))
    refine awp_if rfl (fun h3 => ?_) (fun h3 => ?_)
    · simp only [icmp, decide_eq_true_eq] at h3
      have hij : j < i := by omega
      -- A = A1 ++ A2, as long as B
      obtain ⟨A1, A2, rfl, hA1⟩ : ∃ A1 A2, A = A1 ++ A2 ∧ A1.length = j := ⟨A.take j, A.drop j, (List.take_append_drop _ _).symm, by simp; omega⟩
      rw [List.length_append] at q2 q6
      repeat (first | (refine w_q (h := ?_)) | (refine w_s (h := ?_)) | (refine w_t (h := ?_)) | (refine w_k (h := ?_)) | (refine y_q (h := ?_)) | (refine y_s (h := ?_)) | (refine y_t (h := ?_)) | (refine y_k (h := ?_)) | (refine lex_nil (by kernel_rfl) ?_) | (refine awp_sq ?_) | (refine awp_rg ?_) | (refine awp_rd (by kernel_rfl) (by kernel_rfl) ?_) | (refine awp_block ?_) | (refine awp_exit ?_) | (refine awp_ret ?_) | (refine awp_skip ?_))
      (refine m_s [(900, _)] (swapRange_c N P A1 A2 B S M (P ++ B ++ A2 ++ A1 ++ S) ((m : Int) - (i : Int)) (m : Nat) (j : Nat) q8 hN2 (by omega) (by rw [q1]; simp) rfl (by omega) (by omega) (by omega)) (h := ?_))
      repeat (first | (refine w_q (h := ?_)) | (refine w_s (h := ?_)) | (refine w_t (h := ?_)) | (refine w_k (h := ?_)) | (refine y_q (h := ?_)) | (refine y_s (h := ?_)) | (refine y_t (h := ?_)) | (refine y_k (h := ?_)) | (refine lex_nil (by kernel_rfl) ?_) | (refine awp_sq ?_) | (refine awp_rg ?_) | (refine awp_rd (by kernel_rfl) (by kernel_rfl) ?_) | (refine awp_block ?_) | (refine awp_exit ?_) | (refine awp_ret ?_) | (refine awp_skip ?_))
      exact ⟨(i - j, j, P ++ B ++ A2 ++ A1 ++ S), by simp only []; omega, ⟨P ++ B, A2, A1, S, by simp, by simp only []; omega, by simp only []; omega, by simp only []; omega, by simp only []; omega, by simp; omega, by rw [q7]; simp, by simp only []; rw [← q8, q1]; simp; omega⟩, fun i => i, ⟨rfl, rfl, rfl, iESo (by simp only []; omega), rfl, trivial⟩, ⟨rfl, trivial⟩, injOn_id _⟩
    · simp only [icmp, decide_eq_false_iff_not] at h3
      have hij : i < j := by omega
      obtain ⟨B1, B2, rfl, hB2⟩ : ∃ B1 B2, B = B1 ++ B2 ∧ B2.length = i := ⟨B.take (j - i), B.drop (j - i), (List.take_append_drop _ _).symm, by simp; omega⟩
      rw [List.length_append] at q3
      repeat (first | (refine w_q (h := ?_)) | (refine w_s (h := ?_)) | (refine w_t (h := ?_)) | (refine w_k (h := ?_)) | (refine y_q (h := ?_)) | (refine y_s (h := ?_)) | (refine y_t (h := ?_)) | (refine y_k (h := ?_)) | (refine lex_nil (by kernel_rfl) ?_) | (refine awp_sq ?_) | (refine awp_rg ?_) | (refine awp_rd (by kernel_rfl) (by kernel_rfl) ?_) | (refine awp_block ?_) | (refine awp_exit ?_) | (refine awp_ret ?_) | (refine awp_skip ?_))
      (refine m_s [(900, _)] (swapRange_c N P A B1 B2 S M (P ++ B2 ++ B1 ++ A ++ S) ((m : Int) - (i : Int)) ((m : Int) + (j : Int) - (i : Int)) (i : Nat) q8 hN2 (by omega) (by rw [q1]; simp) rfl (by omega) (by omega) (by omega)) (h := ?_))
      repeat (first | (refine w_q (h := ?_)) | (refine w_s (h := ?_)) | (refine w_t (h := ?_)) | (refine w_k (h := ?_)) | (refine y_q (h := ?_)) | (refine y_s (h := ?_)) | (refine y_t (h := ?_)) | (refine y_k (h := ?_)) | (refine lex_nil (by kernel_rfl) ?_) | (refine awp_sq ?_) | (refine awp_rg ?_) | (refine awp_rd (by kernel_rfl) (by kernel_rfl) ?_) | (refine awp_block ?_) | (refine awp_exit ?_) | (refine awp_ret ?_) | (refine awp_skip ?_))
      exact ⟨(i, j - i, P ++ B2 ++ B1 ++ A ++ S), by simp only []; omega, ⟨P, B2, B1, A ++ S, by simp, by simp only []; omega, by simp only []; omega, by simp only []; omega, by simp only []; omega, by omega, by rw [q7]; simp, by simp only []; rw [← q8, q1]; simp; omega⟩, fun i => i, ⟨rfl, rfl, rfl, rfl, iESo (by simp only []; omega), trivial⟩, ⟨rfl, trivial⟩, injOn_id _⟩
  simp only [icmp] at h
  have hij : i = j := by
    have h0 : (i : Int) = (j : Int) := by simpa using h
    omega
  subst hij
  repeat (first | (refine w_q (h := ?_)) | (refine w_s (h := ?_)) | (refine w_t (h := ?_)) | (refine w_k (h := ?_)) | (refine y_q (h := ?_)) | (refine y_s (h := ?_)) | (refine y_t (h := ?_)) | (refine y_k (h := ?_)) | (refine lex_nil (by kernel_rfl) ?_) | (refine awp_sq ?_) | (refine awp_rg ?_) | (refine awp_rd (by kernel_rfl) (by kernel_rfl) ?_) | (refine awp_block ?_) | (refine awp_exit ?_) | (refine awp_ret ?_) | (refine awp_skip ?_))
  (refine m_s [(900, _)] (swapRange_c N P A [] B S M L' ((m : Int) - (i : Int)) (m : Nat) (i : Nat) q8 hN2 (by omega) (by rw [q1]; simp) (by rw [q7]; simp) (by omega) (by simp only [List.length_nil]; omega) (by omega)) (h := ?_))
  repeat (first | (refine w_q (h := ?_)) | (refine w_s (h := ?_)) | (refine w_t (h := ?_)) | (refine w_k (h := ?_)) | (refine y_q (h := ?_)) | (refine y_s (h := ?_)) | (refine y_t (h := ?_)) | (refine y_k (h := ?_)) | (refine lex_nil (by kernel_rfl) ?_) | (refine awp_sq ?_) | (refine awp_rg ?_) | (refine awp_rd (by kernel_rfl) (by kernel_rfl) ?_) | (refine awp_block ?_) | (refine awp_exit ?_) | (refine awp_ret ?_) | (refine awp_skip ?_))
  refine mret_ok tyOk (by first | exact .inr rfl | exact .inl rfl) (piA 900 900) rfl .nil ?_ ⟨rfl, trivial⟩ (injO_1 _ _ _) (held1 0 0 900 0 _ 0 _ rfl rfl rfl)
  exact rr_tup .nil
end Go.Proofs.Ytmnpdipiffmnhaa

