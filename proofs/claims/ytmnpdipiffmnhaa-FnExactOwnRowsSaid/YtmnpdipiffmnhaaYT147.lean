import Derived.Test.YtmnpdipiffmnhaaYT146
set_option linter.unusedVariables false
set_option linter.unusedSimpArgs false
set_option maxRecDepth 20000
set_option maxHeartbeats 16000000
namespace Go.Proofs.Ytmnpdipiffmnhaa
open Go.Aw

/-! ### the nearest terms, the reference's -/
/-- n columns of N numbers -/
structure ColsV (C : List (List Nat)) (N : Nat) : Prop where
  lo : 1 ≤ C.length
  hi : C.length ≤ 6
  len : ∀ i, i < C.length → (C.getD i []).length = N
  ser : ∀ i, i < C.length → isSer (C.getD i []) = true
  n96 : N ≤ 96
theorem dotN_F (a b : List Nat) : ∀ n, F32 (dotN a b n)
  | 0 => by show F32 0; exact ⟨canon_not (by decide +kernel), by decide⟩
  | n + 1 => F32_fop _ _ _
theorem gM_FM (C : List (List Nat)) (y : List Nat) : FM (gM C y) := fun r c => by
  unfold gM
  split <;> exact dotN_F _ _ _
theorem gM_in {C : List (List Nat)} {y : List Nat} {N i k : Nat} (h : ColsV C N) (hi : i < C.length) (hk : k < C.length) : gM C y i k = dotN (C.getD i []) (C.getD k []) N := by
  unfold gM dotF
  rw [if_pos hk, h.len i hi]
theorem gM_y {C : List (List Nat)} {y : List Nat} {N i : Nat} (h : ColsV C N) (hi : i < C.length) : gM C y i C.length = dotN (C.getD i []) y N := by
  unfold gM dotF
  rw [if_neg (Nat.lt_irrefl _), h.len i hi]
theorem take_snoc2 {l : List Nat} {n x : Nat} (h : n < l.length) (hx : l.getD n 0 = x) : l.take n ++ [x] = l.take (n + 1) := by
  subst hx
  rw [List.take_succ_eq_append_getElem h, List.getD_eq_getElem?_getD, List.getElem?_eq_getElem h]; rfl
theorem dotN_0 (a b : List Nat) : dotN a b 0 = 0 := rfl
theorem dotN_S (a b : List Nat) (n : Nat) : dotN a b (n + 1) = fop .add .f32 (dotN a b n) (fop .mul .f32 (a.getD n 0) (b.getD n 0)) := rfl
theorem flat_row {n i : Nat} (h : i + 1 ≤ n) : i * n + n = (i + 1) * n := by rw [Nat.add_mul, Nat.one_mul]
theorem gOk_bad {n : Nat} {M : Mx} (h : gF n M = false) : gOk n M n = false := gOk_no (Nat.zero_le n) h
attribute [local irreducible] QRun LexD AWp TCall TMut fop fint fcmp fconv flatA colB gI gP gE gS gEr gErc gSc gT gB gOk gF gV gZ gN solF sz3 absF dotN gM
theorem l03Fit_c (C : List (List Nat)) (y : List Nat) (N : Nat) (hC : ColsV C N) (hy : y.length = N) :
    TCall Try.prog 182 [.ffl C, .fl y] (.tup [.own 0 (solF C.length (gM C y)).1.length, .t (.v (.bool (solF C.length (gM C y)).2))]) [(0, .sl 30 (.fl (solF C.length (gM C y)).1))] := by
  have hM := gM_FM C y
  have hN := hC.n96
  have hg1 := fun i k => @gM_in C y N i k hC
  have hg2 := fun i => @gM_y C y N i hC
  have hlo := hC.lo
  have hhi := hC.hi
  have hlen := hC.len
  clear hC
  generalize hn : C.length = n at *
  generalize hMd : gM C y = M at *
  have hnn : n * n ≤ 36 := Nat.mul_le_mul hhi hhi
  have hal := flatA_len n M
  have hbl := colB_len n M
  refine tcall_of Try.func182 rfl (by kernel_rfl) (Nat.le_of_ble_eq_true rfl) rfl ?_
  simp only [argsL, argAV, argCs, argS]
  repeat (first | (refine w_q (h := ?_)) | (refine w_s (h := ?_)) | (refine w_t (h := ?_)) | (refine w_k (h := ?_)) | (refine y_q (h := ?_)) | (refine y_s (h := ?_)) | (refine y_t (h := ?_)) | (refine y_k (h := ?_)) | (refine lex_nil (by kernel_rfl) ?_) | (refine awp_sq ?_) | (refine awp_rg ?_) | (refine awp_rd (by kernel_rfl) (by kernel_rfl) ?_) | (refine awp_block ?_) | (refine awp_exit ?_) | (refine awp_ret ?_) | (refine awp_skip ?_) | (refine w_r (q_build tyOk rfl rfl rfl rfl rfl rfl rfl rfl) (h := ?_)) | (refine y_r (q_build tyOk rfl rfl rfl rfl rfl rfl rfl rfl) (h := ?_)))
  refine awp_loop (X := Nat) (fun i => i ≤ n) (fun i => [(0, .arg 0 (.ffl C)), (1, .arg 1 (.fl y)), (6, .own 14 0 (i * n)), (7, .own 15 0 i), (17, .t (.v (.int .i64 (n : Nat)))), (18, .t (.v (.int .i64 (i : Nat))))])
    (fun i => [(14, .sl 30 (.fl ((flatA n M).take (i * n)))), (15, .sl 30 (.fl ((colB n M).take i)))]) (fun i => n - i)
    0 ⟨by omega, fun i => i, ⟨rfl, rfl, own_eq (by rw [Nat.zero_mul]), rfl, iE9' (by show ((C.length : Nat) : Int) = _; rw [hn]), rfl, trivial⟩, ⟨sl_eq (by rw [Nat.zero_mul]; rfl), rfl, trivial⟩, injOn_id _⟩ (fun i hi => ?_)
  repeat (first | (refine w_q (h := ?_)) | (refine w_s (h := ?_)) | (refine w_t (h := ?_)) | (refine w_k (h := ?_)) | (refine y_q (h := ?_)) | (refine y_s (h := ?_)) | (refine y_t (h := ?_)) | (refine y_k (h := ?_)) | (refine lex_nil (by kernel_rfl) ?_) | (refine awp_sq ?_) | (refine awp_rg ?_) | (refine awp_rd (by kernel_rfl) (by kernel_rfl) ?_) | (refine awp_block ?_) | (refine awp_exit ?_) | (refine awp_ret ?_) | (refine awp_skip ?_) | (refine w_r (q_build tyOk rfl rfl rfl rfl rfl rfl rfl rfl) (h := ?_)) | (refine y_r (q_build tyOk rfl rfl rfl rfl rfl rfl rfl rfl) (h := ?_)))
  refine awp_if rfl (fun h => ?_) (fun h => ?_)
  · simp only [icmp, decide_eq_true_eq] at h
    have hin : i < n := by omega
    have hli := hlen i hin
    have hfr := flat_row hin
    have him : (i + 1) * n ≤ n * n := Nat.mul_le_mul_right n hin
    have hz2 : ((colB n M).take i).length = i := by rw [List.length_take, hbl]; omega
    repeat (first | (refine w_q (h := ?_)) | (refine w_s (h := ?_)) | (refine w_t (h := ?_)) | (refine w_k (h := ?_)) | (refine y_q (h := ?_)) | (refine y_s (h := ?_)) | (refine y_t (h := ?_)) | (refine y_k (h := ?_)) | (refine lex_nil (by kernel_rfl) ?_) | (refine awp_sq ?_) | (refine awp_rg ?_) | (refine awp_rd (by kernel_rfl) (by kernel_rfl) ?_) | (refine awp_block ?_) | (refine awp_exit ?_) | (refine awp_ret ?_) | (refine awp_skip ?_) | (refine w_r (q_build tyOk rfl rfl rfl rfl rfl rfl rfl rfl) (h := ?_)) | (refine y_r (q_build tyOk rfl rfl rfl rfl rfl rfl rfl rfl) (h := ?_)))
    refine awp_loop (X := Nat) (fun k => k ≤ n) (fun k => [(0, .arg 0 (.ffl C)), (1, .arg 1 (.fl y)), (6, .own 14 0 (i * n + k)), (7, .own 15 0 i), (8, .t (.v (.int .i64 (i : Nat)))), (17, .t (.v (.int .i64 (n : Nat)))), (18, .t (.v (.int .i64 (i : Nat)))), (22, .t (.v (.int .i64 (n : Nat)))), (23, .t (.v (.int .i64 (k : Nat))))])
      (fun k => [(14, .sl 30 (.fl ((flatA n M).take (i * n + k)))), (15, .sl 30 (.fl ((colB n M).take i)))]) (fun k => n - k)
      0 ⟨by omega, fun i => i, ⟨rfl, rfl, rfl, rfl, rfl, rfl, rfl, iE9' (by show ((C.length : Nat) : Int) = _; rw [hn]), rfl, trivial⟩, ⟨rfl, rfl, trivial⟩, injOn_id _⟩ (fun k hk => ?_)
    have hz1 : ((flatA n M).take (i * n + k)).length = i * n + k := by rw [List.length_take, hal]; omega
    repeat (first | (refine w_q (h := ?_)) | (refine w_s (h := ?_)) | (refine w_t (h := ?_)) | (refine w_k (h := ?_)) | (refine y_q (h := ?_)) | (refine y_s (h := ?_)) | (refine y_t (h := ?_)) | (refine y_k (h := ?_)) | (refine lex_nil (by kernel_rfl) ?_) | (refine awp_sq ?_) | (refine awp_rg ?_) | (refine awp_rd (by kernel_rfl) (by kernel_rfl) ?_) | (refine awp_block ?_) | (refine awp_exit ?_) | (refine awp_ret ?_) | (refine awp_skip ?_) | (refine w_r (q_build tyOk rfl rfl rfl rfl rfl rfl rfl rfl) (h := ?_)) | (refine y_r (q_build tyOk rfl rfl rfl rfl rfl rfl rfl rfl) (h := ?_)))
    refine awp_if rfl (fun h2 => ?_) (fun h2 => ?_)
    · simp only [icmp, decide_eq_true_eq] at h2
      have hkn : k < n := by omega
      have hlk := hlen k hkn
      have hgk := hg1 i k hin hkn
      have hfl := flatA_get (M := M) hin hkn
      have hfb := flat_lt hin hkn
      repeat (first | (refine w_q (h := ?_)) | (refine w_s (h := ?_)) | (refine w_t (h := ?_)) | (refine w_k (h := ?_)) | (refine y_q (h := ?_)) | (refine y_s (h := ?_)) | (refine y_t (h := ?_)) | (refine y_k (h := ?_)) | (refine lex_nil (by kernel_rfl) ?_) | (refine awp_sq ?_) | (refine awp_rg ?_) | (refine awp_rd (by kernel_rfl) (by kernel_rfl) ?_) | (refine awp_block ?_) | (refine awp_exit ?_) | (refine awp_ret ?_) | (refine awp_skip ?_) | (refine w_r (q_build tyOk rfl rfl rfl rfl rfl rfl rfl rfl) (h := ?_)) | (refine y_r (q_build tyOk rfl rfl rfl rfl rfl rfl rfl rfl) (h := ?_)))
      refine awp_loop (X := Nat) (fun j => j ≤ N) (fun j => [(0, .arg 0 (.ffl C)), (1, .arg 1 (.fl y)), (6, .own 14 0 (i * n + k)), (7, .own 15 0 i), (8, .t (.v (.int .i64 (i : Nat)))), (9, .t (.v (.int .i64 (k : Nat)))), (10, .t (.f .f32 (dotN (C.getD i []) (C.getD k []) j))), (17, .t (.v (.int .i64 (n : Nat)))), (18, .t (.v (.int .i64 (i : Nat)))), (22, .t (.v (.int .i64 (n : Nat)))), (23, .t (.v (.int .i64 (k : Nat)))), (27, .t (.v (.int .i64 (N : Nat)))), (28, .t (.v (.int .i64 (j : Nat))))])
        (fun j => [(14, .sl 30 (.fl ((flatA n M).take (i * n + k)))), (15, .sl 30 (.fl ((colB n M).take i)))]) (fun j => N - j)
        0 ⟨by omega, fun i => i, ⟨rfl, rfl, rfl, rfl, rfl, rfl, fE2 (dotN_0 _ _).symm, rfl, rfl, rfl, rfl, iE9' (by show ((y.length : Nat) : Int) = _; rw [hy]), rfl, trivial⟩, ⟨rfl, rfl, trivial⟩, injOn_id _⟩ (fun j hj => ?_)
      repeat (first | (refine w_q (h := ?_)) | (refine w_s (h := ?_)) | (refine w_t (h := ?_)) | (refine w_k (h := ?_)) | (refine y_q (h := ?_)) | (refine y_s (h := ?_)) | (refine y_t (h := ?_)) | (refine y_k (h := ?_)) | (refine lex_nil (by kernel_rfl) ?_) | (refine awp_sq ?_) | (refine awp_rg ?_) | (refine awp_rd (by kernel_rfl) (by kernel_rfl) ?_) | (refine awp_block ?_) | (refine awp_exit ?_) | (refine awp_ret ?_) | (refine awp_skip ?_) | (refine w_r (q_build tyOk rfl rfl rfl rfl rfl rfl rfl rfl) (h := ?_)) | (refine y_r (q_build tyOk rfl rfl rfl rfl rfl rfl rfl rfl) (h := ?_)))
      refine awp_if rfl (fun h3 => ?_) (fun h3 => ?_)
      · simp only [icmp, decide_eq_true_eq] at h3
        repeat (first | (refine w_q (h := ?_)) | (refine w_s (h := ?_)) | (refine w_t (h := ?_)) | (refine w_k (h := ?_)) | (refine y_q (h := ?_)) | (refine y_s (h := ?_)) | (refine y_t (h := ?_)) | (refine y_k (h := ?_)) | (refine lex_nil (by kernel_rfl) ?_) | (refine awp_sq ?_) | (refine awp_rg ?_) | (refine awp_rd (by kernel_rfl) (by kernel_rfl) ?_) | (refine awp_block ?_) | (refine awp_exit ?_) | (refine awp_ret ?_) | (refine awp_skip ?_) | (refine w_r (q_build tyOk rfl rfl rfl rfl rfl rfl rfl rfl) (h := ?_)) | (refine y_r (q_build tyOk rfl rfl rfl rfl rfl rfl rfl rfl) (h := ?_)))
        exact ⟨j + 1, by omega, by omega, fun i => i, ⟨rfl, rfl, rfl, rfl, rfl, rfl, fE2 (dotN_S _ _ _).symm, rfl, rfl, rfl, rfl, rfl, iE9' (by omega), trivial⟩, ⟨rfl, rfl, trivial⟩, injOn_id _⟩
      simp only [icmp, decide_eq_false_iff_not] at h3
      obtain rfl : N = j := by omega
      rw [← hgk]
      repeat (first | (refine w_q (h := ?_)) | (refine w_s (h := ?_)) | (refine w_t (h := ?_)) | (refine w_k (h := ?_)) | (refine y_q (h := ?_)) | (refine y_s (h := ?_)) | (refine y_t (h := ?_)) | (refine y_k (h := ?_)) | (refine lex_nil (by kernel_rfl) ?_) | (refine awp_sq ?_) | (refine awp_rg ?_) | (refine awp_rd (by kernel_rfl) (by kernel_rfl) ?_) | (refine awp_block ?_) | (refine awp_exit ?_) | (refine awp_ret ?_) | (refine awp_skip ?_) | (refine w_r (q_build tyOk rfl rfl rfl rfl rfl rfl rfl rfl) (h := ?_)) | (refine y_r (q_build tyOk rfl rfl rfl rfl rfl rfl rfl rfl) (h := ?_)))
      (first | (refine a_s (hn := by exact hz1) (h := ?_)) | (refine b_s (hn := by exact hz1) (h := ?_)))
      repeat (first | (refine w_q (h := ?_)) | (refine w_s (h := ?_)) | (refine w_t (h := ?_)) | (refine w_k (h := ?_)) | (refine y_q (h := ?_)) | (refine y_s (h := ?_)) | (refine y_t (h := ?_)) | (refine y_k (h := ?_)) | (refine lex_nil (by kernel_rfl) ?_) | (refine awp_sq ?_) | (refine awp_rg ?_) | (refine awp_rd (by kernel_rfl) (by kernel_rfl) ?_) | (refine awp_block ?_) | (refine awp_exit ?_) | (refine awp_ret ?_) | (refine awp_skip ?_) | (refine w_r (q_build tyOk rfl rfl rfl rfl rfl rfl rfl rfl) (h := ?_)) | (refine y_r (q_build tyOk rfl rfl rfl rfl rfl rfl rfl rfl) (h := ?_)))
      exact ⟨k + 1, by omega, by omega, fun i => i, ⟨rfl, rfl, own_eq (by simp only [T.app, T.len, List.length_append, hz1]; rfl), rfl, rfl, rfl, rfl, rfl, iE9' (by omega), trivial⟩, ⟨sl_eq (congrArg T.fl (take_snoc2 (by omega) hfl)), rfl, trivial⟩, injOn_id _⟩
    simp only [icmp, decide_eq_false_iff_not] at h2
    obtain rfl : n = k := by omega
    have hgi := hg2 i hin
    have hbg := colB_get (M := M) hin
    repeat (first | (refine w_q (h := ?_)) | (refine w_s (h := ?_)) | (refine w_t (h := ?_)) | (refine w_k (h := ?_)) | (refine y_q (h := ?_)) | (refine y_s (h := ?_)) | (refine y_t (h := ?_)) | (refine y_k (h := ?_)) | (refine lex_nil (by kernel_rfl) ?_) | (refine awp_sq ?_) | (refine awp_rg ?_) | (refine awp_rd (by kernel_rfl) (by kernel_rfl) ?_) | (refine awp_block ?_) | (refine awp_exit ?_) | (refine awp_ret ?_) | (refine awp_skip ?_) | (refine w_r (q_build tyOk rfl rfl rfl rfl rfl rfl rfl rfl) (h := ?_)) | (refine y_r (q_build tyOk rfl rfl rfl rfl rfl rfl rfl rfl) (h := ?_)))
    refine awp_loop (X := Nat) (fun j => j ≤ N) (fun j => [(0, .arg 0 (.ffl C)), (1, .arg 1 (.fl y)), (6, .own 14 0 (i * n + n)), (7, .own 15 0 i), (8, .t (.v (.int .i64 (i : Nat)))), (12, .t (.f .f32 (dotN (C.getD i []) y j))), (17, .t (.v (.int .i64 (n : Nat)))), (18, .t (.v (.int .i64 (i : Nat)))), (55, .t (.v (.int .i64 (N : Nat)))), (56, .t (.v (.int .i64 (j : Nat))))])
      (fun j => [(14, .sl 30 (.fl ((flatA n M).take (i * n + n)))), (15, .sl 30 (.fl ((colB n M).take i)))]) (fun j => N - j)
      0 ⟨by omega, fun i => i, ⟨rfl, rfl, rfl, rfl, rfl, fE2 (dotN_0 _ _).symm, rfl, rfl, iE9' (by show ((y.length : Nat) : Int) = _; rw [hy]), rfl, trivial⟩, ⟨rfl, rfl, trivial⟩, injOn_id _⟩ (fun j hj => ?_)
    repeat (first | (refine w_q (h := ?_)) | (refine w_s (h := ?_)) | (refine w_t (h := ?_)) | (refine w_k (h := ?_)) | (refine y_q (h := ?_)) | (refine y_s (h := ?_)) | (refine y_t (h := ?_)) | (refine y_k (h := ?_)) | (refine lex_nil (by kernel_rfl) ?_) | (refine awp_sq ?_) | (refine awp_rg ?_) | (refine awp_rd (by kernel_rfl) (by kernel_rfl) ?_) | (refine awp_block ?_) | (refine awp_exit ?_) | (refine awp_ret ?_) | (refine awp_skip ?_) | (refine w_r (q_build tyOk rfl rfl rfl rfl rfl rfl rfl rfl) (h := ?_)) | (refine y_r (q_build tyOk rfl rfl rfl rfl rfl rfl rfl rfl) (h := ?_)))
    refine awp_if rfl (fun h3 => ?_) (fun h3 => ?_)
    · simp only [icmp, decide_eq_true_eq] at h3
      repeat (first | (refine w_q (h := ?_)) | (refine w_s (h := ?_)) | (refine w_t (h := ?_)) | (refine w_k (h := ?_)) | (refine y_q (h := ?_)) | (refine y_s (h := ?_)) | (refine y_t (h := ?_)) | (refine y_k (h := ?_)) | (refine lex_nil (by kernel_rfl) ?_) | (refine awp_sq ?_) | (refine awp_rg ?_) | (refine awp_rd (by kernel_rfl) (by kernel_rfl) ?_) | (refine awp_block ?_) | (refine awp_exit ?_) | (refine awp_ret ?_) | (refine awp_skip ?_) | (refine w_r (q_build tyOk rfl rfl rfl rfl rfl rfl rfl rfl) (h := ?_)) | (refine y_r (q_build tyOk rfl rfl rfl rfl rfl rfl rfl rfl) (h := ?_)))
      exact ⟨j + 1, by omega, by omega, fun i => i, ⟨rfl, rfl, rfl, rfl, rfl, fE2 (dotN_S _ _ _).symm, rfl, rfl, rfl, iE9' (by omega), trivial⟩, ⟨rfl, rfl, trivial⟩, injOn_id _⟩
    simp only [icmp, decide_eq_false_iff_not] at h3
    obtain rfl : N = j := by omega
    rw [← hgi]
    repeat (first | (refine w_q (h := ?_)) | (refine w_s (h := ?_)) | (refine w_t (h := ?_)) | (refine w_k (h := ?_)) | (refine y_q (h := ?_)) | (refine y_s (h := ?_)) | (refine y_t (h := ?_)) | (refine y_k (h := ?_)) | (refine lex_nil (by kernel_rfl) ?_) | (refine awp_sq ?_) | (refine awp_rg ?_) | (refine awp_rd (by kernel_rfl) (by kernel_rfl) ?_) | (refine awp_block ?_) | (refine awp_exit ?_) | (refine awp_ret ?_) | (refine awp_skip ?_) | (refine w_r (q_build tyOk rfl rfl rfl rfl rfl rfl rfl rfl) (h := ?_)) | (refine y_r (q_build tyOk rfl rfl rfl rfl rfl rfl rfl rfl) (h := ?_)))
    (first | (refine a_s (hn := by exact hz2) (h := ?_)) | (refine b_s (hn := by exact hz2) (h := ?_)))
    repeat (first | (refine w_q (h := ?_)) | (refine w_s (h := ?_)) | (refine w_t (h := ?_)) | (refine w_k (h := ?_)) | (refine y_q (h := ?_)) | (refine y_s (h := ?_)) | (refine y_t (h := ?_)) | (refine y_k (h := ?_)) | (refine lex_nil (by kernel_rfl) ?_) | (refine awp_sq ?_) | (refine awp_rg ?_) | (refine awp_rd (by kernel_rfl) (by kernel_rfl) ?_) | (refine awp_block ?_) | (refine awp_exit ?_) | (refine awp_ret ?_) | (refine awp_skip ?_) | (refine w_r (q_build tyOk rfl rfl rfl rfl rfl rfl rfl rfl) (h := ?_)) | (refine y_r (q_build tyOk rfl rfl rfl rfl rfl rfl rfl rfl) (h := ?_)))
    exact ⟨i + 1, by omega, by omega, fun i => i, ⟨rfl, rfl, own_eq hfr, own_eq (by simp only [T.app, T.len, List.length_append, hz2]; rfl), rfl, iE9' (by omega), trivial⟩, ⟨sl_eq (by rw [hfr]), sl_eq (congrArg T.fl (take_snoc2 (by omega) hbg)), trivial⟩, injOn_id _⟩
  simp only [icmp, decide_eq_false_iff_not] at h
  obtain rfl : n = i := by omega
  rw [List.take_of_length_le (by omega : (flatA n M).length ≤ n * n), List.take_of_length_le (by omega : (colB n M).length ≤ n)]
  have hF := flat_F n M
  repeat (first | (refine w_q (h := ?_)) | (refine w_s (h := ?_)) | (refine w_t (h := ?_)) | (refine w_k (h := ?_)) | (refine y_q (h := ?_)) | (refine y_s (h := ?_)) | (refine y_t (h := ?_)) | (refine y_k (h := ?_)) | (refine lex_nil (by kernel_rfl) ?_) | (refine awp_sq ?_) | (refine awp_rg ?_) | (refine awp_rd (by kernel_rfl) (by kernel_rfl) ?_) | (refine awp_block ?_) | (refine awp_exit ?_) | (refine awp_ret ?_) | (refine awp_skip ?_) | (refine w_r (q_build tyOk rfl rfl rfl rfl rfl rfl rfl rfl) (h := ?_)) | (refine y_r (q_build tyOk rfl rfl rfl rfl rfl rfl rfl rfl) (h := ?_)))
  (first | (refine c_q (l02Finite_c (flatA n M) (by omega)) (h := ?_)) | (refine z_q (l02Finite_c (flatA n M) (by omega)) (h := ?_)))
  repeat (first | (refine w_q (h := ?_)) | (refine w_s (h := ?_)) | (refine w_t (h := ?_)) | (refine w_k (h := ?_)) | (refine y_q (h := ?_)) | (refine y_s (h := ?_)) | (refine y_t (h := ?_)) | (refine y_k (h := ?_)) | (refine lex_nil (by kernel_rfl) ?_) | (refine awp_sq ?_) | (refine awp_rg ?_) | (refine awp_rd (by kernel_rfl) (by kernel_rfl) ?_) | (refine awp_block ?_) | (refine awp_exit ?_) | (refine awp_ret ?_) | (refine awp_skip ?_) | (refine w_r (q_build tyOk rfl rfl rfl rfl rfl rfl rfl rfl) (h := ?_)) | (refine y_r (q_build tyOk rfl rfl rfl rfl rfl rfl rfl rfl) (h := ?_)))
  refine lex_if rfl rfl rfl (fun h5 => ?_) (fun h5 => ?_)
  · simp only [Bool.not_eq_true'] at h5
    rw [h5, Bool.false_and] at hF
    rw [solF_no (gOk_bad hF.symm)]
    repeat (first | (refine w_q (h := ?_)) | (refine w_s (h := ?_)) | (refine w_t (h := ?_)) | (refine w_k (h := ?_)) | (refine y_q (h := ?_)) | (refine y_s (h := ?_)) | (refine y_t (h := ?_)) | (refine y_k (h := ?_)) | (refine lex_nil (by kernel_rfl) ?_) | (refine awp_sq ?_) | (refine awp_rg ?_) | (refine awp_rd (by kernel_rfl) (by kernel_rfl) ?_) | (refine awp_block ?_) | (refine awp_exit ?_) | (refine awp_ret ?_) | (refine awp_skip ?_) | (refine w_r (q_build tyOk rfl rfl rfl rfl rfl rfl rfl rfl) (h := ?_)) | (refine y_r (q_build tyOk rfl rfl rfl rfl rfl rfl rfl rfl) (h := ?_)))
    refine awp_ifT rfl rfl ?_
    repeat (first | (refine w_q (h := ?_)) | (refine w_s (h := ?_)) | (refine w_t (h := ?_)) | (refine w_k (h := ?_)) | (refine y_q (h := ?_)) | (refine y_s (h := ?_)) | (refine y_t (h := ?_)) | (refine y_k (h := ?_)) | (refine lex_nil (by kernel_rfl) ?_) | (refine awp_sq ?_) | (refine awp_rg ?_) | (refine awp_rd (by kernel_rfl) (by kernel_rfl) ?_) | (refine awp_block ?_) | (refine awp_exit ?_) | (refine awp_ret ?_) | (refine awp_skip ?_) | (refine w_r (q_build tyOk rfl rfl rfl rfl rfl rfl rfl rfl) (h := ?_)) | (refine y_r (q_build tyOk rfl rfl rfl rfl rfl rfl rfl rfl) (h := ?_)))
    (refine ret_ok tyOk (by first | exact .inr rfl | exact .inl rfl) pi0 rfl (by first | exact .cons (by first | exact .tmp | exact .cell rfl rfl rfl rfl rfl rfl | exact .cell1 rfl rfl rfl rfl rfl) .nil | exact .cons (by first | exact .tmp | exact .cell rfl rfl rfl rfl rfl rfl | exact .cell1 rfl rfl rfl rfl rfl) (.cons (by first | exact .tmp | exact .cell rfl rfl rfl rfl rfl rfl | exact .cell1 rfl rfl rfl rfl rfl) .nil) | exact .cons (by first | exact .tmp | exact .cell rfl rfl rfl rfl rfl rfl | exact .cell1 rfl rfl rfl rfl rfl) (.cons (by first | exact .tmp | exact .cell rfl rfl rfl rfl rfl rfl | exact .cell1 rfl rfl rfl rfl rfl) (.cons (by first | exact .tmp | exact .cell rfl rfl rfl rfl rfl rfl | exact .cell1 rfl rfl rfl rfl rfl) .nil)) | exact .cons (by first | exact .tmp | exact .cell rfl rfl rfl rfl rfl rfl | exact .cell1 rfl rfl rfl rfl rfl) (.cons (by first | exact .tmp | exact .cell rfl rfl rfl rfl rfl rfl | exact .cell1 rfl rfl rfl rfl rfl) (.cons (by first | exact .tmp | exact .cell rfl rfl rfl rfl rfl rfl | exact .cell1 rfl rfl rfl rfl rfl) (.cons (by first | exact .tmp | exact .cell rfl rfl rfl rfl rfl rfl | exact .cell1 rfl rfl rfl rfl rfl) .nil)))) ?_ ⟨⟨_, _, rfl, rfl, rfl⟩, trivial⟩ (injO_1 _ _ _); (repeat' (first | exact RetRelL.nil | (refine RetRel.nil rfl ?_) | refine RetRelL.cons ?_ ?_ | refine rr_tup ?_ | refine rr_agg ?_ | refine rr_own rfl ?_ | exact RetRel.arg | exact RetRel.argc | refine rr_t ?_)); all_goals rfl)
  simp only [Bool.not_eq_false'] at h5
  rw [h5, Bool.true_and] at hF
  repeat (first | (refine w_q (h := ?_)) | (refine w_s (h := ?_)) | (refine w_t (h := ?_)) | (refine w_k (h := ?_)) | (refine y_q (h := ?_)) | (refine y_s (h := ?_)) | (refine y_t (h := ?_)) | (refine y_k (h := ?_)) | (refine lex_nil (by kernel_rfl) ?_) | (refine awp_sq ?_) | (refine awp_rg ?_) | (refine awp_rd (by kernel_rfl) (by kernel_rfl) ?_) | (refine awp_block ?_) | (refine awp_exit ?_) | (refine awp_ret ?_) | (refine awp_skip ?_) | (refine w_r (q_build tyOk rfl rfl rfl rfl rfl rfl rfl rfl) (h := ?_)) | (refine y_r (q_build tyOk rfl rfl rfl rfl rfl rfl rfl rfl) (h := ?_)))
  (first | (refine c_q (l02Finite_c (colB n M) (by omega)) (h := ?_)) | (refine z_q (l02Finite_c (colB n M) (by omega)) (h := ?_)))
  repeat (first | (refine w_q (h := ?_)) | (refine w_s (h := ?_)) | (refine w_t (h := ?_)) | (refine w_k (h := ?_)) | (refine y_q (h := ?_)) | (refine y_s (h := ?_)) | (refine y_t (h := ?_)) | (refine y_k (h := ?_)) | (refine lex_nil (by kernel_rfl) ?_) | (refine awp_sq ?_) | (refine awp_rg ?_) | (refine awp_rd (by kernel_rfl) (by kernel_rfl) ?_) | (refine awp_block ?_) | (refine awp_exit ?_) | (refine awp_ret ?_) | (refine awp_skip ?_) | (refine w_r (q_build tyOk rfl rfl rfl rfl rfl rfl rfl rfl) (h := ?_)) | (refine y_r (q_build tyOk rfl rfl rfl rfl rfl rfl rfl rfl) (h := ?_)))
  refine awp_if rfl (fun h6 => ?_) (fun h6 => ?_)
  · simp only [Bool.not_eq_true'] at h6
    rw [h6] at hF
    rw [solF_no (gOk_bad hF.symm)]
    repeat (first | (refine w_q (h := ?_)) | (refine w_s (h := ?_)) | (refine w_t (h := ?_)) | (refine w_k (h := ?_)) | (refine y_q (h := ?_)) | (refine y_s (h := ?_)) | (refine y_t (h := ?_)) | (refine y_k (h := ?_)) | (refine lex_nil (by kernel_rfl) ?_) | (refine awp_sq ?_) | (refine awp_rg ?_) | (refine awp_rd (by kernel_rfl) (by kernel_rfl) ?_) | (refine awp_block ?_) | (refine awp_exit ?_) | (refine awp_ret ?_) | (refine awp_skip ?_) | (refine w_r (q_build tyOk rfl rfl rfl rfl rfl rfl rfl rfl) (h := ?_)) | (refine y_r (q_build tyOk rfl rfl rfl rfl rfl rfl rfl rfl) (h := ?_)))
    (refine ret_ok tyOk (by first | exact .inr rfl | exact .inl rfl) pi0 rfl (by first | exact .cons (by first | exact .tmp | exact .cell rfl rfl rfl rfl rfl rfl | exact .cell1 rfl rfl rfl rfl rfl) .nil | exact .cons (by first | exact .tmp | exact .cell rfl rfl rfl rfl rfl rfl | exact .cell1 rfl rfl rfl rfl rfl) (.cons (by first | exact .tmp | exact .cell rfl rfl rfl rfl rfl rfl | exact .cell1 rfl rfl rfl rfl rfl) .nil) | exact .cons (by first | exact .tmp | exact .cell rfl rfl rfl rfl rfl rfl | exact .cell1 rfl rfl rfl rfl rfl) (.cons (by first | exact .tmp | exact .cell rfl rfl rfl rfl rfl rfl | exact .cell1 rfl rfl rfl rfl rfl) (.cons (by first | exact .tmp | exact .cell rfl rfl rfl rfl rfl rfl | exact .cell1 rfl rfl rfl rfl rfl) .nil)) | exact .cons (by first | exact .tmp | exact .cell rfl rfl rfl rfl rfl rfl | exact .cell1 rfl rfl rfl rfl rfl) (.cons (by first | exact .tmp | exact .cell rfl rfl rfl rfl rfl rfl | exact .cell1 rfl rfl rfl rfl rfl) (.cons (by first | exact .tmp | exact .cell rfl rfl rfl rfl rfl rfl | exact .cell1 rfl rfl rfl rfl rfl) (.cons (by first | exact .tmp | exact .cell rfl rfl rfl rfl rfl rfl | exact .cell1 rfl rfl rfl rfl rfl) .nil)))) ?_ ⟨⟨_, _, rfl, rfl, rfl⟩, trivial⟩ (injO_1 _ _ _); (repeat' (first | exact RetRelL.nil | (refine RetRel.nil rfl ?_) | refine RetRelL.cons ?_ ?_ | refine rr_tup ?_ | refine rr_agg ?_ | refine rr_own rfl ?_ | exact RetRel.arg | exact RetRel.argc | refine rr_t ?_)); all_goals rfl)
  simp only [Bool.not_eq_false'] at h6
  rw [h6] at hF
  repeat (first | (refine w_q (h := ?_)) | (refine w_s (h := ?_)) | (refine w_t (h := ?_)) | (refine w_k (h := ?_)) | (refine y_q (h := ?_)) | (refine y_s (h := ?_)) | (refine y_t (h := ?_)) | (refine y_k (h := ?_)) | (refine lex_nil (by kernel_rfl) ?_) | (refine awp_sq ?_) | (refine awp_rg ?_) | (refine awp_rd (by kernel_rfl) (by kernel_rfl) ?_) | (refine awp_block ?_) | (refine awp_exit ?_) | (refine awp_ret ?_) | (refine awp_skip ?_) | (refine w_r (q_build tyOk rfl rfl rfl rfl rfl rfl rfl rfl) (h := ?_)) | (refine y_r (q_build tyOk rfl rfl rfl rfl rfl rfl rfl rfl) (h := ?_)))
  refine m_s [(900, 14), (901, 15)] (solve_c n M hlo hhi hM hF.symm) (hi := by exact injS_2 _ _ _ _ _ (by decide)) (hl := by exact ⟨⟨_, _, rfl, rfl, rfl, rfl, rfl⟩, ⟨_, _, rfl, rfl, rfl, rfl, rfl⟩, trivial⟩) (h := ?_)
  repeat (first | (refine x_q (h := ?_)) | (refine xd_q (h := ?_)) | (refine w_q (h := ?_)) | (refine w_s (h := ?_)) | (refine w_t (h := ?_)) | (refine w_k (h := ?_)) | (refine y_q (h := ?_)) | (refine y_s (h := ?_)) | (refine y_t (h := ?_)) | (refine y_k (h := ?_)) | (refine lex_nil (by kernel_rfl) ?_) | (refine awp_sq ?_) | (refine awp_rg ?_) | (refine awp_rd (by kernel_rfl) (by kernel_rfl) ?_) | (refine awp_block ?_) | (refine awp_exit ?_) | (refine awp_ret ?_) | (refine awp_skip ?_))
  refine ret_ok tyOk (by first | exact .inr rfl | exact .inl rfl) (pi1 (cid 89 0)) rfl (by first | exact .cons (by first | exact .tmp | exact .cell rfl rfl rfl rfl rfl rfl | exact .cell1 rfl rfl rfl rfl rfl) .nil | exact .cons (by first | exact .tmp | exact .cell rfl rfl rfl rfl rfl rfl | exact .cell1 rfl rfl rfl rfl rfl) (.cons (by first | exact .tmp | exact .cell rfl rfl rfl rfl rfl rfl | exact .cell1 rfl rfl rfl rfl rfl) .nil) | exact .cons (by first | exact .tmp | exact .cell rfl rfl rfl rfl rfl rfl | exact .cell1 rfl rfl rfl rfl rfl) (.cons (by first | exact .tmp | exact .cell rfl rfl rfl rfl rfl rfl | exact .cell1 rfl rfl rfl rfl rfl) (.cons (by first | exact .tmp | exact .cell rfl rfl rfl rfl rfl rfl | exact .cell1 rfl rfl rfl rfl rfl) .nil)) | exact .cons (by first | exact .tmp | exact .cell rfl rfl rfl rfl rfl rfl | exact .cell1 rfl rfl rfl rfl rfl) (.cons (by first | exact .tmp | exact .cell rfl rfl rfl rfl rfl rfl | exact .cell1 rfl rfl rfl rfl rfl) (.cons (by first | exact .tmp | exact .cell rfl rfl rfl rfl rfl rfl | exact .cell1 rfl rfl rfl rfl rfl) (.cons (by first | exact .tmp | exact .cell rfl rfl rfl rfl rfl rfl | exact .cell1 rfl rfl rfl rfl rfl) .nil)))) ?_ ⟨rfl, trivial⟩ (injO_1 _ _ _)
  repeat' (first | exact RetRelL.nil | (refine RetRel.nil rfl ?_) | refine RetRelL.cons ?_ ?_ | refine rr_tup ?_ | refine rr_agg ?_ | refine rr_own rfl ?_ | exact RetRel.arg | exact RetRel.argc | refine rr_t ?_)
  all_goals rfl
end Go.Proofs.Ytmnpdipiffmnhaa
