import Derived.Test.YtmnpdipiffmnhaaYT147
import Derived.Test.YtmnpdipiffmnhaaYT68
set_option linter.unusedVariables false
set_option linter.unusedSimpArgs false
set_option maxRecDepth 20000
set_option maxHeartbeats 8000000
namespace Go.Proofs.Ytmnpdipiffmnhaa
open Go.Aw

/-! ### columns, fitted: the reference's -/
def fdN (C : List (List Nat)) (t : List Nat) (j : Nat) : Nat → Nat
  | 0 => 0
  | i + 1 => fop .add .f32 (fdN C t j i) (fop .mul .f32 ((C.getD i []).getD j 0) (t.getD i 0))
def fdL (C : List (List Nat)) (t : List Nat) (N : Nat) : List Nat := (List.range N).map fun j => fdN C t j C.length
theorem fdL_len (C : List (List Nat)) (t : List Nat) (N : Nat) : (fdL C t N).length = N := by simp [fdL]
theorem fdL_get {C : List (List Nat)} {t : List Nat} {N j : Nat} (h : j < N) : (fdL C t N).getD j 0 = fdN C t j C.length := getD_mapR _ h
theorem fdN_0 (C : List (List Nat)) (t : List Nat) (j : Nat) : fdN C t j 0 = 0 := rfl
theorem fdN_S (C : List (List Nat)) (t : List Nat) (j i : Nat) : fdN C t j (i + 1) = fop .add .f32 (fdN C t j i) (fop .mul .f32 ((C.getD i []).getD j 0) (t.getD i 0)) := rfl
theorem zsub_get {a b : List Nat} {j : Nat} (h : j < a.length) : (zsub a b).getD j 0 = fop .sub .f32 (a.getD j 0) (b.getD j 0) := getD_mapR _ h
/-- what is left beside the fitted -/
def rfD (C : List (List Nat)) (y : List Nat) : List Nat := zsub y (fdL C (fitF C y).1 y.length)
def rfOk (C : List (List Nat)) (y : List Nat) : Bool := (fitF C y).2 && ((fdL C (fitF C y).1 y.length).all fin && ((rfD C y).all fin && fin (dotF (rfD C y) (rfD C y))))
def rfF (C : List (List Nat)) (y : List Nat) : OP := if rfOk C y then ⟨rfD C y, dotF (rfD C y) (rfD C y), true⟩ else ⟨[], 0, false⟩
theorem rfF_no {C : List (List Nat)} {y : List Nat} (h : rfOk C y = false) : rfF C y = ⟨[], 0, false⟩ := by unfold rfF; rw [h]; rfl
theorem rfF_yes {C : List (List Nat)} {y : List Nat} (h : rfOk C y = true) : rfF C y = ⟨rfD C y, dotF (rfD C y) (rfD C y), true⟩ := by unfold rfF; rw [h]; rfl
def orF (a : List Nat) (L : Int) : OP := if (colF a L).ok && (rfF (colF a L).c (colF a L).y).ok then ⟨(fitF (colF a L).c (colF a L).y).1, fop .quo .f32 (rfF (colF a L).c (colF a L).y).s (fint .f32 ((colF a L).y.length : Nat)), true⟩ else ⟨[], 0, false⟩
theorem fit_ok {C : List (List Nat)} {y : List Nat} (h : (fitF C y).2 = true) : (fitF C y).1.length = C.length ∧ (fitF C y).1.all fin = true := by
  cases hg : gOk C.length (gM C y) C.length with
  | false => rw [fit_no (Nat.le_refl _) hg] at h; cases h
  | true =>
    rw [fit_yes hg] at h ⊢
    unfold ifAllF at h ⊢
    split at h
    · rename_i hk
      rw [if_pos hk]
      exact ⟨gB_len _ _ _, hk⟩
    · cases h
theorem fit_sol {C : List (List Nat)} {y : List Nat} : fitF C y = if (solF C.length (gM C y)).2 then ((solF C.length (gM C y)).1, true) else ([], false) := by
  cases hg : gOk C.length (gM C y) C.length with
  | false => rw [fit_no (Nat.le_refl _) hg, solF_no hg]; rfl
  | true => rw [fit_yes hg, solF_yes hg]; unfold ifAllF; split <;> rfl
attribute [local irreducible] QRun LexD AWp TCall TMut fop fint fcmp fconv gM gOk gB gI fitF solF fdN fdL dotN dotF zsub

theorem specColumns_c (C : List (List Nat)) (N : Nat) (hC : ColsV C N) : TCall Try.prog 181 [.ffl C] (.t (.v (.bool true))) [] := by
  have hN := hC.n96
  have hlo := hC.lo
  have hhi := hC.hi
  have hlen := hC.len
  have hser := hC.ser
  have hl0 := hlen 0 (by omega)
  refine tcall_of Try.func181 rfl (by kernel_rfl) (Nat.le_of_ble_eq_true rfl) rfl ?_
  simp only [argsL, argAV, argCs, argS]
  repeat (first | (refine w_q (h := ?_)) | (refine w_s (h := ?_)) | (refine w_t (h := ?_)) | (refine w_k (h := ?_)) | (refine y_q (h := ?_)) | (refine y_s (h := ?_)) | (refine y_t (h := ?_)) | (refine y_k (h := ?_)) | (refine lex_nil (by kernel_rfl) ?_) | (refine awp_sq ?_) | (refine awp_rg ?_) | (refine awp_rd (by kernel_rfl) (by kernel_rfl) ?_) | (refine awp_block ?_) | (refine awp_exit ?_) | (refine awp_ret ?_) | (refine awp_skip ?_) | (refine w_r (q_build tyOk rfl rfl rfl rfl rfl rfl rfl rfl) (h := ?_)) | (refine y_r (q_build tyOk rfl rfl rfl rfl rfl rfl rfl rfl) (h := ?_)))
  refine lex_if rfl rfl rfl (fun h => ?_) (fun h => ?_)
  · simp only [icmp, decide_eq_true_eq] at h
    exfalso; omega
  repeat (first | (refine w_q (h := ?_)) | (refine w_s (h := ?_)) | (refine w_t (h := ?_)) | (refine w_k (h := ?_)) | (refine y_q (h := ?_)) | (refine y_s (h := ?_)) | (refine y_t (h := ?_)) | (refine y_k (h := ?_)) | (refine lex_nil (by kernel_rfl) ?_) | (refine awp_sq ?_) | (refine awp_rg ?_) | (refine awp_rd (by kernel_rfl) (by kernel_rfl) ?_) | (refine awp_block ?_) | (refine awp_exit ?_) | (refine awp_ret ?_) | (refine awp_skip ?_) | (refine w_r (q_build tyOk rfl rfl rfl rfl rfl rfl rfl rfl) (h := ?_)) | (refine y_r (q_build tyOk rfl rfl rfl rfl rfl rfl rfl rfl) (h := ?_)))
  refine awp_if rfl (fun h => ?_) (fun h => ?_)
  · simp only [icmp, decide_eq_true_eq] at h
    exfalso; omega
  repeat (first | (refine w_q (h := ?_)) | (refine w_s (h := ?_)) | (refine w_t (h := ?_)) | (refine w_k (h := ?_)) | (refine y_q (h := ?_)) | (refine y_s (h := ?_)) | (refine y_t (h := ?_)) | (refine y_k (h := ?_)) | (refine lex_nil (by kernel_rfl) ?_) | (refine awp_sq ?_) | (refine awp_rg ?_) | (refine awp_rd (by kernel_rfl) (by kernel_rfl) ?_) | (refine awp_block ?_) | (refine awp_exit ?_) | (refine awp_ret ?_) | (refine awp_skip ?_) | (refine w_r (q_build tyOk rfl rfl rfl rfl rfl rfl rfl rfl) (h := ?_)) | (refine y_r (q_build tyOk rfl rfl rfl rfl rfl rfl rfl rfl) (h := ?_)))
  refine awp_loop (X := Nat) (fun i => i ≤ C.length) (fun i => [(0, .arg 0 (.ffl C)), (13, .t (.v (.int .i64 (C.length : Nat)))), (14, .t (.v (.int .i64 (i : Nat))))])
    (fun i => []) (fun i => C.length - i)
    0 ⟨by omega, fun i => i, ⟨rfl, rfl, rfl, trivial⟩, trivial, injOn_id _⟩ (fun i hi => ?_)
  repeat (first | (refine w_q (h := ?_)) | (refine w_s (h := ?_)) | (refine w_t (h := ?_)) | (refine w_k (h := ?_)) | (refine y_q (h := ?_)) | (refine y_s (h := ?_)) | (refine y_t (h := ?_)) | (refine y_k (h := ?_)) | (refine lex_nil (by kernel_rfl) ?_) | (refine awp_sq ?_) | (refine awp_rg ?_) | (refine awp_rd (by kernel_rfl) (by kernel_rfl) ?_) | (refine awp_block ?_) | (refine awp_exit ?_) | (refine awp_ret ?_) | (refine awp_skip ?_) | (refine w_r (q_build tyOk rfl rfl rfl rfl rfl rfl rfl rfl) (h := ?_)) | (refine y_r (q_build tyOk rfl rfl rfl rfl rfl rfl rfl rfl) (h := ?_)))
  refine awp_if rfl (fun h2 => ?_) (fun h2 => ?_)
  · simp only [icmp, decide_eq_true_eq] at h2
    have hli := hlen i (by omega)
    have hsi := hser i (by omega)
    repeat (first | (refine w_q (h := ?_)) | (refine w_s (h := ?_)) | (refine w_t (h := ?_)) | (refine w_k (h := ?_)) | (refine y_q (h := ?_)) | (refine y_s (h := ?_)) | (refine y_t (h := ?_)) | (refine y_k (h := ?_)) | (refine lex_nil (by kernel_rfl) ?_) | (refine awp_sq ?_) | (refine awp_rg ?_) | (refine awp_rd (by kernel_rfl) (by kernel_rfl) ?_) | (refine awp_block ?_) | (refine awp_exit ?_) | (refine awp_ret ?_) | (refine awp_skip ?_) | (refine w_r (q_build tyOk rfl rfl rfl rfl rfl rfl rfl rfl) (h := ?_)) | (refine y_r (q_build tyOk rfl rfl rfl rfl rfl rfl rfl rfl) (h := ?_)))
    try (first | (refine w_r (q_idx_tree (0) tyOk rfl rfl rfl rfl rfl rfl rfl rfl (by omega) (by first | omega | (simp only [T.len]; omega) | assumption)) (h := ?_)) | (refine y_r (q_idx_tree (0) tyOk rfl rfl rfl rfl rfl rfl rfl rfl (by omega) (by first | omega | (simp only [T.len]; omega) | assumption)) (h := ?_)))
    repeat (first | (refine w_q (h := ?_)) | (refine w_s (h := ?_)) | (refine w_t (h := ?_)) | (refine w_k (h := ?_)) | (refine y_q (h := ?_)) | (refine y_s (h := ?_)) | (refine y_t (h := ?_)) | (refine y_k (h := ?_)) | (refine lex_nil (by kernel_rfl) ?_) | (refine awp_sq ?_) | (refine awp_rg ?_) | (refine awp_rd (by kernel_rfl) (by kernel_rfl) ?_) | (refine awp_block ?_) | (refine awp_exit ?_) | (refine awp_ret ?_) | (refine awp_skip ?_) | (refine w_r (q_build tyOk rfl rfl rfl rfl rfl rfl rfl rfl) (h := ?_)) | (refine y_r (q_build tyOk rfl rfl rfl rfl rfl rfl rfl rfl) (h := ?_)))
    (first | (refine c_q (specSer_c (C.getD i []) (by omega)) (h := ?_)) | (refine z_q (specSer_c (C.getD i []) (by omega)) (h := ?_)))
    rw [hsi]
    repeat (first | (refine w_q (h := ?_)) | (refine w_s (h := ?_)) | (refine w_t (h := ?_)) | (refine w_k (h := ?_)) | (refine y_q (h := ?_)) | (refine y_s (h := ?_)) | (refine y_t (h := ?_)) | (refine y_k (h := ?_)) | (refine lex_nil (by kernel_rfl) ?_) | (refine awp_sq ?_) | (refine awp_rg ?_) | (refine awp_rd (by kernel_rfl) (by kernel_rfl) ?_) | (refine awp_block ?_) | (refine awp_exit ?_) | (refine awp_ret ?_) | (refine awp_skip ?_) | (refine w_r (q_build tyOk rfl rfl rfl rfl rfl rfl rfl rfl) (h := ?_)) | (refine y_r (q_build tyOk rfl rfl rfl rfl rfl rfl rfl rfl) (h := ?_)))
    refine awp_if rfl (fun h3 => ?_) (fun h3 => ?_)
    · exfalso
      revert h3
      simp only [icmp, T.len, hli, hl0]
      simp
    repeat (first | (refine w_q (h := ?_)) | (refine w_s (h := ?_)) | (refine w_t (h := ?_)) | (refine w_k (h := ?_)) | (refine y_q (h := ?_)) | (refine y_s (h := ?_)) | (refine y_t (h := ?_)) | (refine y_k (h := ?_)) | (refine lex_nil (by kernel_rfl) ?_) | (refine awp_sq ?_) | (refine awp_rg ?_) | (refine awp_rd (by kernel_rfl) (by kernel_rfl) ?_) | (refine awp_block ?_) | (refine awp_exit ?_) | (refine awp_ret ?_) | (refine awp_skip ?_) | (refine w_r (q_build tyOk rfl rfl rfl rfl rfl rfl rfl rfl) (h := ?_)) | (refine y_r (q_build tyOk rfl rfl rfl rfl rfl rfl rfl rfl) (h := ?_)))
    exact ⟨i + 1, by omega, by omega, fun i => i, ⟨rfl, rfl, iE9' (by omega), trivial⟩, trivial, injOn_id _⟩
  repeat (first | (refine w_q (h := ?_)) | (refine w_s (h := ?_)) | (refine w_t (h := ?_)) | (refine w_k (h := ?_)) | (refine y_q (h := ?_)) | (refine y_s (h := ?_)) | (refine y_t (h := ?_)) | (refine y_k (h := ?_)) | (refine lex_nil (by kernel_rfl) ?_) | (refine awp_sq ?_) | (refine awp_rg ?_) | (refine awp_rd (by kernel_rfl) (by kernel_rfl) ?_) | (refine awp_block ?_) | (refine awp_exit ?_) | (refine awp_ret ?_) | (refine awp_skip ?_) | (refine w_r (q_build tyOk rfl rfl rfl rfl rfl rfl rfl rfl) (h := ?_)) | (refine y_r (q_build tyOk rfl rfl rfl rfl rfl rfl rfl rfl) (h := ?_)))
  (refine ret_ok tyOk (by first | exact .inr rfl | exact .inl rfl) pi0 rfl (by first | exact .cons (by first | exact .tmp | exact .cell rfl rfl rfl rfl rfl rfl | exact .cell1 rfl rfl rfl rfl rfl) .nil | exact .cons (by first | exact .tmp | exact .cell rfl rfl rfl rfl rfl rfl | exact .cell1 rfl rfl rfl rfl rfl) (.cons (by first | exact .tmp | exact .cell rfl rfl rfl rfl rfl rfl | exact .cell1 rfl rfl rfl rfl rfl) .nil) | exact .cons (by first | exact .tmp | exact .cell rfl rfl rfl rfl rfl rfl | exact .cell1 rfl rfl rfl rfl rfl) (.cons (by first | exact .tmp | exact .cell rfl rfl rfl rfl rfl rfl | exact .cell1 rfl rfl rfl rfl rfl) (.cons (by first | exact .tmp | exact .cell rfl rfl rfl rfl rfl rfl | exact .cell1 rfl rfl rfl rfl rfl) .nil)) | exact .cons (by first | exact .tmp | exact .cell rfl rfl rfl rfl rfl rfl | exact .cell1 rfl rfl rfl rfl rfl) (.cons (by first | exact .tmp | exact .cell rfl rfl rfl rfl rfl rfl | exact .cell1 rfl rfl rfl rfl rfl) (.cons (by first | exact .tmp | exact .cell rfl rfl rfl rfl rfl rfl | exact .cell1 rfl rfl rfl rfl rfl) (.cons (by first | exact .tmp | exact .cell rfl rfl rfl rfl rfl rfl | exact .cell1 rfl rfl rfl rfl rfl) .nil)))) ?_ trivial (injO_0 _); (repeat' (first | exact RetRelL.nil | (refine RetRel.nil rfl ?_) | refine RetRelL.cons ?_ ?_ | refine rr_tup ?_ | refine rr_agg ?_ | refine rr_own rfl ?_ | exact RetRel.arg | exact RetRel.argc | refine rr_t ?_)); all_goals rfl)

theorem specColumnFit_c (C : List (List Nat)) (y : List Nat) (N : Nat) (hC : ColsV C N) (hy : y.length = N) (hs : isSer y = true) :
    TCall Try.prog 120 [.ffl C, .fl y] (.tup [.own 0 (fitF C y).1.length, .t (.v (.bool (fitF C y).2))]) [(0, .sl 30 (.fl (fitF C y).1))] := by
  have hN := hC.n96
  have hl0 := hC.len 0 hC.lo
  have hlo := hC.lo
  refine tcall_of Try.func120 rfl (by kernel_rfl) (Nat.le_of_ble_eq_true rfl) rfl ?_
  simp only [argsL, argAV, argCs, argS]
  repeat (first | (refine w_q (h := ?_)) | (refine w_s (h := ?_)) | (refine w_t (h := ?_)) | (refine w_k (h := ?_)) | (refine y_q (h := ?_)) | (refine y_s (h := ?_)) | (refine y_t (h := ?_)) | (refine y_k (h := ?_)) | (refine lex_nil (by kernel_rfl) ?_) | (refine awp_sq ?_) | (refine awp_rg ?_) | (refine awp_rd (by kernel_rfl) (by kernel_rfl) ?_) | (refine awp_block ?_) | (refine awp_exit ?_) | (refine awp_ret ?_) | (refine awp_skip ?_) | (refine w_r (q_build tyOk rfl rfl rfl rfl rfl rfl rfl rfl) (h := ?_)) | (refine y_r (q_build tyOk rfl rfl rfl rfl rfl rfl rfl rfl) (h := ?_)))
  (first | (refine c_q (specColumns_c C N hC) (h := ?_)) | (refine z_q (specColumns_c C N hC) (h := ?_)))
  repeat (first | (refine w_q (h := ?_)) | (refine w_s (h := ?_)) | (refine w_t (h := ?_)) | (refine w_k (h := ?_)) | (refine y_q (h := ?_)) | (refine y_s (h := ?_)) | (refine y_t (h := ?_)) | (refine y_k (h := ?_)) | (refine lex_nil (by kernel_rfl) ?_) | (refine awp_sq ?_) | (refine awp_rg ?_) | (refine awp_rd (by kernel_rfl) (by kernel_rfl) ?_) | (refine awp_block ?_) | (refine awp_exit ?_) | (refine awp_ret ?_) | (refine awp_skip ?_) | (refine w_r (q_build tyOk rfl rfl rfl rfl rfl rfl rfl rfl) (h := ?_)) | (refine y_r (q_build tyOk rfl rfl rfl rfl rfl rfl rfl rfl) (h := ?_)))
  (first | (refine c_q (specSer_c y (by omega)) (h := ?_)) | (refine z_q (specSer_c y (by omega)) (h := ?_)))
  rw [hs]
  repeat (first | (refine w_q (h := ?_)) | (refine w_s (h := ?_)) | (refine w_t (h := ?_)) | (refine w_k (h := ?_)) | (refine y_q (h := ?_)) | (refine y_s (h := ?_)) | (refine y_t (h := ?_)) | (refine y_k (h := ?_)) | (refine lex_nil (by kernel_rfl) ?_) | (refine awp_sq ?_) | (refine awp_rg ?_) | (refine awp_rd (by kernel_rfl) (by kernel_rfl) ?_) | (refine awp_block ?_) | (refine awp_exit ?_) | (refine awp_ret ?_) | (refine awp_skip ?_) | (refine w_r (q_build tyOk rfl rfl rfl rfl rfl rfl rfl rfl) (h := ?_)) | (refine y_r (q_build tyOk rfl rfl rfl rfl rfl rfl rfl rfl) (h := ?_)))
  try (first | (refine w_r (q_idx_tree (0) tyOk rfl rfl rfl rfl rfl rfl rfl rfl (by omega) (by first | omega | (simp only [T.len]; omega) | assumption)) (h := ?_)) | (refine y_r (q_idx_tree (0) tyOk rfl rfl rfl rfl rfl rfl rfl rfl (by omega) (by first | omega | (simp only [T.len]; omega) | assumption)) (h := ?_)))
  repeat (first | (refine w_q (h := ?_)) | (refine w_s (h := ?_)) | (refine w_t (h := ?_)) | (refine w_k (h := ?_)) | (refine y_q (h := ?_)) | (refine y_s (h := ?_)) | (refine y_t (h := ?_)) | (refine y_k (h := ?_)) | (refine lex_nil (by kernel_rfl) ?_) | (refine awp_sq ?_) | (refine awp_rg ?_) | (refine awp_rd (by kernel_rfl) (by kernel_rfl) ?_) | (refine awp_block ?_) | (refine awp_exit ?_) | (refine awp_ret ?_) | (refine awp_skip ?_) | (refine w_r (q_build tyOk rfl rfl rfl rfl rfl rfl rfl rfl) (h := ?_)) | (refine y_r (q_build tyOk rfl rfl rfl rfl rfl rfl rfl rfl) (h := ?_)))
  refine awp_if rfl (fun h3 => ?_) (fun h3 => ?_)
  · exfalso
    revert h3
    simp only [icmp, T.len, hl0, hy]
    simp
  repeat (first | (refine w_q (h := ?_)) | (refine w_s (h := ?_)) | (refine w_t (h := ?_)) | (refine w_k (h := ?_)) | (refine y_q (h := ?_)) | (refine y_s (h := ?_)) | (refine y_t (h := ?_)) | (refine y_k (h := ?_)) | (refine lex_nil (by kernel_rfl) ?_) | (refine awp_sq ?_) | (refine awp_rg ?_) | (refine awp_rd (by kernel_rfl) (by kernel_rfl) ?_) | (refine awp_block ?_) | (refine awp_exit ?_) | (refine awp_ret ?_) | (refine awp_skip ?_) | (refine w_r (q_build tyOk rfl rfl rfl rfl rfl rfl rfl rfl) (h := ?_)) | (refine y_r (q_build tyOk rfl rfl rfl rfl rfl rfl rfl rfl) (h := ?_)))
  (first | (refine c_s (l03Fit_c C y N hC hy) (h := ?_)) | (refine z_s (l03Fit_c C y N hC hy) (h := ?_)))
  repeat (first | (refine w_q (h := ?_)) | (refine w_s (h := ?_)) | (refine w_t (h := ?_)) | (refine w_k (h := ?_)) | (refine y_q (h := ?_)) | (refine y_s (h := ?_)) | (refine y_t (h := ?_)) | (refine y_k (h := ?_)) | (refine lex_nil (by kernel_rfl) ?_) | (refine awp_sq ?_) | (refine awp_rg ?_) | (refine awp_rd (by kernel_rfl) (by kernel_rfl) ?_) | (refine awp_block ?_) | (refine awp_exit ?_) | (refine awp_ret ?_) | (refine awp_skip ?_) | (refine w_r (q_build tyOk rfl rfl rfl rfl rfl rfl rfl rfl) (h := ?_)) | (refine y_r (q_build tyOk rfl rfl rfl rfl rfl rfl rfl rfl) (h := ?_)))
  refine awp_if rfl (fun h4 => ?_) (fun h4 => ?_)
  · simp only [Bool.not_eq_true'] at h4
    have hF : fitF C y = ([], false) := by rw [fit_sol, h4]; rfl
    rw [hF]
    repeat (first | (refine w_q (h := ?_)) | (refine w_s (h := ?_)) | (refine w_t (h := ?_)) | (refine w_k (h := ?_)) | (refine y_q (h := ?_)) | (refine y_s (h := ?_)) | (refine y_t (h := ?_)) | (refine y_k (h := ?_)) | (refine lex_nil (by kernel_rfl) ?_) | (refine awp_sq ?_) | (refine awp_rg ?_) | (refine awp_rd (by kernel_rfl) (by kernel_rfl) ?_) | (refine awp_block ?_) | (refine awp_exit ?_) | (refine awp_ret ?_) | (refine awp_skip ?_) | (refine w_r (q_build tyOk rfl rfl rfl rfl rfl rfl rfl rfl) (h := ?_)) | (refine y_r (q_build tyOk rfl rfl rfl rfl rfl rfl rfl rfl) (h := ?_)))
    (refine ret_ok tyOk (by first | exact .inr rfl | exact .inl rfl) pi0 rfl (by first | exact .cons (by first | exact .tmp | exact .cell rfl rfl rfl rfl rfl rfl | exact .cell1 rfl rfl rfl rfl rfl) .nil | exact .cons (by first | exact .tmp | exact .cell rfl rfl rfl rfl rfl rfl | exact .cell1 rfl rfl rfl rfl rfl) (.cons (by first | exact .tmp | exact .cell rfl rfl rfl rfl rfl rfl | exact .cell1 rfl rfl rfl rfl rfl) .nil) | exact .cons (by first | exact .tmp | exact .cell rfl rfl rfl rfl rfl rfl | exact .cell1 rfl rfl rfl rfl rfl) (.cons (by first | exact .tmp | exact .cell rfl rfl rfl rfl rfl rfl | exact .cell1 rfl rfl rfl rfl rfl) (.cons (by first | exact .tmp | exact .cell rfl rfl rfl rfl rfl rfl | exact .cell1 rfl rfl rfl rfl rfl) .nil)) | exact .cons (by first | exact .tmp | exact .cell rfl rfl rfl rfl rfl rfl | exact .cell1 rfl rfl rfl rfl rfl) (.cons (by first | exact .tmp | exact .cell rfl rfl rfl rfl rfl rfl | exact .cell1 rfl rfl rfl rfl rfl) (.cons (by first | exact .tmp | exact .cell rfl rfl rfl rfl rfl rfl | exact .cell1 rfl rfl rfl rfl rfl) (.cons (by first | exact .tmp | exact .cell rfl rfl rfl rfl rfl rfl | exact .cell1 rfl rfl rfl rfl rfl) .nil)))) ?_ ⟨⟨_, _, rfl, rfl, rfl⟩, trivial⟩ (injO_1 _ _ _); (repeat' (first | exact RetRelL.nil | (refine RetRel.nil rfl ?_) | refine RetRelL.cons ?_ ?_ | refine rr_tup ?_ | refine rr_agg ?_ | refine rr_own rfl ?_ | exact RetRel.arg | exact RetRel.argc | refine rr_t ?_)); all_goals rfl)
  simp only [Bool.not_eq_false'] at h4
  have hF : fitF C y = ((solF C.length (gM C y)).1, true) := by rw [fit_sol, h4]; rfl
  rw [hF]
  repeat (first | (refine w_q (h := ?_)) | (refine w_s (h := ?_)) | (refine w_t (h := ?_)) | (refine w_k (h := ?_)) | (refine y_q (h := ?_)) | (refine y_s (h := ?_)) | (refine y_t (h := ?_)) | (refine y_k (h := ?_)) | (refine lex_nil (by kernel_rfl) ?_) | (refine awp_sq ?_) | (refine awp_rg ?_) | (refine awp_rd (by kernel_rfl) (by kernel_rfl) ?_) | (refine awp_block ?_) | (refine awp_exit ?_) | (refine awp_ret ?_) | (refine awp_skip ?_) | (refine w_r (q_build tyOk rfl rfl rfl rfl rfl rfl rfl rfl) (h := ?_)) | (refine y_r (q_build tyOk rfl rfl rfl rfl rfl rfl rfl rfl) (h := ?_)))
  refine ret_ok tyOk (by first | exact .inr rfl | exact .inl rfl) (pi1 (cid 28 0)) rfl (by first | exact .cons (by first | exact .tmp | exact .cell rfl rfl rfl rfl rfl rfl | exact .cell1 rfl rfl rfl rfl rfl) .nil | exact .cons (by first | exact .tmp | exact .cell rfl rfl rfl rfl rfl rfl | exact .cell1 rfl rfl rfl rfl rfl) (.cons (by first | exact .tmp | exact .cell rfl rfl rfl rfl rfl rfl | exact .cell1 rfl rfl rfl rfl rfl) .nil) | exact .cons (by first | exact .tmp | exact .cell rfl rfl rfl rfl rfl rfl | exact .cell1 rfl rfl rfl rfl rfl) (.cons (by first | exact .tmp | exact .cell rfl rfl rfl rfl rfl rfl | exact .cell1 rfl rfl rfl rfl rfl) (.cons (by first | exact .tmp | exact .cell rfl rfl rfl rfl rfl rfl | exact .cell1 rfl rfl rfl rfl rfl) .nil)) | exact .cons (by first | exact .tmp | exact .cell rfl rfl rfl rfl rfl rfl | exact .cell1 rfl rfl rfl rfl rfl) (.cons (by first | exact .tmp | exact .cell rfl rfl rfl rfl rfl rfl | exact .cell1 rfl rfl rfl rfl rfl) (.cons (by first | exact .tmp | exact .cell rfl rfl rfl rfl rfl rfl | exact .cell1 rfl rfl rfl rfl rfl) (.cons (by first | exact .tmp | exact .cell rfl rfl rfl rfl rfl rfl | exact .cell1 rfl rfl rfl rfl rfl) .nil)))) ?_ ⟨rfl, trivial⟩ (injO_1 _ _ _)
  repeat' (first | exact RetRelL.nil | (refine RetRel.nil rfl ?_) | refine RetRelL.cons ?_ ?_ | refine rr_tup ?_ | refine rr_agg ?_ | refine rr_own rfl ?_ | exact RetRel.arg | exact RetRel.argc | refine rr_t ?_)
  all_goals rfl

theorem l03Fitted_c (C : List (List Nat)) (t : List Nat) (N : Nat) (hC : ColsV C N) (ht : t.length = C.length) :
    TCall Try.prog 209 [.ffl C, .fl t] (.own 0 N) [(0, .sl 30 (.fl (fdL C t N)))] := by
  have hN := hC.n96
  have hlo := hC.lo
  have hhi := hC.hi
  have hlen := hC.len
  have hl0 := hlen 0 (by omega)
  have hfl := fdL_len C t N
  refine tcall_of Try.func209 rfl (by kernel_rfl) (Nat.le_of_ble_eq_true rfl) rfl ?_
  simp only [argsL, argAV, argCs, argS]
  repeat (first | (refine w_q (h := ?_)) | (refine w_s (h := ?_)) | (refine w_t (h := ?_)) | (refine w_k (h := ?_)) | (refine y_q (h := ?_)) | (refine y_s (h := ?_)) | (refine y_t (h := ?_)) | (refine y_k (h := ?_)) | (refine lex_nil (by kernel_rfl) ?_) | (refine awp_sq ?_) | (refine awp_rg ?_) | (refine awp_rd (by kernel_rfl) (by kernel_rfl) ?_) | (refine awp_block ?_) | (refine awp_exit ?_) | (refine awp_ret ?_) | (refine awp_skip ?_) | (refine w_r (q_build tyOk rfl rfl rfl rfl rfl rfl rfl rfl) (h := ?_)) | (refine y_r (q_build tyOk rfl rfl rfl rfl rfl rfl rfl rfl) (h := ?_)))
  try (first | (refine w_r (q_idx_tree (0) tyOk rfl rfl rfl rfl rfl rfl rfl rfl (by omega) (by first | omega | (simp only [T.len]; omega) | assumption)) (h := ?_)) | (refine y_r (q_idx_tree (0) tyOk rfl rfl rfl rfl rfl rfl rfl rfl (by omega) (by first | omega | (simp only [T.len]; omega) | assumption)) (h := ?_)))
  repeat (first | (refine w_q (h := ?_)) | (refine w_s (h := ?_)) | (refine w_t (h := ?_)) | (refine w_k (h := ?_)) | (refine y_q (h := ?_)) | (refine y_s (h := ?_)) | (refine y_t (h := ?_)) | (refine y_k (h := ?_)) | (refine lex_nil (by kernel_rfl) ?_) | (refine awp_sq ?_) | (refine awp_rg ?_) | (refine awp_rd (by kernel_rfl) (by kernel_rfl) ?_) | (refine awp_block ?_) | (refine awp_exit ?_) | (refine awp_ret ?_) | (refine awp_skip ?_) | (refine w_r (q_build tyOk rfl rfl rfl rfl rfl rfl rfl rfl) (h := ?_)) | (refine y_r (q_build tyOk rfl rfl rfl rfl rfl rfl rfl rfl) (h := ?_)))
  refine awp_loop (X := Nat) (fun j => j ≤ N) (fun j => [(0, .arg 0 (.ffl C)), (1, .arg 1 (.fl t)), (5, .own 9 0 j), (13, .t (.v (.int .i64 (N : Nat)))), (14, .t (.v (.int .i64 (j : Nat))))])
    (fun j => [(9, .sl 30 (.fl ((fdL C t N).take j)))]) (fun j => N - j)
    0 ⟨by omega, fun i => i, ⟨rfl, rfl, rfl, iE9' (by show (((C.getD 0 []).length : Nat) : Int) = _; rw [hl0]), rfl, trivial⟩, ⟨rfl, trivial⟩, injOn_id _⟩ (fun j hj => ?_)
  have hz : ((fdL C t N).take j).length = j := by rw [List.length_take, hfl]; omega
  repeat (first | (refine w_q (h := ?_)) | (refine w_s (h := ?_)) | (refine w_t (h := ?_)) | (refine w_k (h := ?_)) | (refine y_q (h := ?_)) | (refine y_s (h := ?_)) | (refine y_t (h := ?_)) | (refine y_k (h := ?_)) | (refine lex_nil (by kernel_rfl) ?_) | (refine awp_sq ?_) | (refine awp_rg ?_) | (refine awp_rd (by kernel_rfl) (by kernel_rfl) ?_) | (refine awp_block ?_) | (refine awp_exit ?_) | (refine awp_ret ?_) | (refine awp_skip ?_) | (refine w_r (q_build tyOk rfl rfl rfl rfl rfl rfl rfl rfl) (h := ?_)) | (refine y_r (q_build tyOk rfl rfl rfl rfl rfl rfl rfl rfl) (h := ?_)))
  refine awp_if rfl (fun h2 => ?_) (fun h2 => ?_)
  · simp only [icmp, decide_eq_true_eq] at h2
    have hg := fdL_get (C := C) (t := t) (show j < N by omega)
    repeat (first | (refine w_q (h := ?_)) | (refine w_s (h := ?_)) | (refine w_t (h := ?_)) | (refine w_k (h := ?_)) | (refine y_q (h := ?_)) | (refine y_s (h := ?_)) | (refine y_t (h := ?_)) | (refine y_k (h := ?_)) | (refine lex_nil (by kernel_rfl) ?_) | (refine awp_sq ?_) | (refine awp_rg ?_) | (refine awp_rd (by kernel_rfl) (by kernel_rfl) ?_) | (refine awp_block ?_) | (refine awp_exit ?_) | (refine awp_ret ?_) | (refine awp_skip ?_) | (refine w_r (q_build tyOk rfl rfl rfl rfl rfl rfl rfl rfl) (h := ?_)) | (refine y_r (q_build tyOk rfl rfl rfl rfl rfl rfl rfl rfl) (h := ?_)))
    refine awp_loop (X := Nat) (fun i => i ≤ C.length) (fun i => [(0, .arg 0 (.ffl C)), (1, .arg 1 (.fl t)), (5, .own 9 0 j), (6, .t (.v (.int .i64 (j : Nat)))), (7, .t (.f .f32 (fdN C t j i))), (13, .t (.v (.int .i64 (N : Nat)))), (14, .t (.v (.int .i64 (j : Nat)))), (18, .t (.v (.int .i64 (C.length : Nat)))), (19, .t (.v (.int .i64 (i : Nat))))])
      (fun i => [(9, .sl 30 (.fl ((fdL C t N).take j)))]) (fun i => C.length - i)
      0 ⟨by omega, fun i => i, ⟨rfl, rfl, rfl, rfl, fE2 (fdN_0 _ _ _).symm, rfl, rfl, rfl, rfl, trivial⟩, ⟨rfl, trivial⟩, injOn_id _⟩ (fun i hi => ?_)
    repeat (first | (refine w_q (h := ?_)) | (refine w_s (h := ?_)) | (refine w_t (h := ?_)) | (refine w_k (h := ?_)) | (refine y_q (h := ?_)) | (refine y_s (h := ?_)) | (refine y_t (h := ?_)) | (refine y_k (h := ?_)) | (refine lex_nil (by kernel_rfl) ?_) | (refine awp_sq ?_) | (refine awp_rg ?_) | (refine awp_rd (by kernel_rfl) (by kernel_rfl) ?_) | (refine awp_block ?_) | (refine awp_exit ?_) | (refine awp_ret ?_) | (refine awp_skip ?_) | (refine w_r (q_build tyOk rfl rfl rfl rfl rfl rfl rfl rfl) (h := ?_)) | (refine y_r (q_build tyOk rfl rfl rfl rfl rfl rfl rfl rfl) (h := ?_)))
    refine awp_if rfl (fun h3 => ?_) (fun h3 => ?_)
    · simp only [icmp, decide_eq_true_eq] at h3
      have hli := hlen i (by omega)
      repeat (first | (refine w_q (h := ?_)) | (refine w_s (h := ?_)) | (refine w_t (h := ?_)) | (refine w_k (h := ?_)) | (refine y_q (h := ?_)) | (refine y_s (h := ?_)) | (refine y_t (h := ?_)) | (refine y_k (h := ?_)) | (refine lex_nil (by kernel_rfl) ?_) | (refine awp_sq ?_) | (refine awp_rg ?_) | (refine awp_rd (by kernel_rfl) (by kernel_rfl) ?_) | (refine awp_block ?_) | (refine awp_exit ?_) | (refine awp_ret ?_) | (refine awp_skip ?_) | (refine w_r (q_build tyOk rfl rfl rfl rfl rfl rfl rfl rfl) (h := ?_)) | (refine y_r (q_build tyOk rfl rfl rfl rfl rfl rfl rfl rfl) (h := ?_)))
      exact ⟨i + 1, by omega, by omega, fun i => i, ⟨rfl, rfl, rfl, rfl, fE2 (fdN_S _ _ _ _).symm, rfl, rfl, rfl, iE9' (by omega), trivial⟩, ⟨rfl, trivial⟩, injOn_id _⟩
    simp only [icmp, decide_eq_false_iff_not] at h3
    obtain rfl : C.length = i := by omega
    rw [← hg]
    repeat (first | (refine w_q (h := ?_)) | (refine w_s (h := ?_)) | (refine w_t (h := ?_)) | (refine w_k (h := ?_)) | (refine y_q (h := ?_)) | (refine y_s (h := ?_)) | (refine y_t (h := ?_)) | (refine y_k (h := ?_)) | (refine lex_nil (by kernel_rfl) ?_) | (refine awp_sq ?_) | (refine awp_rg ?_) | (refine awp_rd (by kernel_rfl) (by kernel_rfl) ?_) | (refine awp_block ?_) | (refine awp_exit ?_) | (refine awp_ret ?_) | (refine awp_skip ?_) | (refine w_r (q_build tyOk rfl rfl rfl rfl rfl rfl rfl rfl) (h := ?_)) | (refine y_r (q_build tyOk rfl rfl rfl rfl rfl rfl rfl rfl) (h := ?_)))
    (first | (refine a_s (hn := by exact hz) (h := ?_)) | (refine b_s (hn := by exact hz) (h := ?_)))
    repeat (first | (refine w_q (h := ?_)) | (refine w_s (h := ?_)) | (refine w_t (h := ?_)) | (refine w_k (h := ?_)) | (refine y_q (h := ?_)) | (refine y_s (h := ?_)) | (refine y_t (h := ?_)) | (refine y_k (h := ?_)) | (refine lex_nil (by kernel_rfl) ?_) | (refine awp_sq ?_) | (refine awp_rg ?_) | (refine awp_rd (by kernel_rfl) (by kernel_rfl) ?_) | (refine awp_block ?_) | (refine awp_exit ?_) | (refine awp_ret ?_) | (refine awp_skip ?_) | (refine w_r (q_build tyOk rfl rfl rfl rfl rfl rfl rfl rfl) (h := ?_)) | (refine y_r (q_build tyOk rfl rfl rfl rfl rfl rfl rfl rfl) (h := ?_)))
    exact ⟨j + 1, by omega, by omega, fun i => i, ⟨rfl, rfl, own_eq (by simp only [T.app, T.len, List.length_append, hz]; rfl), rfl, iE9' (by omega), trivial⟩, ⟨sl_eq (congrArg T.fl (take_snoc2 (by omega) rfl)), trivial⟩, injOn_id _⟩
  simp only [icmp, decide_eq_false_iff_not] at h2
  obtain rfl : N = j := by omega
  repeat (first | (refine w_q (h := ?_)) | (refine w_s (h := ?_)) | (refine w_t (h := ?_)) | (refine w_k (h := ?_)) | (refine y_q (h := ?_)) | (refine y_s (h := ?_)) | (refine y_t (h := ?_)) | (refine y_k (h := ?_)) | (refine lex_nil (by kernel_rfl) ?_) | (refine awp_sq ?_) | (refine awp_rg ?_) | (refine awp_rd (by kernel_rfl) (by kernel_rfl) ?_) | (refine awp_block ?_) | (refine awp_exit ?_) | (refine awp_ret ?_) | (refine awp_skip ?_) | (refine w_r (q_build tyOk rfl rfl rfl rfl rfl rfl rfl rfl) (h := ?_)) | (refine y_r (q_build tyOk rfl rfl rfl rfl rfl rfl rfl rfl) (h := ?_)))
  refine ret_ok tyOk (by first | exact .inr rfl | exact .inl rfl) (pi1 9) rfl (by first | exact .cons (by first | exact .tmp | exact .cell rfl rfl rfl rfl rfl rfl | exact .cell1 rfl rfl rfl rfl rfl) .nil | exact .cons (by first | exact .tmp | exact .cell rfl rfl rfl rfl rfl rfl | exact .cell1 rfl rfl rfl rfl rfl) (.cons (by first | exact .tmp | exact .cell rfl rfl rfl rfl rfl rfl | exact .cell1 rfl rfl rfl rfl rfl) .nil) | exact .cons (by first | exact .tmp | exact .cell rfl rfl rfl rfl rfl rfl | exact .cell1 rfl rfl rfl rfl rfl) (.cons (by first | exact .tmp | exact .cell rfl rfl rfl rfl rfl rfl | exact .cell1 rfl rfl rfl rfl rfl) (.cons (by first | exact .tmp | exact .cell rfl rfl rfl rfl rfl rfl | exact .cell1 rfl rfl rfl rfl rfl) .nil)) | exact .cons (by first | exact .tmp | exact .cell rfl rfl rfl rfl rfl rfl | exact .cell1 rfl rfl rfl rfl rfl) (.cons (by first | exact .tmp | exact .cell rfl rfl rfl rfl rfl rfl | exact .cell1 rfl rfl rfl rfl rfl) (.cons (by first | exact .tmp | exact .cell rfl rfl rfl rfl rfl rfl | exact .cell1 rfl rfl rfl rfl rfl) (.cons (by first | exact .tmp | exact .cell rfl rfl rfl rfl rfl rfl | exact .cell1 rfl rfl rfl rfl rfl) .nil)))) ?_ ⟨sl_eq (congrArg T.fl (List.take_of_length_le (by omega))), trivial⟩ (injO_1 _ _ _)
  repeat' (first | exact RetRelL.nil | (refine RetRel.nil rfl ?_) | refine RetRelL.cons ?_ ?_ | refine rr_tup ?_ | refine rr_agg ?_ | refine rr_own rfl ?_ | exact RetRel.arg | exact RetRel.argc | refine rr_t ?_)
  all_goals rfl

theorem fittedOf_c (C : List (List Nat)) (t : List Nat) (N : Nat) (hC : ColsV C N) (ht : t.length = C.length) (hf : t.all fin = true) :
    TCall Try.prog 183 [.ffl C, .fl t] (.tup [.own 0 (ifAllF (fdL C t N)).1.length, .t (.v (.bool (ifAllF (fdL C t N)).2))]) [(0, .sl 30 (.fl (ifAllF (fdL C t N)).1))] := by
  have hN := hC.n96
  have hhi := hC.hi
  have hfl := fdL_len C t N
  refine tcall_of Try.func183 rfl (by kernel_rfl) (Nat.le_of_ble_eq_true rfl) rfl ?_
  simp only [argsL, argAV, argCs, argS]
  repeat (first | (refine w_q (h := ?_)) | (refine w_s (h := ?_)) | (refine w_t (h := ?_)) | (refine w_k (h := ?_)) | (refine y_q (h := ?_)) | (refine y_s (h := ?_)) | (refine y_t (h := ?_)) | (refine y_k (h := ?_)) | (refine lex_nil (by kernel_rfl) ?_) | (refine awp_sq ?_) | (refine awp_rg ?_) | (refine awp_rd (by kernel_rfl) (by kernel_rfl) ?_) | (refine awp_block ?_) | (refine awp_exit ?_) | (refine awp_ret ?_) | (refine awp_skip ?_) | (refine w_r (q_build tyOk rfl rfl rfl rfl rfl rfl rfl rfl) (h := ?_)) | (refine y_r (q_build tyOk rfl rfl rfl rfl rfl rfl rfl rfl) (h := ?_)))
  (first | (refine c_q (specColumns_c C N hC) (h := ?_)) | (refine z_q (specColumns_c C N hC) (h := ?_)))
  repeat (first | (refine w_q (h := ?_)) | (refine w_s (h := ?_)) | (refine w_t (h := ?_)) | (refine w_k (h := ?_)) | (refine y_q (h := ?_)) | (refine y_s (h := ?_)) | (refine y_t (h := ?_)) | (refine y_k (h := ?_)) | (refine lex_nil (by kernel_rfl) ?_) | (refine awp_sq ?_) | (refine awp_rg ?_) | (refine awp_rd (by kernel_rfl) (by kernel_rfl) ?_) | (refine awp_block ?_) | (refine awp_exit ?_) | (refine awp_ret ?_) | (refine awp_skip ?_) | (refine w_r (q_build tyOk rfl rfl rfl rfl rfl rfl rfl rfl) (h := ?_)) | (refine y_r (q_build tyOk rfl rfl rfl rfl rfl rfl rfl rfl) (h := ?_)))
  refine lex_if rfl rfl rfl (fun h => ?_) (fun h => ?_)
  · exfalso
    revert h
    simp only [icmp, T.len, ht]
    simp
  repeat (first | (refine w_q (h := ?_)) | (refine w_s (h := ?_)) | (refine w_t (h := ?_)) | (refine w_k (h := ?_)) | (refine y_q (h := ?_)) | (refine y_s (h := ?_)) | (refine y_t (h := ?_)) | (refine y_k (h := ?_)) | (refine lex_nil (by kernel_rfl) ?_) | (refine awp_sq ?_) | (refine awp_rg ?_) | (refine awp_rd (by kernel_rfl) (by kernel_rfl) ?_) | (refine awp_block ?_) | (refine awp_exit ?_) | (refine awp_ret ?_) | (refine awp_skip ?_) | (refine w_r (q_build tyOk rfl rfl rfl rfl rfl rfl rfl rfl) (h := ?_)) | (refine y_r (q_build tyOk rfl rfl rfl rfl rfl rfl rfl rfl) (h := ?_)))
  (first | (refine c_q (l02Finite_c t (by omega)) (h := ?_)) | (refine z_q (l02Finite_c t (by omega)) (h := ?_)))
  rw [hf]
  repeat (first | (refine w_q (h := ?_)) | (refine w_s (h := ?_)) | (refine w_t (h := ?_)) | (refine w_k (h := ?_)) | (refine y_q (h := ?_)) | (refine y_s (h := ?_)) | (refine y_t (h := ?_)) | (refine y_k (h := ?_)) | (refine lex_nil (by kernel_rfl) ?_) | (refine awp_sq ?_) | (refine awp_rg ?_) | (refine awp_rd (by kernel_rfl) (by kernel_rfl) ?_) | (refine awp_block ?_) | (refine awp_exit ?_) | (refine awp_ret ?_) | (refine awp_skip ?_) | (refine w_r (q_build tyOk rfl rfl rfl rfl rfl rfl rfl rfl) (h := ?_)) | (refine y_r (q_build tyOk rfl rfl rfl rfl rfl rfl rfl rfl) (h := ?_)))
  try refine awp_ifF rfl rfl ?_
  repeat (first | (refine w_q (h := ?_)) | (refine w_s (h := ?_)) | (refine w_t (h := ?_)) | (refine w_k (h := ?_)) | (refine y_q (h := ?_)) | (refine y_s (h := ?_)) | (refine y_t (h := ?_)) | (refine y_k (h := ?_)) | (refine lex_nil (by kernel_rfl) ?_) | (refine awp_sq ?_) | (refine awp_rg ?_) | (refine awp_rd (by kernel_rfl) (by kernel_rfl) ?_) | (refine awp_block ?_) | (refine awp_exit ?_) | (refine awp_ret ?_) | (refine awp_skip ?_) | (refine w_r (q_build tyOk rfl rfl rfl rfl rfl rfl rfl rfl) (h := ?_)) | (refine y_r (q_build tyOk rfl rfl rfl rfl rfl rfl rfl rfl) (h := ?_)))
  (first | (refine c_s (l03Fitted_c C t N hC ht) (h := ?_)) | (refine z_s (l03Fitted_c C t N hC ht) (h := ?_)))
  cases h5 : (fdL C t N).all fin with
  | false =>
    repeat (first | (refine w_q (h := ?_)) | (refine w_s (h := ?_)) | (refine w_t (h := ?_)) | (refine w_k (h := ?_)) | (refine y_q (h := ?_)) | (refine y_s (h := ?_)) | (refine y_t (h := ?_)) | (refine y_k (h := ?_)) | (refine lex_nil (by kernel_rfl) ?_) | (refine awp_sq ?_) | (refine awp_rg ?_) | (refine awp_rd (by kernel_rfl) (by kernel_rfl) ?_) | (refine awp_block ?_) | (refine awp_exit ?_) | (refine awp_ret ?_) | (refine awp_skip ?_) | (refine w_r (q_build tyOk rfl rfl rfl rfl rfl rfl rfl rfl) (h := ?_)) | (refine y_r (q_build tyOk rfl rfl rfl rfl rfl rfl rfl rfl) (h := ?_)))
    (first | (refine c_q (l03Given_f (fdL C t N) (by omega) h5) (h := ?_)) | (refine z_q (l03Given_f (fdL C t N) (by omega) h5) (h := ?_)))
    rw [show ifAllF (fdL C t N) = ([], false) by simp only [ifAllF, h5]; rfl]
    repeat (first | (refine w_q (h := ?_)) | (refine w_s (h := ?_)) | (refine w_t (h := ?_)) | (refine w_k (h := ?_)) | (refine y_q (h := ?_)) | (refine y_s (h := ?_)) | (refine y_t (h := ?_)) | (refine y_k (h := ?_)) | (refine lex_nil (by kernel_rfl) ?_) | (refine awp_sq ?_) | (refine awp_rg ?_) | (refine awp_rd (by kernel_rfl) (by kernel_rfl) ?_) | (refine awp_block ?_) | (refine awp_exit ?_) | (refine awp_ret ?_) | (refine awp_skip ?_) | (refine w_r (q_build tyOk rfl rfl rfl rfl rfl rfl rfl rfl) (h := ?_)) | (refine y_r (q_build tyOk rfl rfl rfl rfl rfl rfl rfl rfl) (h := ?_)))
    (refine ret_ok tyOk (by first | exact .inr rfl | exact .inl rfl) pi0 rfl (by first | exact .cons (by first | exact .tmp | exact .cell rfl rfl rfl rfl rfl rfl | exact .cell1 rfl rfl rfl rfl rfl) .nil | exact .cons (by first | exact .tmp | exact .cell rfl rfl rfl rfl rfl rfl | exact .cell1 rfl rfl rfl rfl rfl) (.cons (by first | exact .tmp | exact .cell rfl rfl rfl rfl rfl rfl | exact .cell1 rfl rfl rfl rfl rfl) .nil) | exact .cons (by first | exact .tmp | exact .cell rfl rfl rfl rfl rfl rfl | exact .cell1 rfl rfl rfl rfl rfl) (.cons (by first | exact .tmp | exact .cell rfl rfl rfl rfl rfl rfl | exact .cell1 rfl rfl rfl rfl rfl) (.cons (by first | exact .tmp | exact .cell rfl rfl rfl rfl rfl rfl | exact .cell1 rfl rfl rfl rfl rfl) .nil)) | exact .cons (by first | exact .tmp | exact .cell rfl rfl rfl rfl rfl rfl | exact .cell1 rfl rfl rfl rfl rfl) (.cons (by first | exact .tmp | exact .cell rfl rfl rfl rfl rfl rfl | exact .cell1 rfl rfl rfl rfl rfl) (.cons (by first | exact .tmp | exact .cell rfl rfl rfl rfl rfl rfl | exact .cell1 rfl rfl rfl rfl rfl) (.cons (by first | exact .tmp | exact .cell rfl rfl rfl rfl rfl rfl | exact .cell1 rfl rfl rfl rfl rfl) .nil)))) ?_ ⟨⟨_, _, rfl, rfl, rfl⟩, trivial⟩ (injO_1 _ _ _); (repeat' (first | exact RetRelL.nil | (refine RetRel.nil rfl ?_) | refine RetRelL.cons ?_ ?_ | refine rr_tup ?_ | refine rr_agg ?_ | refine rr_own rfl ?_ | exact RetRel.arg | exact RetRel.argc | refine rr_t ?_)); all_goals rfl)
  | true =>
    repeat (first | (refine w_q (h := ?_)) | (refine w_s (h := ?_)) | (refine w_t (h := ?_)) | (refine w_k (h := ?_)) | (refine y_q (h := ?_)) | (refine y_s (h := ?_)) | (refine y_t (h := ?_)) | (refine y_k (h := ?_)) | (refine lex_nil (by kernel_rfl) ?_) | (refine awp_sq ?_) | (refine awp_rg ?_) | (refine awp_rd (by kernel_rfl) (by kernel_rfl) ?_) | (refine awp_block ?_) | (refine awp_exit ?_) | (refine awp_ret ?_) | (refine awp_skip ?_) | (refine w_r (q_build tyOk rfl rfl rfl rfl rfl rfl rfl rfl) (h := ?_)) | (refine y_r (q_build tyOk rfl rfl rfl rfl rfl rfl rfl rfl) (h := ?_)))
    (first | (refine c_q (l03Given_t (fdL C t N) (by omega) h5) (h := ?_)) | (refine z_q (l03Given_t (fdL C t N) (by omega) h5) (h := ?_)))
    rw [show ifAllF (fdL C t N) = (fdL C t N, true) by simp only [ifAllF, h5]; rfl]
    repeat (first | (refine w_q (h := ?_)) | (refine w_s (h := ?_)) | (refine w_t (h := ?_)) | (refine w_k (h := ?_)) | (refine y_q (h := ?_)) | (refine y_s (h := ?_)) | (refine y_t (h := ?_)) | (refine y_k (h := ?_)) | (refine lex_nil (by kernel_rfl) ?_) | (refine awp_sq ?_) | (refine awp_rg ?_) | (refine awp_rd (by kernel_rfl) (by kernel_rfl) ?_) | (refine awp_block ?_) | (refine awp_exit ?_) | (refine awp_ret ?_) | (refine awp_skip ?_) | (refine w_r (q_build tyOk rfl rfl rfl rfl rfl rfl rfl rfl) (h := ?_)) | (refine y_r (q_build tyOk rfl rfl rfl rfl rfl rfl rfl rfl) (h := ?_)))
    refine ret_ok tyOk (by first | exact .inr rfl | exact .inl rfl) (pi1 (cid 23 0)) rfl (by first | exact .cons (by first | exact .tmp | exact .cell rfl rfl rfl rfl rfl rfl | exact .cell1 rfl rfl rfl rfl rfl) .nil | exact .cons (by first | exact .tmp | exact .cell rfl rfl rfl rfl rfl rfl | exact .cell1 rfl rfl rfl rfl rfl) (.cons (by first | exact .tmp | exact .cell rfl rfl rfl rfl rfl rfl | exact .cell1 rfl rfl rfl rfl rfl) .nil) | exact .cons (by first | exact .tmp | exact .cell rfl rfl rfl rfl rfl rfl | exact .cell1 rfl rfl rfl rfl rfl) (.cons (by first | exact .tmp | exact .cell rfl rfl rfl rfl rfl rfl | exact .cell1 rfl rfl rfl rfl rfl) (.cons (by first | exact .tmp | exact .cell rfl rfl rfl rfl rfl rfl | exact .cell1 rfl rfl rfl rfl rfl) .nil)) | exact .cons (by first | exact .tmp | exact .cell rfl rfl rfl rfl rfl rfl | exact .cell1 rfl rfl rfl rfl rfl) (.cons (by first | exact .tmp | exact .cell rfl rfl rfl rfl rfl rfl | exact .cell1 rfl rfl rfl rfl rfl) (.cons (by first | exact .tmp | exact .cell rfl rfl rfl rfl rfl rfl | exact .cell1 rfl rfl rfl rfl rfl) (.cons (by first | exact .tmp | exact .cell rfl rfl rfl rfl rfl rfl | exact .cell1 rfl rfl rfl rfl rfl) .nil)))) ?_ ⟨rfl, trivial⟩ (injO_1 _ _ _)
    repeat' (first | exact RetRelL.nil | (refine RetRel.nil rfl ?_) | refine RetRelL.cons ?_ ?_ | refine rr_tup ?_ | refine rr_agg ?_ | refine rr_own rfl ?_ | exact RetRel.arg | exact RetRel.argc | refine rr_t ?_)
    all_goals first | rfl | exact hfl.symm
end Go.Proofs.Ytmnpdipiffmnhaa
