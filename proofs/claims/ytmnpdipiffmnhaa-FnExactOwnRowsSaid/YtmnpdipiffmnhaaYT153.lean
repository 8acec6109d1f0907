import Derived.Test.YtmnpdipiffmnhaaYT152
import Derived.Test.YtmnpdipiffmnhaaZAwM
set_option linter.unusedVariables false
set_option linter.unusedSimpArgs false
set_option maxRecDepth 20000
set_option maxHeartbeats 8000000
namespace Go.Proofs.Ytmnpdipiffmnhaa
open Go.Aw

/-! ### the program's elimination: back from the last row -/
def MX (n : Nat) (A : Mx) : List (List Nat) := (List.range n).map (gRow n A)
theorem MX_len (n : Nat) (A : Mx) : (MX n A).length = n := by simp [MX]
theorem MX_get {n k : Nat} {A : Mx} (h : k < n) : (MX n A).getD k [] = gRow n A k := by simp [MX, List.getD_eq_getElem?_getD, h]
abbrev cfR (r : List Nat × Bool) : RV := .tup [.own 0 r.1.length, .t (.v (.bool r.2))]
abbrev cfH (r : List Nat × Bool) : List (Nat × Blk) := [(0, .sl 30 (.fl r.1))]
attribute [local irreducible] QRun LexD AWp TCall TMut fop fint fcmp fconv gI gP gE gS gT gB gOk gF gV absF MX gRow
theorem cf_5 {n : Nat} {A : Mx} (h1 : 1 ≤ n) (hn : n ≤ 6) :
    AWp Try.prog Try.f186.ntmps (tlF Try.f186 5) (RetQ Try.prog Try.f186 (cfR (ifAllF (gB n A n))) (cfH (ifAllF (gB n A n)))) (lkF [(6, .t (.v (.int .i64 (n : Nat)))), (7, .own 26 0 n)])
      (lkH [(26, .sl 24 (.ffl (MX n A)))]) := by
  have hml := MX_len n A
  repeat (first | (refine w_q (h := ?_)) | (refine w_s (h := ?_)) | (refine w_t (h := ?_)) | (refine w_k (h := ?_)) | (refine y_q (h := ?_)) | (refine y_s (h := ?_)) | (refine y_t (h := ?_)) | (refine y_k (h := ?_)) | (refine lex_nil (by kernel_rfl) ?_) | (refine awp_sq ?_) | (refine awp_rg ?_) | (refine awp_rd (by kernel_rfl) (by kernel_rfl) ?_) | (refine awp_block ?_) | (refine awp_exit ?_) | (refine awp_ret ?_) | (refine awp_skip ?_))
  refine w_rs (q_make n tyOk rfl rfl rfl rfl rfl rfl rfl rfl rfl rfl rfl (by simp only []; omega) (by omega)) (h := ?_)
  repeat (first | (refine w_q (h := ?_)) | (refine w_s (h := ?_)) | (refine w_t (h := ?_)) | (refine w_k (h := ?_)) | (refine y_q (h := ?_)) | (refine y_s (h := ?_)) | (refine y_t (h := ?_)) | (refine y_k (h := ?_)) | (refine lex_nil (by kernel_rfl) ?_) | (refine awp_sq ?_) | (refine awp_rg ?_) | (refine awp_rd (by kernel_rfl) (by kernel_rfl) ?_) | (refine awp_block ?_) | (refine awp_exit ?_) | (refine awp_ret ?_) | (refine awp_skip ?_))
  refine awp_loop (X := Nat) (fun t => t ≤ n) (fun t => [(6, .t (.v (.int .i64 (n : Nat)))), (7, .own 26 0 n), (20, .own 173 0 n), (21, .t (.v (.int .i64 ((n : Int) - 1 - (t : Nat)))))])
    (fun t => [(26, .sl 24 (.ffl (MX n A))), (173, .sl 30 (.fl (List.replicate (n - t) 0 ++ gB n A t)))]) (fun t => n - t)
    0 ⟨by omega, fun i => i, ⟨rfl, rfl, rfl, iE9' (by omega), trivial⟩, ⟨rfl, sl_eq (by rw [gB_0, List.append_nil]; rfl), trivial⟩, injOn_id _⟩ (fun t ht => ?_)
  have hbt := gB_len n A t
  have hxl : (List.replicate (n - t) 0 ++ gB n A t).length = n := by rw [List.length_append, List.length_replicate, hbt]; omega
  repeat (first | (refine w_q (h := ?_)) | (refine w_s (h := ?_)) | (refine w_t (h := ?_)) | (refine w_k (h := ?_)) | (refine y_q (h := ?_)) | (refine y_s (h := ?_)) | (refine y_t (h := ?_)) | (refine y_k (h := ?_)) | (refine lex_nil (by kernel_rfl) ?_) | (refine awp_sq ?_) | (refine awp_rg ?_) | (refine awp_rd (by kernel_rfl) (by kernel_rfl) ?_) | (refine awp_block ?_) | (refine awp_exit ?_) | (refine awp_ret ?_) | (refine awp_skip ?_))
  refine awp_if rfl (fun h2 => ?_) (fun h2 => ?_)
  · simp only [icmp, decide_eq_true_eq] at h2
    have htn : t < n := by omega
    have hke : ((n : Int) - 1 - (t : Nat)) = ((n - (t + 1) : Nat) : Int) := by omega
    have hbs := gB_S n A t
    have hst := gB_set (x := fop .quo .f32 (gT A (n - (t + 1)) n (gB n A t) t) (A (n - (t + 1)) (n - (t + 1)))) hbt htn
    have hat := fun i (hi : i < t) => gB_at (xs := gB n A t) hbt (by omega : t ≤ n) hi
    rw [hke]
    generalize hkd : n - (t + 1) = k at *
    have hk : k < n := by omega
    have hrk := MX_get (A := A) hk
    have hrl := gRow_len n A k
    have hgn := gRow_get (M := A) (r := k) (Nat.le_refl n)
    have hlr : ((MX n A).getD k []).length = n + 1 := by rw [hrk, hrl]
    repeat (first | (refine w_q (h := ?_)) | (refine w_s (h := ?_)) | (refine w_t (h := ?_)) | (refine w_k (h := ?_)) | (refine y_q (h := ?_)) | (refine y_s (h := ?_)) | (refine y_t (h := ?_)) | (refine y_k (h := ?_)) | (refine lex_nil (by kernel_rfl) ?_) | (refine awp_sq ?_) | (refine awp_rg ?_) | (refine awp_rd (by kernel_rfl) (by kernel_rfl) ?_) | (refine awp_block ?_) | (refine awp_exit ?_) | (refine awp_ret ?_) | (refine awp_skip ?_))
    rw [Nat.zero_add, hrk]
    try (first | (refine w_r (q_idx_tree (n) tyOk rfl rfl rfl rfl rfl rfl rfl rfl (by omega) (by first | omega | (simp only [T.len]; omega) | assumption)) (h := ?_)) | (refine y_r (q_idx_tree (n) tyOk rfl rfl rfl rfl rfl rfl rfl rfl (by omega) (by first | omega | (simp only [T.len]; omega) | assumption)) (h := ?_)))
    repeat (first | (refine w_q (h := ?_)) | (refine w_s (h := ?_)) | (refine w_t (h := ?_)) | (refine w_k (h := ?_)) | (refine y_q (h := ?_)) | (refine y_s (h := ?_)) | (refine y_t (h := ?_)) | (refine y_k (h := ?_)) | (refine lex_nil (by kernel_rfl) ?_) | (refine awp_sq ?_) | (refine awp_rg ?_) | (refine awp_rd (by kernel_rfl) (by kernel_rfl) ?_) | (refine awp_block ?_) | (refine awp_exit ?_) | (refine awp_ret ?_) | (refine awp_skip ?_))
    rw [hgn]
    repeat (first | (refine w_q (h := ?_)) | (refine w_s (h := ?_)) | (refine w_t (h := ?_)) | (refine w_k (h := ?_)) | (refine y_q (h := ?_)) | (refine y_s (h := ?_)) | (refine y_t (h := ?_)) | (refine y_k (h := ?_)) | (refine lex_nil (by kernel_rfl) ?_) | (refine awp_sq ?_) | (refine awp_rg ?_) | (refine awp_rd (by kernel_rfl) (by kernel_rfl) ?_) | (refine awp_block ?_) | (refine awp_exit ?_) | (refine awp_ret ?_) | (refine awp_skip ?_))
    refine awp_loop (X := Nat) (fun i => i ≤ t) (fun i => [(6, .t (.v (.int .i64 (n : Nat)))), (7, .own 26 0 n), (20, .own 173 0 n), (21, .t (.v (.int .i64 (k : Nat)))), (22, .t (.f .f32 (gT A k n (gB n A t) i))), (23, .t (.v (.int .i64 (k + 1 + i : Nat))))])
      (fun i => [(26, .sl 24 (.ffl (MX n A))), (173, .sl 30 (.fl (List.replicate (n - t) 0 ++ gB n A t)))]) (fun i => t - i)
      0 ⟨by omega, fun i => i, ⟨rfl, rfl, rfl, rfl, fE2 (gT_0 _ _ _ _).symm, iE9' (by omega), trivial⟩, ⟨rfl, rfl, trivial⟩, injOn_id _⟩ (fun i hi => ?_)
    repeat (first | (refine w_q (h := ?_)) | (refine w_s (h := ?_)) | (refine w_t (h := ?_)) | (refine w_k (h := ?_)) | (refine y_q (h := ?_)) | (refine y_s (h := ?_)) | (refine y_t (h := ?_)) | (refine y_k (h := ?_)) | (refine lex_nil (by kernel_rfl) ?_) | (refine awp_sq ?_) | (refine awp_rg ?_) | (refine awp_rd (by kernel_rfl) (by kernel_rfl) ?_) | (refine awp_block ?_) | (refine awp_exit ?_) | (refine awp_ret ?_) | (refine awp_skip ?_))
    refine awp_if rfl (fun h3 => ?_) (fun h3 => ?_)
    · simp only [icmp, decide_eq_true_eq] at h3
      have hit : i < t := by omega
      have g2 := hat i hit
      rw [show n - t + i = k + 1 + i by omega] at g2
      have hgi := gRow_get (M := A) (r := k) (show k + 1 + i ≤ n by omega)
      repeat (first | (refine w_q (h := ?_)) | (refine w_s (h := ?_)) | (refine w_t (h := ?_)) | (refine w_k (h := ?_)) | (refine y_q (h := ?_)) | (refine y_s (h := ?_)) | (refine y_t (h := ?_)) | (refine y_k (h := ?_)) | (refine lex_nil (by kernel_rfl) ?_) | (refine awp_sq ?_) | (refine awp_rg ?_) | (refine awp_rd (by kernel_rfl) (by kernel_rfl) ?_) | (refine awp_block ?_) | (refine awp_exit ?_) | (refine awp_ret ?_) | (refine awp_skip ?_))
      rw [Nat.zero_add, hrk]
      try (first | (refine w_r (q_idx_tree (k + 1 + i) tyOk rfl rfl rfl rfl rfl rfl rfl rfl (by omega) (by first | omega | (simp only [T.len]; omega) | assumption)) (h := ?_)) | (refine y_r (q_idx_tree (k + 1 + i) tyOk rfl rfl rfl rfl rfl rfl rfl rfl (by omega) (by first | omega | (simp only [T.len]; omega) | assumption)) (h := ?_)))
      repeat (first | (refine w_q (h := ?_)) | (refine w_s (h := ?_)) | (refine w_t (h := ?_)) | (refine w_k (h := ?_)) | (refine y_q (h := ?_)) | (refine y_s (h := ?_)) | (refine y_t (h := ?_)) | (refine y_k (h := ?_)) | (refine lex_nil (by kernel_rfl) ?_) | (refine awp_sq ?_) | (refine awp_rg ?_) | (refine awp_rd (by kernel_rfl) (by kernel_rfl) ?_) | (refine awp_block ?_) | (refine awp_exit ?_) | (refine awp_ret ?_) | (refine awp_skip ?_))
      exact ⟨i + 1, by omega, by omega, fun i => i, ⟨rfl, rfl, rfl, rfl, fE2 (by rw [hgi, Nat.zero_add, g2, gT_S]), iE9' (by omega), trivial⟩, ⟨rfl, rfl, trivial⟩, injOn_id _⟩
    simp only [icmp, decide_eq_false_iff_not] at h3
    obtain rfl : i = t := by omega
    have hgk := gRow_get (M := A) (r := k) (show k ≤ n by omega)
    repeat (first | (refine w_q (h := ?_)) | (refine w_s (h := ?_)) | (refine w_t (h := ?_)) | (refine w_k (h := ?_)) | (refine y_q (h := ?_)) | (refine y_s (h := ?_)) | (refine y_t (h := ?_)) | (refine y_k (h := ?_)) | (refine lex_nil (by kernel_rfl) ?_) | (refine awp_sq ?_) | (refine awp_rg ?_) | (refine awp_rd (by kernel_rfl) (by kernel_rfl) ?_) | (refine awp_block ?_) | (refine awp_exit ?_) | (refine awp_ret ?_) | (refine awp_skip ?_))
    rw [Nat.zero_add, hrk]
    try (first | (refine w_r (q_idx_tree (k) tyOk rfl rfl rfl rfl rfl rfl rfl rfl (by omega) (by first | omega | (simp only [T.len]; omega) | assumption)) (h := ?_)) | (refine y_r (q_idx_tree (k) tyOk rfl rfl rfl rfl rfl rfl rfl rfl (by omega) (by first | omega | (simp only [T.len]; omega) | assumption)) (h := ?_)))
    repeat (first | (refine w_q (h := ?_)) | (refine w_s (h := ?_)) | (refine w_t (h := ?_)) | (refine w_k (h := ?_)) | (refine y_q (h := ?_)) | (refine y_s (h := ?_)) | (refine y_t (h := ?_)) | (refine y_k (h := ?_)) | (refine lex_nil (by kernel_rfl) ?_) | (refine awp_sq ?_) | (refine awp_rg ?_) | (refine awp_rd (by kernel_rfl) (by kernel_rfl) ?_) | (refine awp_block ?_) | (refine awp_exit ?_) | (refine awp_ret ?_) | (refine awp_skip ?_))
    exact ⟨i + 1, by omega, by omega, fun i => i, ⟨rfl, rfl, rfl, iE9' (by omega), trivial⟩, ⟨rfl, sl_eq (congrArg T.fl (by rw [hgk, Nat.zero_add, hst, ← hbs, hkd])), trivial⟩, injOn_id _⟩
  simp only [icmp, decide_eq_false_iff_not] at h2
  obtain rfl : n = t := by omega
  have hx0 : List.replicate (n - n) 0 ++ gB n A n = gB n A n := by rw [Nat.sub_self]; rfl
  rw [hx0]
  cases h5 : (gB n A n).all fin with
  | true =>
    rw [show ifAllF (gB n A n) = (gB n A n, true) by simp only [ifAllF, h5]; rfl]
    repeat (first | (refine w_q (h := ?_)) | (refine w_s (h := ?_)) | (refine w_t (h := ?_)) | (refine w_k (h := ?_)) | (refine y_q (h := ?_)) | (refine y_s (h := ?_)) | (refine y_t (h := ?_)) | (refine y_k (h := ?_)) | (refine lex_nil (by kernel_rfl) ?_) | (refine awp_sq ?_) | (refine awp_rg ?_) | (refine awp_rd (by kernel_rfl) (by kernel_rfl) ?_) | (refine awp_block ?_) | (refine awp_exit ?_) | (refine awp_ret ?_) | (refine awp_skip ?_))
    (first | (refine c_q (ifAll_t (gB n A n) (by omega) h5) (h := ?_)) | (refine z_q (ifAll_t (gB n A n) (by omega) h5) (h := ?_)))
    repeat (first | (refine w_q (h := ?_)) | (refine w_s (h := ?_)) | (refine w_t (h := ?_)) | (refine w_k (h := ?_)) | (refine y_q (h := ?_)) | (refine y_s (h := ?_)) | (refine y_t (h := ?_)) | (refine y_k (h := ?_)) | (refine lex_nil (by kernel_rfl) ?_) | (refine awp_sq ?_) | (refine awp_rg ?_) | (refine awp_rd (by kernel_rfl) (by kernel_rfl) ?_) | (refine awp_block ?_) | (refine awp_exit ?_) | (refine awp_ret ?_) | (refine awp_skip ?_))
    refine ret_ok tyOk (by first | exact .inr rfl | exact .inl rfl) (pi1 173) rfl (by first | exact .cons (by first | exact .tmp | exact .cell rfl rfl rfl rfl rfl rfl | exact .cell1 rfl rfl rfl rfl rfl) .nil | exact .cons (by first | exact .tmp | exact .cell rfl rfl rfl rfl rfl rfl | exact .cell1 rfl rfl rfl rfl rfl) (.cons (by first | exact .tmp | exact .cell rfl rfl rfl rfl rfl rfl | exact .cell1 rfl rfl rfl rfl rfl) .nil) | exact .cons (by first | exact .tmp | exact .cell rfl rfl rfl rfl rfl rfl | exact .cell1 rfl rfl rfl rfl rfl) (.cons (by first | exact .tmp | exact .cell rfl rfl rfl rfl rfl rfl | exact .cell1 rfl rfl rfl rfl rfl) (.cons (by first | exact .tmp | exact .cell rfl rfl rfl rfl rfl rfl | exact .cell1 rfl rfl rfl rfl rfl) .nil)) | exact .cons (by first | exact .tmp | exact .cell rfl rfl rfl rfl rfl rfl | exact .cell1 rfl rfl rfl rfl rfl) (.cons (by first | exact .tmp | exact .cell rfl rfl rfl rfl rfl rfl | exact .cell1 rfl rfl rfl rfl rfl) (.cons (by first | exact .tmp | exact .cell rfl rfl rfl rfl rfl rfl | exact .cell1 rfl rfl rfl rfl rfl) (.cons (by first | exact .tmp | exact .cell rfl rfl rfl rfl rfl rfl | exact .cell1 rfl rfl rfl rfl rfl) .nil)))) ?_ ⟨rfl, trivial⟩ (injO_1 _ _ _)
    repeat' (first | exact RetRelL.nil | (refine RetRel.nil rfl ?_) | refine RetRelL.cons ?_ ?_ | refine rr_tup ?_ | refine rr_agg ?_ | refine rr_own rfl ?_ | exact RetRel.arg | exact RetRel.argc | refine rr_t ?_)
    all_goals first | rfl | exact hbt.symm
  | false =>
    rw [show ifAllF (gB n A n) = ([], false) by simp only [ifAllF, h5]; rfl]
    repeat (first | (refine w_q (h := ?_)) | (refine w_s (h := ?_)) | (refine w_t (h := ?_)) | (refine w_k (h := ?_)) | (refine y_q (h := ?_)) | (refine y_s (h := ?_)) | (refine y_t (h := ?_)) | (refine y_k (h := ?_)) | (refine lex_nil (by kernel_rfl) ?_) | (refine awp_sq ?_) | (refine awp_rg ?_) | (refine awp_rd (by kernel_rfl) (by kernel_rfl) ?_) | (refine awp_block ?_) | (refine awp_exit ?_) | (refine awp_ret ?_) | (refine awp_skip ?_))
    (first | (refine c_q (ifAll_f (gB n A n) (by omega) h5) (h := ?_)) | (refine z_q (ifAll_f (gB n A n) (by omega) h5) (h := ?_)))
    repeat (first | (refine w_q (h := ?_)) | (refine w_s (h := ?_)) | (refine w_t (h := ?_)) | (refine w_k (h := ?_)) | (refine y_q (h := ?_)) | (refine y_s (h := ?_)) | (refine y_t (h := ?_)) | (refine y_k (h := ?_)) | (refine lex_nil (by kernel_rfl) ?_) | (refine awp_sq ?_) | (refine awp_rg ?_) | (refine awp_rd (by kernel_rfl) (by kernel_rfl) ?_) | (refine awp_block ?_) | (refine awp_exit ?_) | (refine awp_ret ?_) | (refine awp_skip ?_))
    (refine ret_ok tyOk (by first | exact .inr rfl | exact .inl rfl) pi0 rfl (by first | exact .cons (by first | exact .tmp | exact .cell rfl rfl rfl rfl rfl rfl | exact .cell1 rfl rfl rfl rfl rfl) .nil | exact .cons (by first | exact .tmp | exact .cell rfl rfl rfl rfl rfl rfl | exact .cell1 rfl rfl rfl rfl rfl) (.cons (by first | exact .tmp | exact .cell rfl rfl rfl rfl rfl rfl | exact .cell1 rfl rfl rfl rfl rfl) .nil) | exact .cons (by first | exact .tmp | exact .cell rfl rfl rfl rfl rfl rfl | exact .cell1 rfl rfl rfl rfl rfl) (.cons (by first | exact .tmp | exact .cell rfl rfl rfl rfl rfl rfl | exact .cell1 rfl rfl rfl rfl rfl) (.cons (by first | exact .tmp | exact .cell rfl rfl rfl rfl rfl rfl | exact .cell1 rfl rfl rfl rfl rfl) .nil)) | exact .cons (by first | exact .tmp | exact .cell rfl rfl rfl rfl rfl rfl | exact .cell1 rfl rfl rfl rfl rfl) (.cons (by first | exact .tmp | exact .cell rfl rfl rfl rfl rfl rfl | exact .cell1 rfl rfl rfl rfl rfl) (.cons (by first | exact .tmp | exact .cell rfl rfl rfl rfl rfl rfl | exact .cell1 rfl rfl rfl rfl rfl) (.cons (by first | exact .tmp | exact .cell rfl rfl rfl rfl rfl rfl | exact .cell1 rfl rfl rfl rfl rfl) .nil)))) ?_ ⟨⟨_, _, rfl, rfl, rfl⟩, trivial⟩ (injO_1 _ _ _); (repeat' (first | exact RetRelL.nil | (refine RetRel.nil rfl ?_) | refine RetRelL.cons ?_ ?_ | refine rr_tup ?_ | refine rr_agg ?_ | refine rr_own rfl ?_ | exact RetRel.arg | exact RetRel.argc | refine rr_t ?_)); all_goals rfl)
end Go.Proofs.Ytmnpdipiffmnhaa
