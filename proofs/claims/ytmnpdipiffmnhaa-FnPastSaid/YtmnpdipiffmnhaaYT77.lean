import Derived.Test.YtmnpdipiffmnhaaYT22
import Derived.Test.YtmnpdipiffmnhaaYT28
import Derived.Test.YtmnpdipiffmnhaaYT15
import Derived.Test.YtmnpdipiffmnhaaYT14
import Derived.Test.YtmnpdipiffmnhaaZAwC
import Derived.Test.YtmnpdipiffmnhaaYT58
set_option linter.unusedVariables false
set_option linter.unusedSimpArgs false
set_option maxRecDepth 20000
set_option maxHeartbeats 8000000
namespace Go.Proofs.Ytmnpdipiffmnhaa
open Go.Aw
attribute [local irreducible] QRun LexD AWp TCall TMut fop fint fcmp fconv

/-! ### ways ahead of terms -/
def paO (a terms : List Nat) (m : Nat) : Nat → List Nat
  | 0 => []
  | k + 1 => paO a terms m k ++ [toldF (a ++ paO a terms m k) terms m]
theorem paO_len (a terms : List Nat) (m : Nat) : ∀ k, (paO a terms m k).length = k
  | 0 => rfl
  | k + 1 => by rw [paO, List.length_append, paO_len a terms m k]; rfl
def paOk (a terms : List Nat) (m : Nat) (c : Int) : Bool := isSer a && isTerms terms && fin m && decide (terms.length ≤ a.length) && inR c 0 32
def paF (a terms : List Nat) (m : Nat) (c : Int) : List Nat × Bool := if paOk a terms m c then ifAllF (paO a terms m c.toNat) else ([], false)
theorem paF_ok {a terms : List Nat} {m : Nat} {c : Int} (h : (paF a terms m c).2 = true) : paOk a terms m c = true ∧ (paO a terms m c.toNat).all fin = true ∧ (paF a terms m c).1 = paO a terms m c.toNat := by
  unfold paF at h ⊢
  split at h
  · rename_i h1
    rw [if_pos h1]
    unfold ifAllF at h ⊢
    split at h
    · rename_i h2; rw [if_pos h2]; exact ⟨h1, h2, rfl⟩
    · cases h
  · cases h
/-- numbers ahead -/
theorem implPA_t (a terms : List Nat) (m n : Nat) (ha : a.length ≤ 9223372036854775807) (ht : terms.length ≤ 9223372036854775807) (hf : (paF a terms m (n : Int)).2 = true) (hn : 0 < n) :
    TCall Try.prog 38 [.fl a, .fl terms, .f .f32 m, .v (.int .i64 (n : Int))] (.tup [.cut 0 a.length n, .t (.v (.bool true))]) [(0, .sl 30 (.fl (a ++ paO a terms m n)))] := by
  obtain ⟨q1, q2, q3⟩ := paF_ok hf
  rw [Int.toNat_natCast] at q2 q3
  simp only [paOk, Bool.and_eq_true, decide_eq_true_eq] at q1
  obtain ⟨⟨⟨⟨h1, h2⟩, h3⟩, h4⟩, h5⟩ := q1
  have hl := isSer_len h1
  have h5' := inR_t.1 h5
  refine tcall_of Try.func38 rfl (by kernel_rfl) (Nat.le_of_ble_eq_true rfl) rfl ?_
  simp only [argsL, argAV, argCs, argS]
  repeat (first | (refine w_q (h := ?_)) | (refine w_s (h := ?_)) | (refine w_t (h := ?_)) | (refine w_k (h := ?_)) | (refine y_q (h := ?_)) | (refine y_s (h := ?_)) | (refine y_t (h := ?_)) | (refine y_k (h := ?_)) | (refine lex_nil (by kernel_rfl) ?_) | (refine awp_sq ?_) | (refine awp_rg ?_) | (refine awp_rd (by kernel_rfl) (by kernel_rfl) ?_) | (refine awp_block ?_) | (refine awp_exit ?_) | (refine awp_ret ?_) | (refine awp_skip ?_))
  (first | (refine c_q (implSer_c a ha) (h := ?_)) | (refine z_q (implSer_c a ha) (h := ?_)))
  rw [h1]
  repeat (first | (refine w_q (h := ?_)) | (refine w_s (h := ?_)) | (refine w_t (h := ?_)) | (refine w_k (h := ?_)) | (refine y_q (h := ?_)) | (refine y_s (h := ?_)) | (refine y_t (h := ?_)) | (refine y_k (h := ?_)) | (refine lex_nil (by kernel_rfl) ?_) | (refine awp_sq ?_) | (refine awp_rg ?_) | (refine awp_rd (by kernel_rfl) (by kernel_rfl) ?_) | (refine awp_block ?_) | (refine awp_exit ?_) | (refine awp_ret ?_) | (refine awp_skip ?_))
  (first | (refine c_q (areTerms_c terms ht) (h := ?_)) | (refine z_q (areTerms_c terms ht) (h := ?_)))
  rw [h2]
  repeat (first | (refine w_q (h := ?_)) | (refine w_s (h := ?_)) | (refine w_t (h := ?_)) | (refine w_k (h := ?_)) | (refine y_q (h := ?_)) | (refine y_s (h := ?_)) | (refine y_t (h := ?_)) | (refine y_k (h := ?_)) | (refine lex_nil (by kernel_rfl) ?_) | (refine awp_sq ?_) | (refine awp_rg ?_) | (refine awp_rd (by kernel_rfl) (by kernel_rfl) ?_) | (refine awp_block ?_) | (refine awp_exit ?_) | (refine awp_ret ?_) | (refine awp_skip ?_))
  (first | (refine c_q (isFinite_c m) (h := ?_)) | (refine z_q (isFinite_c m) (h := ?_)))
  rw [h3]
  repeat (first | (refine w_q (h := ?_)) | (refine w_s (h := ?_)) | (refine w_t (h := ?_)) | (refine w_k (h := ?_)) | (refine y_q (h := ?_)) | (refine y_s (h := ?_)) | (refine y_t (h := ?_)) | (refine y_k (h := ?_)) | (refine lex_nil (by kernel_rfl) ?_) | (refine awp_sq ?_) | (refine awp_rg ?_) | (refine awp_rd (by kernel_rfl) (by kernel_rfl) ?_) | (refine awp_block ?_) | (refine awp_exit ?_) | (refine awp_ret ?_) | (refine awp_skip ?_))
  refine lex_if rfl rfl rfl (fun h => ?_) (fun h => ?_)
  · simp only [icmp, decide_eq_true_eq] at h; omega
  repeat (first | (refine w_q (h := ?_)) | (refine w_s (h := ?_)) | (refine w_t (h := ?_)) | (refine w_k (h := ?_)) | (refine y_q (h := ?_)) | (refine y_s (h := ?_)) | (refine y_t (h := ?_)) | (refine y_k (h := ?_)) | (refine lex_nil (by kernel_rfl) ?_) | (refine awp_sq ?_) | (refine awp_rg ?_) | (refine awp_rd (by kernel_rfl) (by kernel_rfl) ?_) | (refine awp_block ?_) | (refine awp_exit ?_) | (refine awp_ret ?_) | (refine awp_skip ?_))
  (first | (refine c_q (isForth_c _) (h := ?_)) | (refine z_q (isForth_c _) (h := ?_)))
  repeat (first | (refine w_q (h := ?_)) | (refine w_s (h := ?_)) | (refine w_t (h := ?_)) | (refine w_k (h := ?_)) | (refine y_q (h := ?_)) | (refine y_s (h := ?_)) | (refine y_t (h := ?_)) | (refine y_k (h := ?_)) | (refine lex_nil (by kernel_rfl) ?_) | (refine awp_sq ?_) | (refine awp_rg ?_) | (refine awp_rd (by kernel_rfl) (by kernel_rfl) ?_) | (refine awp_block ?_) | (refine awp_exit ?_) | (refine awp_ret ?_) | (refine awp_skip ?_))
  refine awp_ifF rfl (by rw [h5]; rfl) ?_
  repeat (first | (refine w_q (h := ?_)) | (refine w_s (h := ?_)) | (refine w_t (h := ?_)) | (refine w_k (h := ?_)) | (refine y_q (h := ?_)) | (refine y_s (h := ?_)) | (refine y_t (h := ?_)) | (refine y_k (h := ?_)) | (refine lex_nil (by kernel_rfl) ?_) | (refine awp_sq ?_) | (refine awp_rg ?_) | (refine awp_rd (by kernel_rfl) (by kernel_rfl) ?_) | (refine awp_block ?_) | (refine awp_exit ?_) | (refine awp_ret ?_) | (refine awp_skip ?_))
  (first | (refine c_s (cloneF_c a (by omega)) (h := ?_)) | (refine z_s (cloneF_c a (by omega)) (h := ?_)))
  repeat (first | (refine w_q (h := ?_)) | (refine w_s (h := ?_)) | (refine w_t (h := ?_)) | (refine w_k (h := ?_)) | (refine y_q (h := ?_)) | (refine y_s (h := ?_)) | (refine y_t (h := ?_)) | (refine y_k (h := ?_)) | (refine lex_nil (by kernel_rfl) ?_) | (refine awp_sq ?_) | (refine awp_rg ?_) | (refine awp_rd (by kernel_rfl) (by kernel_rfl) ?_) | (refine awp_block ?_) | (refine awp_exit ?_) | (refine awp_ret ?_) | (refine awp_skip ?_))
  refine awp_loop (X := Nat) (fun k => k ≤ n) (fun k => [(0, .arg 0 (.fl a)), (1, .arg 1 (.fl terms)), (2, .t (.f .f32 m)), (10, .own (cid 37 0) 0 (a ++ paO a terms m k).length), (38, .t (.v (.int .i64 (n : Nat)))), (39, .t (.v (.int .i64 (k : Nat))))]) (fun k => [(cid 37 0, .sl 30 (.fl (a ++ paO a terms m k)))]) (fun k => n - k)
    0 ⟨by omega, fun i => i, ⟨rfl, rfl, rfl, own_eq (by simp [paO]), rfl, rfl, trivial⟩, ⟨sl_eq (congrArg T.fl (by simp [paO])), trivial⟩, injOn_id _⟩ (fun k hk => ?_)
  have hz := paO_len a terms m k
  have hz1 : (a ++ paO a terms m k).length = a.length + k := by simp [hz]
  repeat (first | (refine w_q (h := ?_)) | (refine w_s (h := ?_)) | (refine w_t (h := ?_)) | (refine w_k (h := ?_)) | (refine y_q (h := ?_)) | (refine y_s (h := ?_)) | (refine y_t (h := ?_)) | (refine y_k (h := ?_)) | (refine lex_nil (by kernel_rfl) ?_) | (refine awp_sq ?_) | (refine awp_rg ?_) | (refine awp_rd (by kernel_rfl) (by kernel_rfl) ?_) | (refine awp_block ?_) | (refine awp_exit ?_) | (refine awp_ret ?_) | (refine awp_skip ?_))
  refine awp_if rfl (fun h => ?_) (fun h => ?_)
  · simp only [icmp, decide_eq_true_eq] at h
    repeat (first | (refine w_q (h := ?_)) | (refine w_s (h := ?_)) | (refine w_t (h := ?_)) | (refine w_k (h := ?_)) | (refine y_q (h := ?_)) | (refine y_s (h := ?_)) | (refine y_t (h := ?_)) | (refine y_k (h := ?_)) | (refine lex_nil (by kernel_rfl) ?_) | (refine awp_sq ?_) | (refine awp_rg ?_) | (refine awp_rd (by kernel_rfl) (by kernel_rfl) ?_) | (refine awp_block ?_) | (refine awp_exit ?_) | (refine awp_ret ?_) | (refine awp_skip ?_))
    (first | (refine c_q (told_c (a ++ paO a terms m k) terms m (by omega) (by simp [isTerms] at h2; omega)) (h := ?_)) | (refine z_q (told_c (a ++ paO a terms m k) terms m (by omega) (by simp [isTerms] at h2; omega)) (h := ?_)))
    repeat (first | (refine w_q (h := ?_)) | (refine w_s (h := ?_)) | (refine w_t (h := ?_)) | (refine w_k (h := ?_)) | (refine y_q (h := ?_)) | (refine y_s (h := ?_)) | (refine y_t (h := ?_)) | (refine y_k (h := ?_)) | (refine lex_nil (by kernel_rfl) ?_) | (refine awp_sq ?_) | (refine awp_rg ?_) | (refine awp_rd (by kernel_rfl) (by kernel_rfl) ?_) | (refine awp_block ?_) | (refine awp_exit ?_) | (refine awp_ret ?_) | (refine awp_skip ?_))
    (first | (refine a_s (hn := by exact rfl) (h := ?_)) | (refine b_s (hn := by exact rfl) (h := ?_)))
    repeat (first | (refine w_q (h := ?_)) | (refine w_s (h := ?_)) | (refine w_t (h := ?_)) | (refine w_k (h := ?_)) | (refine y_q (h := ?_)) | (refine y_s (h := ?_)) | (refine y_t (h := ?_)) | (refine y_k (h := ?_)) | (refine lex_nil (by kernel_rfl) ?_) | (refine awp_sq ?_) | (refine awp_rg ?_) | (refine awp_rd (by kernel_rfl) (by kernel_rfl) ?_) | (refine awp_block ?_) | (refine awp_exit ?_) | (refine awp_ret ?_) | (refine awp_skip ?_))
    exact ⟨k + 1, by omega, by omega, fun i => i, ⟨rfl, rfl, rfl, own_eq (by simp [paO, T.app, T.len] <;> omega), rfl, rfl, trivial⟩, ⟨sl_eq (congrArg T.fl (by rw [paO, List.append_assoc])), trivial⟩, injOn_id _⟩
  · simp only [icmp, decide_eq_false_iff_not] at h
    obtain rfl : k = n := by omega
    repeat (first | (refine w_q (h := ?_)) | (refine w_s (h := ?_)) | (refine w_t (h := ?_)) | (refine w_k (h := ?_)) | (refine y_q (h := ?_)) | (refine y_s (h := ?_)) | (refine y_t (h := ?_)) | (refine y_k (h := ?_)) | (refine lex_nil (by kernel_rfl) ?_) | (refine awp_sq ?_) | (refine awp_rg ?_) | (refine awp_rd (by kernel_rfl) (by kernel_rfl) ?_) | (refine awp_block ?_) | (refine awp_exit ?_) | (refine awp_ret ?_) | (refine awp_skip ?_))
    (first | (refine w_r (q_slice_own a.length (a ++ paO a terms m k).length tyOk rfl rfl rfl rfl rfl rfl (by exact ⟨_, _, rfl, rfl⟩) (by exact rfl) (by omega) (by omega) (.inl (by omega))) (h := ?_)) | (refine y_r (q_slice_own a.length (a ++ paO a terms m k).length tyOk rfl rfl rfl rfl rfl rfl (by exact ⟨_, _, rfl, rfl⟩) (by exact rfl) (by omega) (by omega) (.inl (by omega))) (h := ?_)))
    repeat (first | (refine w_q (h := ?_)) | (refine w_s (h := ?_)) | (refine w_t (h := ?_)) | (refine w_k (h := ?_)) | (refine y_q (h := ?_)) | (refine y_s (h := ?_)) | (refine y_t (h := ?_)) | (refine y_k (h := ?_)) | (refine lex_nil (by kernel_rfl) ?_) | (refine awp_sq ?_) | (refine awp_rg ?_) | (refine awp_rd (by kernel_rfl) (by kernel_rfl) ?_) | (refine awp_block ?_) | (refine awp_exit ?_) | (refine awp_ret ?_) | (refine awp_skip ?_))
    have hcut : (((a ++ paO a terms m k).take (0 + a.length + ((a ++ paO a terms m k).length - a.length))).drop (0 + a.length)) = paO a terms m k := by
      rw [Nat.zero_add, show a.length + ((a ++ paO a terms m k).length - a.length) = (a ++ paO a terms m k).length by omega, List.take_length, List.drop_left]
    have hc := ifAll_t (paO a terms m k) (by omega) q2
    rw [← hcut] at hc
    (first | (refine c_q (hc) (h := ?_)) | (refine z_q (hc) (h := ?_)))
    repeat (first | (refine w_q (h := ?_)) | (refine w_s (h := ?_)) | (refine w_t (h := ?_)) | (refine w_k (h := ?_)) | (refine y_q (h := ?_)) | (refine y_s (h := ?_)) | (refine y_t (h := ?_)) | (refine y_k (h := ?_)) | (refine lex_nil (by kernel_rfl) ?_) | (refine awp_sq ?_) | (refine awp_rg ?_) | (refine awp_rd (by kernel_rfl) (by kernel_rfl) ?_) | (refine awp_block ?_) | (refine awp_exit ?_) | (refine awp_ret ?_) | (refine awp_skip ?_))
    refine ret_ok tyOk (by first | exact .inr rfl | exact .inl rfl) (pi1 (cid 37 0)) rfl (by first | exact .cons (by first | exact .tmp | exact .cell rfl rfl rfl rfl rfl rfl | exact .cell1 rfl rfl rfl rfl rfl) .nil | exact .cons (by first | exact .tmp | exact .cell rfl rfl rfl rfl rfl rfl | exact .cell1 rfl rfl rfl rfl rfl) (.cons (by first | exact .tmp | exact .cell rfl rfl rfl rfl rfl rfl | exact .cell1 rfl rfl rfl rfl rfl) .nil) | exact .cons (by first | exact .tmp | exact .cell rfl rfl rfl rfl rfl rfl | exact .cell1 rfl rfl rfl rfl rfl) (.cons (by first | exact .tmp | exact .cell rfl rfl rfl rfl rfl rfl | exact .cell1 rfl rfl rfl rfl rfl) (.cons (by first | exact .tmp | exact .cell rfl rfl rfl rfl rfl rfl | exact .cell1 rfl rfl rfl rfl rfl) .nil)) | exact .cons (by first | exact .tmp | exact .cell rfl rfl rfl rfl rfl rfl | exact .cell1 rfl rfl rfl rfl rfl) (.cons (by first | exact .tmp | exact .cell rfl rfl rfl rfl rfl rfl | exact .cell1 rfl rfl rfl rfl rfl) (.cons (by first | exact .tmp | exact .cell rfl rfl rfl rfl rfl rfl | exact .cell1 rfl rfl rfl rfl rfl) (.cons (by first | exact .tmp | exact .cell rfl rfl rfl rfl rfl rfl | exact .cell1 rfl rfl rfl rfl rfl) .nil)))) ?_ ⟨rfl, trivial⟩ (injO_1 _ _ _)
    rw [show RV.cut 0 a.length k = RV.cut 0 (0 + a.length) ((a ++ paO a terms m k).length - a.length) by rw [Nat.zero_add, hz1, Nat.add_sub_cancel_left]]
    refine rr_tup (RetRelL.cons (RetRel.cut rfl) (RetRelL.cons (rr_t rfl) RetRelL.nil))

/-! ### marks in a part of a slice -/
theorem cut_tail (p l : List Nat) : ((p ++ l).take (p.length + l.length)).drop p.length = l := by
  rw [show p.length + l.length = (p ++ l).length by simp, List.take_length, List.drop_left]
end Go.Proofs.Ytmnpdipiffmnhaa
