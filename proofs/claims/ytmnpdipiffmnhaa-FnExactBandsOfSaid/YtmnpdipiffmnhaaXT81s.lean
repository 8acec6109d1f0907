import Derived.Test.YtmnpdipiffmnhaaXT58
set_option linter.unusedVariables false
set_option linter.unusedSimpArgs false
set_option maxRecDepth 20000
set_option maxHeartbeats 8000000
namespace Go.Proofs.Ytmnpdipiffmnhaa
open Go.Aw
attribute [local irreducible] QRun LexD AWp TCall TMut fop fint fcmp fconv

/-! ### numbers in order -/
def swp (m : List Nat) (j : Nat) : List Nat := (m.set j (m.getD (j - 1) 0)).set (j - 1) (m.getD j 0)
theorem swp_len (m : List Nat) (j : Nat) : (swp m j).length = m.length := by simp [swp]
def sink : Nat → List Nat → List Nat
  | 0, m => m
  | j + 1, m => if fcmp .lss .f32 (m.getD (j + 1) 0) (m.getD j 0) = true then sink j (swp m (j + 1)) else m
theorem sink_t {j : Nat} {m : List Nat} (h : fcmp .lss .f32 (m.getD (j + 1) 0) (m.getD j 0) = true) : sink (j + 1) m = sink j (swp m (j + 1)) := by rw [sink, if_pos h]
theorem sink_f {j : Nat} {m : List Nat} (h : fcmp .lss .f32 (m.getD (j + 1) 0) (m.getD j 0) = false) : sink (j + 1) m = m := by rw [sink, if_neg (by rw [h]; exact Bool.false_ne_true)]
theorem sink_len : ∀ (j : Nat) (m : List Nat), (sink j m).length = m.length
  | 0, m => rfl
  | j + 1, m => by
    rw [sink]
    split
    · rw [sink_len, swp_len]
    · rfl
def srt (l : List Nat) : Nat → List Nat
  | 0 => l
  | k + 1 => sink (k + 1) (srt l k)
theorem srt_len (l : List Nat) : ∀ k, (srt l k).length = l.length
  | 0 => rfl
  | k + 1 => by rw [srt, sink_len, srt_len]
def sortF (l : List Nat) : List Nat := srt l (l.length - 1)
theorem sortF_len (l : List Nat) : (sortF l).length = l.length := srt_len l _
theorem l02Sorted_c (l : List Nat) (hl : l.length ≤ 1048576) : TCall Try.prog 190 [.fl l] (.own 0 (sortF l).length) [(0, .sl 30 (.fl (sortF l)))] := by
  refine tcall_of Try.func190 rfl (by kernel_rfl) (Nat.le_of_ble_eq_true rfl) rfl ?_
  simp only [argsL, argAV, argCs, argS]
  repeat (first | (refine w_q (h := ?_)) | (refine w_s (h := ?_)) | (refine w_t (h := ?_)) | (refine w_k (h := ?_)) | (refine y_q (h := ?_)) | (refine y_s (h := ?_)) | (refine y_t (h := ?_)) | (refine y_k (h := ?_)) | (refine lex_nil (by kernel_rfl) ?_) | (refine awp_sq ?_) | (refine awp_rg ?_) | (refine awp_rd (by kernel_rfl) (by kernel_rfl) ?_) | (refine awp_block ?_) | (refine awp_exit ?_) | (refine awp_ret ?_) | (refine awp_skip ?_))
  (first | (refine a_s (hn := by exact rfl) (h := ?_)) | (refine b_s (hn := by exact rfl) (h := ?_)))
  repeat (first | (refine w_q (h := ?_)) | (refine w_s (h := ?_)) | (refine w_t (h := ?_)) | (refine w_k (h := ?_)) | (refine y_q (h := ?_)) | (refine y_s (h := ?_)) | (refine y_t (h := ?_)) | (refine y_k (h := ?_)) | (refine lex_nil (by kernel_rfl) ?_) | (refine awp_sq ?_) | (refine awp_rg ?_) | (refine awp_rd (by kernel_rfl) (by kernel_rfl) ?_) | (refine awp_block ?_) | (refine awp_exit ?_) | (refine awp_ret ?_) | (refine awp_skip ?_))
  refine awp_loop (X := Nat) (fun k => k ≤ l.length - 1) (fun k => [(3, .own 7 0 l.length), (4, .t (.v (.int .i64 ((k + 1 : Nat) : Int))))]) (fun k => [(7, .sl 30 (.fl (srt l k)))]) (fun k => l.length - k)
    0 ⟨by omega, fun i => i, ⟨own_eq (by simp [T.app, T.len]), rfl, trivial⟩, ⟨sl_eq (congrArg T.fl (by simp [srt])), trivial⟩, injOn_id _⟩ (fun k hk => ?_)
  have hz := srt_len l k
  repeat (first | (refine w_q (h := ?_)) | (refine w_s (h := ?_)) | (refine w_t (h := ?_)) | (refine w_k (h := ?_)) | (refine y_q (h := ?_)) | (refine y_s (h := ?_)) | (refine y_t (h := ?_)) | (refine y_k (h := ?_)) | (refine lex_nil (by kernel_rfl) ?_) | (refine awp_sq ?_) | (refine awp_rg ?_) | (refine awp_rd (by kernel_rfl) (by kernel_rfl) ?_) | (refine awp_block ?_) | (refine awp_exit ?_) | (refine awp_ret ?_) | (refine awp_skip ?_))
  refine awp_if rfl (fun h => ?_) (fun h => ?_)
  · simp only [icmp, decide_eq_true_eq] at h
    repeat (first | (refine w_q (h := ?_)) | (refine w_s (h := ?_)) | (refine w_t (h := ?_)) | (refine w_k (h := ?_)) | (refine y_q (h := ?_)) | (refine y_s (h := ?_)) | (refine y_t (h := ?_)) | (refine y_k (h := ?_)) | (refine lex_nil (by kernel_rfl) ?_) | (refine awp_sq ?_) | (refine awp_rg ?_) | (refine awp_rd (by kernel_rfl) (by kernel_rfl) ?_) | (refine awp_block ?_) | (refine awp_exit ?_) | (refine awp_ret ?_) | (refine awp_skip ?_))
    refine awp_loop (X := Nat × List Nat) (fun x => x.1 ≤ k + 1 ∧ x.2.length = l.length ∧ sink x.1 x.2 = srt l (k + 1)) (fun x => [(3, .own 7 0 l.length), (4, .t (.v (.int .i64 ((k + 1 : Nat) : Int)))), (5, .t (.v (.int .i64 (x.1 : Nat))))]) (fun x => [(7, .sl 30 (.fl x.2))]) (fun x => x.1)
      (k + 1, srt l k) ⟨⟨by simp only []; omega, by simp only []; omega, rfl⟩, fun i => i, ⟨rfl, rfl, rfl, trivial⟩, ⟨rfl, trivial⟩, injOn_id _⟩ (fun x hx => ?_)
    obtain ⟨j, m⟩ := x
    obtain ⟨q1, q2, q3⟩ := hx
    simp only [] at q1 q2 q3
    repeat (first | (refine w_q (h := ?_)) | (refine w_s (h := ?_)) | (refine w_t (h := ?_)) | (refine w_k (h := ?_)) | (refine y_q (h := ?_)) | (refine y_s (h := ?_)) | (refine y_t (h := ?_)) | (refine y_k (h := ?_)) | (refine lex_nil (by kernel_rfl) ?_) | (refine awp_sq ?_) | (refine awp_rg ?_) | (refine awp_rd (by kernel_rfl) (by kernel_rfl) ?_) | (refine awp_block ?_) | (refine awp_exit ?_) | (refine awp_ret ?_) | (refine awp_skip ?_))
    refine lex_if rfl rfl rfl (fun h1 => ?_) (fun h1 => ?_)
    · simp only [icmp, decide_eq_true_eq] at h1
      obtain ⟨j, rfl⟩ : ∃ i, j = i + 1 := ⟨j - 1, by omega⟩
      have hsl : (m.set (0 + (j + 1)) (m.getD (0 + j) 0)).length = l.length := by simp [q2]
      repeat (first | (refine w_q (h := ?_)) | (refine w_s (h := ?_)) | (refine w_t (h := ?_)) | (refine w_k (h := ?_)) | (refine y_q (h := ?_)) | (refine y_s (h := ?_)) | (refine y_t (h := ?_)) | (refine y_k (h := ?_)) | (refine lex_nil (by kernel_rfl) ?_) | (refine awp_sq ?_) | (refine awp_rg ?_) | (refine awp_rd (by kernel_rfl) (by kernel_rfl) ?_) | (refine awp_block ?_) | (refine awp_exit ?_) | (refine awp_ret ?_) | (refine awp_skip ?_) | (first | (refine w_r (q_idx_own (j + 1) tyOk rfl rfl rfl rfl rfl rfl rfl (by omega) (by first | omega | (simp only [T.len]; omega) | assumption)) (h := ?_)) | (refine y_r (q_idx_own (j + 1) tyOk rfl rfl rfl rfl rfl rfl rfl (by omega) (by first | omega | (simp only [T.len]; omega) | assumption)) (h := ?_))) | (first | (refine w_r (q_idx_own (j) tyOk rfl rfl rfl rfl rfl rfl rfl (by omega) (by first | omega | (simp only [T.len]; omega) | assumption)) (h := ?_)) | (refine y_r (q_idx_own (j) tyOk rfl rfl rfl rfl rfl rfl rfl (by omega) (by first | omega | (simp only [T.len]; omega) | assumption)) (h := ?_))))
      refine awp_if rfl (fun h2 => ?_) (fun h2 => ?_)
      · repeat (first | (refine w_q (h := ?_)) | (refine w_s (h := ?_)) | (refine w_t (h := ?_)) | (refine w_k (h := ?_)) | (refine y_q (h := ?_)) | (refine y_s (h := ?_)) | (refine y_t (h := ?_)) | (refine y_k (h := ?_)) | (refine lex_nil (by kernel_rfl) ?_) | (refine awp_sq ?_) | (refine awp_rg ?_) | (refine awp_rd (by kernel_rfl) (by kernel_rfl) ?_) | (refine awp_block ?_) | (refine awp_exit ?_) | (refine awp_ret ?_) | (refine awp_skip ?_))
        repeat (first | (refine w_q (h := ?_)) | (refine w_s (h := ?_)) | (refine w_t (h := ?_)) | (refine w_k (h := ?_)) | (refine y_q (h := ?_)) | (refine y_s (h := ?_)) | (refine y_t (h := ?_)) | (refine y_k (h := ?_)) | (refine lex_nil (by kernel_rfl) ?_) | (refine awp_sq ?_) | (refine awp_rg ?_) | (refine awp_rd (by kernel_rfl) (by kernel_rfl) ?_) | (refine awp_block ?_) | (refine awp_exit ?_) | (refine awp_ret ?_) | (refine awp_skip ?_) | (first | (refine w_r (q_idx_own (j + 1) tyOk rfl rfl rfl rfl rfl rfl rfl (by omega) (by first | omega | (simp only [T.len]; omega) | assumption)) (h := ?_)) | (refine y_r (q_idx_own (j + 1) tyOk rfl rfl rfl rfl rfl rfl rfl (by omega) (by first | omega | (simp only [T.len]; omega) | assumption)) (h := ?_))) | (first | (refine w_r (q_idx_own (j) tyOk rfl rfl rfl rfl rfl rfl rfl (by omega) (by first | omega | (simp only [T.len]; omega) | assumption)) (h := ?_)) | (refine y_r (q_idx_own (j) tyOk rfl rfl rfl rfl rfl rfl rfl (by omega) (by first | omega | (simp only [T.len]; omega) | assumption)) (h := ?_))))
        exact ⟨(j, swp m (j + 1)), by simp only []; omega, ⟨by simp only []; omega, by simp only [swp_len]; exact q2, by simp only []; rw [← q3, sink_t (by simpa using h2)]⟩, fun i => i, ⟨rfl, rfl, congrArg (fun z => AV.t (T.v (Value.int .i64 z))) (show ((j + 1 : Nat) : Int) - 1 = (j : Int) by omega), trivial⟩, ⟨sl_eq (congrArg T.fl (by simp [swp])), trivial⟩, injOn_id _⟩
      · have e := sink_f (j := j) (m := m) (by simpa using h2)
        rw [e] at q3
        subst q3
        repeat (first | (refine w_q (h := ?_)) | (refine w_s (h := ?_)) | (refine w_t (h := ?_)) | (refine w_k (h := ?_)) | (refine y_q (h := ?_)) | (refine y_s (h := ?_)) | (refine y_t (h := ?_)) | (refine y_k (h := ?_)) | (refine lex_nil (by kernel_rfl) ?_) | (refine awp_sq ?_) | (refine awp_rg ?_) | (refine awp_rd (by kernel_rfl) (by kernel_rfl) ?_) | (refine awp_block ?_) | (refine awp_exit ?_) | (refine awp_ret ?_) | (refine awp_skip ?_))
        exact ⟨k + 1, by omega, by omega, fun i => i, ⟨rfl, congrArg (fun z => AV.t (T.v (Value.int .i64 z))) (show ((k + 1 : Nat) : Int) + 1 = ((k + 1 + 1 : Nat) : Int) by omega), trivial⟩, ⟨rfl, trivial⟩, injOn_id _⟩
    · simp only [icmp, decide_eq_false_iff_not] at h1
      obtain rfl : j = 0 := by omega
      rw [sink] at q3
      subst q3
      repeat (first | (refine w_q (h := ?_)) | (refine w_s (h := ?_)) | (refine w_t (h := ?_)) | (refine w_k (h := ?_)) | (refine y_q (h := ?_)) | (refine y_s (h := ?_)) | (refine y_t (h := ?_)) | (refine y_k (h := ?_)) | (refine lex_nil (by kernel_rfl) ?_) | (refine awp_sq ?_) | (refine awp_rg ?_) | (refine awp_rd (by kernel_rfl) (by kernel_rfl) ?_) | (refine awp_block ?_) | (refine awp_exit ?_) | (refine awp_ret ?_) | (refine awp_skip ?_))
      refine awp_ifF rfl rfl ?_
      repeat (first | (refine w_q (h := ?_)) | (refine w_s (h := ?_)) | (refine w_t (h := ?_)) | (refine w_k (h := ?_)) | (refine y_q (h := ?_)) | (refine y_s (h := ?_)) | (refine y_t (h := ?_)) | (refine y_k (h := ?_)) | (refine lex_nil (by kernel_rfl) ?_) | (refine awp_sq ?_) | (refine awp_rg ?_) | (refine awp_rd (by kernel_rfl) (by kernel_rfl) ?_) | (refine awp_block ?_) | (refine awp_exit ?_) | (refine awp_ret ?_) | (refine awp_skip ?_))
      exact ⟨k + 1, by omega, by omega, fun i => i, ⟨rfl, congrArg (fun z => AV.t (T.v (Value.int .i64 z))) (show ((k + 1 : Nat) : Int) + 1 = ((k + 1 + 1 : Nat) : Int) by omega), trivial⟩, ⟨rfl, trivial⟩, injOn_id _⟩
  · simp only [icmp, decide_eq_false_iff_not] at h
    obtain rfl : k = l.length - 1 := by omega
    repeat (first | (refine w_q (h := ?_)) | (refine w_s (h := ?_)) | (refine w_t (h := ?_)) | (refine w_k (h := ?_)) | (refine y_q (h := ?_)) | (refine y_s (h := ?_)) | (refine y_t (h := ?_)) | (refine y_k (h := ?_)) | (refine lex_nil (by kernel_rfl) ?_) | (refine awp_sq ?_) | (refine awp_rg ?_) | (refine awp_rd (by kernel_rfl) (by kernel_rfl) ?_) | (refine awp_block ?_) | (refine awp_exit ?_) | (refine awp_ret ?_) | (refine awp_skip ?_))
    have hs := sortF_len l
    refine ret_ok tyOk (by first | exact .inr rfl | exact .inl rfl) (pi1 7) rfl (by first | exact .cons (by first | exact .tmp | exact .cell rfl rfl rfl rfl rfl rfl | exact .cell1 rfl rfl rfl rfl rfl) .nil | exact .cons (by first | exact .tmp | exact .cell rfl rfl rfl rfl rfl rfl | exact .cell1 rfl rfl rfl rfl rfl) (.cons (by first | exact .tmp | exact .cell rfl rfl rfl rfl rfl rfl | exact .cell1 rfl rfl rfl rfl rfl) .nil) | exact .cons (by first | exact .tmp | exact .cell rfl rfl rfl rfl rfl rfl | exact .cell1 rfl rfl rfl rfl rfl) (.cons (by first | exact .tmp | exact .cell rfl rfl rfl rfl rfl rfl | exact .cell1 rfl rfl rfl rfl rfl) (.cons (by first | exact .tmp | exact .cell rfl rfl rfl rfl rfl rfl | exact .cell1 rfl rfl rfl rfl rfl) .nil)) | exact .cons (by first | exact .tmp | exact .cell rfl rfl rfl rfl rfl rfl | exact .cell1 rfl rfl rfl rfl rfl) (.cons (by first | exact .tmp | exact .cell rfl rfl rfl rfl rfl rfl | exact .cell1 rfl rfl rfl rfl rfl) (.cons (by first | exact .tmp | exact .cell rfl rfl rfl rfl rfl rfl | exact .cell1 rfl rfl rfl rfl rfl) (.cons (by first | exact .tmp | exact .cell rfl rfl rfl rfl rfl rfl | exact .cell1 rfl rfl rfl rfl rfl) .nil)))) ?_ ⟨rfl, trivial⟩ (injO_1 _ _ _)
    repeat' (first | exact RetRelL.nil | (refine RetRel.nil rfl ?_) | refine RetRelL.cons ?_ ?_ | refine rr_tup ?_ | refine rr_agg ?_ | refine rr_own rfl ?_ | exact RetRel.arg | exact RetRel.argc | refine rr_t ?_)
    all_goals exact hs.symm

def cmpI (x y : Nat) : Int := if fcmp .lss .f32 x y then -1 else if fcmp .gtr .f32 x y then 1 else 0
theorem cmpI_neg (x y : Nat) : icmp .lss (cmpI x y) 0 = fcmp .lss .f32 x y := by
  unfold cmpI
  cases fcmp .lss .f32 x y
  · simp only [Bool.false_eq_true, if_false]
    split <;> rfl
  · rfl
theorem sorted1_c (x y : Nat) : TCall Try.prog 214 [.f .f32 x, .f .f32 y] (.t (.v (.int .i64 (cmpI x y)))) [] := by
  refine tcall_of Try.func214 rfl (by kernel_rfl) (Nat.le_of_ble_eq_true rfl) rfl ?_
  simp only [argsL, argAV, argCs, argS]
  repeat (first | (refine w_q (h := ?_)) | (refine w_s (h := ?_)) | (refine w_t (h := ?_)) | (refine w_k (h := ?_)) | (refine y_q (h := ?_)) | (refine y_s (h := ?_)) | (refine y_t (h := ?_)) | (refine y_k (h := ?_)) | (refine lex_nil (by kernel_rfl) ?_) | (refine awp_sq ?_) | (refine awp_rg ?_) | (refine awp_rd (by kernel_rfl) (by kernel_rfl) ?_) | (refine awp_block ?_) | (refine awp_exit ?_) | (refine awp_ret ?_) | (refine awp_skip ?_))
  refine awp_if rfl (fun h1 => ?_) (fun h1 => ?_)
  · repeat (first | (refine w_q (h := ?_)) | (refine w_s (h := ?_)) | (refine w_t (h := ?_)) | (refine w_k (h := ?_)) | (refine y_q (h := ?_)) | (refine y_s (h := ?_)) | (refine y_t (h := ?_)) | (refine y_k (h := ?_)) | (refine lex_nil (by kernel_rfl) ?_) | (refine awp_sq ?_) | (refine awp_rg ?_) | (refine awp_rd (by kernel_rfl) (by kernel_rfl) ?_) | (refine awp_block ?_) | (refine awp_exit ?_) | (refine awp_ret ?_) | (refine awp_skip ?_))
    refine ret_ok tyOk (by first | exact .inr rfl | exact .inl rfl) pi0 rfl (by first | exact .cons (by first | exact .tmp | exact .cell rfl rfl rfl rfl rfl rfl | exact .cell1 rfl rfl rfl rfl rfl) .nil | exact .cons (by first | exact .tmp | exact .cell rfl rfl rfl rfl rfl rfl | exact .cell1 rfl rfl rfl rfl rfl) (.cons (by first | exact .tmp | exact .cell rfl rfl rfl rfl rfl rfl | exact .cell1 rfl rfl rfl rfl rfl) .nil) | exact .cons (by first | exact .tmp | exact .cell rfl rfl rfl rfl rfl rfl | exact .cell1 rfl rfl rfl rfl rfl) (.cons (by first | exact .tmp | exact .cell rfl rfl rfl rfl rfl rfl | exact .cell1 rfl rfl rfl rfl rfl) (.cons (by first | exact .tmp | exact .cell rfl rfl rfl rfl rfl rfl | exact .cell1 rfl rfl rfl rfl rfl) .nil)) | exact .cons (by first | exact .tmp | exact .cell rfl rfl rfl rfl rfl rfl | exact .cell1 rfl rfl rfl rfl rfl) (.cons (by first | exact .tmp | exact .cell rfl rfl rfl rfl rfl rfl | exact .cell1 rfl rfl rfl rfl rfl) (.cons (by first | exact .tmp | exact .cell rfl rfl rfl rfl rfl rfl | exact .cell1 rfl rfl rfl rfl rfl) (.cons (by first | exact .tmp | exact .cell rfl rfl rfl rfl rfl rfl | exact .cell1 rfl rfl rfl rfl rfl) .nil)))) ?_ trivial (injO_0 _)
    repeat' (first | exact RetRelL.nil | (refine RetRel.nil rfl ?_) | refine RetRelL.cons ?_ ?_ | refine rr_tup ?_ | refine rr_agg ?_ | refine rr_own rfl ?_ | exact RetRel.arg | exact RetRel.argc | refine rr_t ?_)
    unfold cmpI; rw [h1]; rfl
  · repeat (first | (refine w_q (h := ?_)) | (refine w_s (h := ?_)) | (refine w_t (h := ?_)) | (refine w_k (h := ?_)) | (refine y_q (h := ?_)) | (refine y_s (h := ?_)) | (refine y_t (h := ?_)) | (refine y_k (h := ?_)) | (refine lex_nil (by kernel_rfl) ?_) | (refine awp_sq ?_) | (refine awp_rg ?_) | (refine awp_rd (by kernel_rfl) (by kernel_rfl) ?_) | (refine awp_block ?_) | (refine awp_exit ?_) | (refine awp_ret ?_) | (refine awp_skip ?_))
    refine awp_if rfl (fun h2 => ?_) (fun h2 => ?_)
    · repeat (first | (refine w_q (h := ?_)) | (refine w_s (h := ?_)) | (refine w_t (h := ?_)) | (refine w_k (h := ?_)) | (refine y_q (h := ?_)) | (refine y_s (h := ?_)) | (refine y_t (h := ?_)) | (refine y_k (h := ?_)) | (refine lex_nil (by kernel_rfl) ?_) | (refine awp_sq ?_) | (refine awp_rg ?_) | (refine awp_rd (by kernel_rfl) (by kernel_rfl) ?_) | (refine awp_block ?_) | (refine awp_exit ?_) | (refine awp_ret ?_) | (refine awp_skip ?_))
      refine ret_ok tyOk (by first | exact .inr rfl | exact .inl rfl) pi0 rfl (by first | exact .cons (by first | exact .tmp | exact .cell rfl rfl rfl rfl rfl rfl | exact .cell1 rfl rfl rfl rfl rfl) .nil | exact .cons (by first | exact .tmp | exact .cell rfl rfl rfl rfl rfl rfl | exact .cell1 rfl rfl rfl rfl rfl) (.cons (by first | exact .tmp | exact .cell rfl rfl rfl rfl rfl rfl | exact .cell1 rfl rfl rfl rfl rfl) .nil) | exact .cons (by first | exact .tmp | exact .cell rfl rfl rfl rfl rfl rfl | exact .cell1 rfl rfl rfl rfl rfl) (.cons (by first | exact .tmp | exact .cell rfl rfl rfl rfl rfl rfl | exact .cell1 rfl rfl rfl rfl rfl) (.cons (by first | exact .tmp | exact .cell rfl rfl rfl rfl rfl rfl | exact .cell1 rfl rfl rfl rfl rfl) .nil)) | exact .cons (by first | exact .tmp | exact .cell rfl rfl rfl rfl rfl rfl | exact .cell1 rfl rfl rfl rfl rfl) (.cons (by first | exact .tmp | exact .cell rfl rfl rfl rfl rfl rfl | exact .cell1 rfl rfl rfl rfl rfl) (.cons (by first | exact .tmp | exact .cell rfl rfl rfl rfl rfl rfl | exact .cell1 rfl rfl rfl rfl rfl) (.cons (by first | exact .tmp | exact .cell rfl rfl rfl rfl rfl rfl | exact .cell1 rfl rfl rfl rfl rfl) .nil)))) ?_ trivial (injO_0 _)
      repeat' (first | exact RetRelL.nil | (refine RetRel.nil rfl ?_) | refine RetRelL.cons ?_ ?_ | refine rr_tup ?_ | refine rr_agg ?_ | refine rr_own rfl ?_ | exact RetRel.arg | exact RetRel.argc | refine rr_t ?_)
      unfold cmpI; rw [h1, h2]; rfl
    · repeat (first | (refine w_q (h := ?_)) | (refine w_s (h := ?_)) | (refine w_t (h := ?_)) | (refine w_k (h := ?_)) | (refine y_q (h := ?_)) | (refine y_s (h := ?_)) | (refine y_t (h := ?_)) | (refine y_k (h := ?_)) | (refine lex_nil (by kernel_rfl) ?_) | (refine awp_sq ?_) | (refine awp_rg ?_) | (refine awp_rd (by kernel_rfl) (by kernel_rfl) ?_) | (refine awp_block ?_) | (refine awp_exit ?_) | (refine awp_ret ?_) | (refine awp_skip ?_))
      refine ret_ok tyOk (by first | exact .inr rfl | exact .inl rfl) pi0 rfl (by first | exact .cons (by first | exact .tmp | exact .cell rfl rfl rfl rfl rfl rfl | exact .cell1 rfl rfl rfl rfl rfl) .nil | exact .cons (by first | exact .tmp | exact .cell rfl rfl rfl rfl rfl rfl | exact .cell1 rfl rfl rfl rfl rfl) (.cons (by first | exact .tmp | exact .cell rfl rfl rfl rfl rfl rfl | exact .cell1 rfl rfl rfl rfl rfl) .nil) | exact .cons (by first | exact .tmp | exact .cell rfl rfl rfl rfl rfl rfl | exact .cell1 rfl rfl rfl rfl rfl) (.cons (by first | exact .tmp | exact .cell rfl rfl rfl rfl rfl rfl | exact .cell1 rfl rfl rfl rfl rfl) (.cons (by first | exact .tmp | exact .cell rfl rfl rfl rfl rfl rfl | exact .cell1 rfl rfl rfl rfl rfl) .nil)) | exact .cons (by first | exact .tmp | exact .cell rfl rfl rfl rfl rfl rfl | exact .cell1 rfl rfl rfl rfl rfl) (.cons (by first | exact .tmp | exact .cell rfl rfl rfl rfl rfl rfl | exact .cell1 rfl rfl rfl rfl rfl) (.cons (by first | exact .tmp | exact .cell rfl rfl rfl rfl rfl rfl | exact .cell1 rfl rfl rfl rfl rfl) (.cons (by first | exact .tmp | exact .cell rfl rfl rfl rfl rfl rfl | exact .cell1 rfl rfl rfl rfl rfl) .nil)))) ?_ trivial (injO_0 _)
      repeat' (first | exact RetRelL.nil | (refine RetRel.nil rfl ?_) | refine RetRelL.cons ?_ ?_ | refine rr_tup ?_ | refine rr_agg ?_ | refine rr_own rfl ?_ | exact RetRel.arg | exact RetRel.argc | refine rr_t ?_)
      unfold cmpI; rw [h1, h2]; rfl
end Go.Proofs.Ytmnpdipiffmnhaa

