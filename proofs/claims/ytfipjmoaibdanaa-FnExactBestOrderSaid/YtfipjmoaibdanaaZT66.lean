import Derived.Test.YtfipjmoaibdanaaZT64
set_option linter.unusedVariables false
set_option linter.unusedSimpArgs false
set_option maxRecDepth 20000
set_option maxHeartbeats 8000000
namespace Go.Proofs.Ytfipjmoaibdanaa
open Go.Aw
attribute [local irreducible] QRun LexD AWp TCall TMut fop fint fcmp fconv

/-! ### what is left of likes -/
def plUp (p r : List Nat) (k : Nat) : Nat → Nat
  | 0 => 0
  | n + 1 => fop .add .f32 (plUp p r k n) (fop .mul .f32 (p.getD n 0) (r.getD (k - n) 0))
def plDn (p r : List Nat) : Nat → Nat
  | 0 => 0
  | n + 1 => fop .add .f32 (plDn p r n) (fop .mul .f32 (p.getD n 0) (r.getD (n + 1) 0))
def plBe (p r : List Nat) (k : Nat) : Nat := fop .sub .f32 1065353216 (plDn p r k)
def plX (p r : List Nat) (k : Nat) : Nat := fop .quo .f32 (fop .sub .f32 (r.getD (k + 1) 0) (plUp p r k k)) (plBe p r k)
def plNx (p : List Nat) (x k : Nat) : List Nat := (List.range k).map fun i => fop .sub .f32 (p.getD i 0) (fop .mul .f32 x (p.getD (k - i - 1) 0))
theorem plNx_len (p : List Nat) (x k : Nat) : (plNx p x k).length = k := by simp [plNx]
def plP (r : List Nat) : Nat → List Nat
  | 0 => []
  | k + 1 => plNx (plP r k) (plX (plP r k) r k) k ++ [plX (plP r k) r k]
theorem plP_len (r : List Nat) : ∀ k, (plP r k).length = k
  | 0 => rfl
  | k + 1 => by simp [plP, plNx_len]
def plO (r : List Nat) (m : Nat) : List Nat := (List.range m).map fun k => plX (plP r k) r k
theorem plO_len (r : List Nat) (m : Nat) : (plO r m).length = m := by simp [plO]
def plG (r : List Nat) (k : Nat) : Bool := !fcmp .eql .f32 (plBe (plP r k) r k) 0
def partF (a : List Nat) (m : Int) : List Nat × Bool := if (selfF a m).2 && (List.range m.toNat).all (plG (selfF a m).1) then ifAllF (plO (selfF a m).1 m.toNat) else ([], false)
theorem selfF_ok {a : List Nat} {m : Int} (h : (selfF a m).2 = true) : isSer a = true ∧ (0 ≤ m ∧ m ≤ 16) ∧ m < a.length ∧ (selfF a m).1.length = m.toNat + 1 := by
  unfold selfF at h ⊢
  split at h
  · rename_i hk
    rw [if_pos hk]
    simp only [selfOk, Bool.and_eq_true, decide_eq_true_eq, inR_t] at hk
    unfold ifAllF at h ⊢
    split at h
    · rename_i h2; rw [if_pos h2]; exact ⟨hk.1.1.1, hk.1.1.2, hk.1.2, likL_len a _⟩
    · cases h
  · cases h
theorem partF_le (a : List Nat) (m : Int) : (partF a m).1.length ≤ 16 := by
  unfold partF
  split
  · rename_i h
    simp only [Bool.and_eq_true] at h
    have h1 := selfF_ok h.1
    have := ifAllF_le (plO (selfF a m).1 m.toNat)
    rw [plO_len] at this; omega
  · simp
theorem set_mix {A P : List Nat} {n v : Nat} (hA : A.length = P.length) (hn : n < P.length) (hv : A.getD n 0 = v) : (A.take n ++ P.drop n).set n v = A.take (n + 1) ++ P.drop (n + 1) := by
  have hl : (A.take n).length = n := by simp; omega
  rw [List.set_append_right _ _ (by omega), hl, Nat.sub_self, List.drop_eq_getElem_cons hn, List.set_cons_zero, ← List.take_append_getElem (by omega : n < A.length)]
  have : A[n] = v := by rw [← hv]; simp [List.getD_eq_getElem?_getD, (by omega : n < A.length)]
  rw [this]; simp

theorem fE {k : FloatKind} {a b : Nat} (h : a = b) : AV.t (.f k a) = AV.t (.f k b) := by rw [h]
theorem specPart_c (a : List Nat) (m : Int) (hl : a.length ≤ 1048576) : TCall Try.prog 127 [.fl a, .v (.int .i64 m)] (.tup [.own 0 (partF a m).1.length, .t (.v (.bool (partF a m).2))]) [(0, .sl 23 (.fl (partF a m).1))] := by
  have bad : ¬ ((selfF a m).2 = true ∧ (List.range m.toNat).all (plG (selfF a m).1) = true) → partF a m = ([], false) := fun hc => by
    unfold partF; rw [if_neg (by simpa only [Bool.and_eq_true] using hc)]
  refine tcall_of Try.func127 rfl (by kernel_rfl) (Nat.le_of_ble_eq_true rfl) rfl ?_
  simp only [argsL, argAV, argCs, argS]
  repeat (first | (refine w_q (h := ?_)) | (refine w_s (h := ?_)) | (refine w_t (h := ?_)) | (refine w_k (h := ?_)) | (refine y_q (h := ?_)) | (refine y_s (h := ?_)) | (refine y_t (h := ?_)) | (refine y_k (h := ?_)) | (refine lex_nil (by kernel_rfl) ?_) | (refine awp_sq ?_) | (refine awp_rg ?_) | (refine awp_rd (by kernel_rfl) (by kernel_rfl) ?_) | (refine awp_block ?_) | (refine awp_exit ?_) | (refine awp_ret ?_) | (refine awp_skip ?_))
  (first | (refine c_s (specSelf_c a m hl) (h := ?_)) | (refine z_s (specSelf_c a m hl) (h := ?_)))
  repeat (first | (refine w_q (h := ?_)) | (refine w_s (h := ?_)) | (refine w_t (h := ?_)) | (refine w_k (h := ?_)) | (refine y_q (h := ?_)) | (refine y_s (h := ?_)) | (refine y_t (h := ?_)) | (refine y_k (h := ?_)) | (refine lex_nil (by kernel_rfl) ?_) | (refine awp_sq ?_) | (refine awp_rg ?_) | (refine awp_rd (by kernel_rfl) (by kernel_rfl) ?_) | (refine awp_block ?_) | (refine awp_exit ?_) | (refine awp_ret ?_) | (refine awp_skip ?_))
  refine awp_if rfl (fun h1 => ?_) (fun h1 => ?_)
  · simp only [Bool.not_eq_true'] at h1
    repeat (first | (refine w_q (h := ?_)) | (refine w_s (h := ?_)) | (refine w_t (h := ?_)) | (refine w_k (h := ?_)) | (refine y_q (h := ?_)) | (refine y_s (h := ?_)) | (refine y_t (h := ?_)) | (refine y_k (h := ?_)) | (refine lex_nil (by kernel_rfl) ?_) | (refine awp_sq ?_) | (refine awp_rg ?_) | (refine awp_rd (by kernel_rfl) (by kernel_rfl) ?_) | (refine awp_block ?_) | (refine awp_exit ?_) | (refine awp_ret ?_) | (refine awp_skip ?_))
    rw [bad (fun hc => by rw [h1] at hc; simp at hc)]
    (refine ret_ok tyOk (by first | exact .inr rfl | exact .inl rfl) pi0 rfl (by first | exact .cons (by first | exact .tmp | exact .cell rfl rfl rfl rfl rfl rfl | exact .cell1 rfl rfl rfl rfl rfl) .nil | exact .cons (by first | exact .tmp | exact .cell rfl rfl rfl rfl rfl rfl | exact .cell1 rfl rfl rfl rfl rfl) (.cons (by first | exact .tmp | exact .cell rfl rfl rfl rfl rfl rfl | exact .cell1 rfl rfl rfl rfl rfl) .nil) | exact .cons (by first | exact .tmp | exact .cell rfl rfl rfl rfl rfl rfl | exact .cell1 rfl rfl rfl rfl rfl) (.cons (by first | exact .tmp | exact .cell rfl rfl rfl rfl rfl rfl | exact .cell1 rfl rfl rfl rfl rfl) (.cons (by first | exact .tmp | exact .cell rfl rfl rfl rfl rfl rfl | exact .cell1 rfl rfl rfl rfl rfl) .nil)) | exact .cons (by first | exact .tmp | exact .cell rfl rfl rfl rfl rfl rfl | exact .cell1 rfl rfl rfl rfl rfl) (.cons (by first | exact .tmp | exact .cell rfl rfl rfl rfl rfl rfl | exact .cell1 rfl rfl rfl rfl rfl) (.cons (by first | exact .tmp | exact .cell rfl rfl rfl rfl rfl rfl | exact .cell1 rfl rfl rfl rfl rfl) (.cons (by first | exact .tmp | exact .cell rfl rfl rfl rfl rfl rfl | exact .cell1 rfl rfl rfl rfl rfl) .nil)))) ?_ ⟨⟨_, _, rfl, rfl, rfl⟩, trivial⟩ (injO_1 _ _ _); (repeat' (first | exact RetRelL.nil | (refine RetRel.nil rfl ?_) | refine RetRelL.cons ?_ ?_ | refine rr_tup ?_ | refine rr_agg ?_ | refine rr_own rfl ?_ | exact RetRel.arg | exact RetRel.argc | refine rr_t ?_)); all_goals rfl)
  simp only [Bool.not_eq_false'] at h1
  obtain ⟨q1, q2, q3, q4⟩ := selfF_ok h1
  obtain ⟨n, rfl⟩ : ∃ n : Nat, m = (n : Int) := ⟨m.toNat, by omega⟩
  simp only [Int.toNat_natCast] at q4 bad
  have hn : n ≤ 16 := by omega
  generalize hr : (selfF a (n : Int)).1 = r at *
  have hlo := plO_len r n
  repeat (first | (refine w_q (h := ?_)) | (refine w_s (h := ?_)) | (refine w_t (h := ?_)) | (refine w_k (h := ?_)) | (refine y_q (h := ?_)) | (refine y_s (h := ?_)) | (refine y_t (h := ?_)) | (refine y_k (h := ?_)) | (refine lex_nil (by kernel_rfl) ?_) | (refine awp_sq ?_) | (refine awp_rg ?_) | (refine awp_rd (by kernel_rfl) (by kernel_rfl) ?_) | (refine awp_block ?_) | (refine awp_exit ?_) | (refine awp_ret ?_) | (refine awp_skip ?_) | (refine w_r (q_build tyOk rfl rfl rfl rfl rfl rfl rfl rfl) (h := ?_)) | (refine y_r (q_build tyOk rfl rfl rfl rfl rfl rfl rfl rfl) (h := ?_)))
  refine awp_loop (X := Nat) (fun k => k ≤ n ∧ ∀ j, j < k → plG r j = true) (fun k => [(1, .t (.v (.int .i64 (n : Nat)))), (6, .own (cid 21 0) 0 r.length), (8, .own 26 0 k), (9, .own 27 0 k), (10, .t (.v (.int .i64 ((k : Int) + 1))))]) (fun k => [(cid 21 0, .sl 23 (.fl r)), (26, .sl 23 (.fl (plP r k))), (27, .sl 23 (.fl ((plO r n).take k)))]) (fun k => n - k)
    0 ⟨⟨by omega, fun j hj => by omega⟩, fun i => i, ⟨rfl, rfl, rfl, rfl, rfl, trivial⟩, ⟨rfl, rfl, rfl, trivial⟩, injOn_id _⟩ (fun k hk => ?_)
  obtain ⟨hk, hok⟩ := hk
  have hz1 := plP_len r k
  have hz2 : ((plO r n).take k).length = k := by simp [hlo]; omega
  repeat (first | (refine w_q (h := ?_)) | (refine w_s (h := ?_)) | (refine w_t (h := ?_)) | (refine w_k (h := ?_)) | (refine lex_nil (by kernel_rfl) ?_) | (refine awp_sq ?_) | (refine awp_rg ?_) | (refine awp_rd (by kernel_rfl) (by kernel_rfl) ?_) | (refine awp_block ?_) | (refine awp_exit ?_) | (refine awp_ret ?_) | (refine awp_skip ?_))
  refine awp_if rfl (fun h => ?_) (fun h => ?_)
  · simp only [icmp, decide_eq_true_eq] at h
    repeat (first | (refine w_q (h := ?_)) | (refine w_s (h := ?_)) | (refine w_t (h := ?_)) | (refine w_k (h := ?_)) | (refine y_q (h := ?_)) | (refine y_s (h := ?_)) | (refine y_t (h := ?_)) | (refine y_k (h := ?_)) | (refine lex_nil (by kernel_rfl) ?_) | (refine awp_sq ?_) | (refine awp_rg ?_) | (refine awp_rd (by kernel_rfl) (by kernel_rfl) ?_) | (refine awp_block ?_) | (refine awp_exit ?_) | (refine awp_ret ?_) | (refine awp_skip ?_) | (refine w_r (q_build tyOk rfl rfl rfl rfl rfl rfl rfl rfl) (h := ?_)) | (refine y_r (q_build tyOk rfl rfl rfl rfl rfl rfl rfl rfl) (h := ?_)))
    refine awp_loop (X := Nat) (fun i => i ≤ k) (fun i => [(1, .t (.v (.int .i64 (n : Nat)))), (6, .own (cid 21 0) 0 r.length), (8, .own 26 0 k), (9, .own 27 0 k), (10, .t (.v (.int .i64 ((k : Int) + 1)))), (11, .t (.f .f32 (r.getD (k + 1) 0))), (12, .t (.f .f32 (plDn (plP r k) r i))), (13, .t (.f .f32 (plUp (plP r k) r k i))), (14, .t (.v (.int .i64 ((i : Int) + 1))))]) (fun i => [(cid 21 0, .sl 23 (.fl r)), (26, .sl 23 (.fl (plP r k))), (27, .sl 23 (.fl ((plO r n).take k)))]) (fun i => k - i)
      0 ⟨by omega, fun i => i, ⟨rfl, rfl, rfl, rfl, rfl, fE (congrArg (fun i => r.getD i 0) (Nat.zero_add _)), rfl, rfl, rfl, trivial⟩, ⟨rfl, rfl, rfl, trivial⟩, injOn_id _⟩ (fun i hi => ?_)
    repeat (first | (refine w_q (h := ?_)) | (refine w_s (h := ?_)) | (refine w_t (h := ?_)) | (refine w_k (h := ?_)) | (refine lex_nil (by kernel_rfl) ?_) | (refine awp_sq ?_) | (refine awp_rg ?_) | (refine awp_rd (by kernel_rfl) (by kernel_rfl) ?_) | (refine awp_block ?_) | (refine awp_exit ?_) | (refine awp_ret ?_) | (refine awp_skip ?_))
    refine awp_if rfl (fun h2 => ?_) (fun h2 => ?_)
    · simp only [icmp, decide_eq_true_eq] at h2
      repeat (first | (refine w_q (h := ?_)) | (refine w_s (h := ?_)) | (refine w_t (h := ?_)) | (refine w_k (h := ?_)) | (refine y_q (h := ?_)) | (refine y_s (h := ?_)) | (refine y_t (h := ?_)) | (refine y_k (h := ?_)) | (refine lex_nil (by kernel_rfl) ?_) | (refine awp_sq ?_) | (refine awp_rg ?_) | (refine awp_rd (by kernel_rfl) (by kernel_rfl) ?_) | (refine awp_block ?_) | (refine awp_exit ?_) | (refine awp_ret ?_) | (refine awp_skip ?_))
      (first | (refine w_r (q_idx_own (i) tyOk rfl rfl rfl rfl rfl rfl rfl (by omega) (by first | omega | (simp only [T.len]; omega) | assumption)) (h := ?_)) | (refine y_r (q_idx_own (i) tyOk rfl rfl rfl rfl rfl rfl rfl (by omega) (by first | omega | (simp only [T.len]; omega) | assumption)) (h := ?_)))
      repeat (first | (refine w_q (h := ?_)) | (refine w_s (h := ?_)) | (refine w_t (h := ?_)) | (refine w_k (h := ?_)) | (refine y_q (h := ?_)) | (refine y_s (h := ?_)) | (refine y_t (h := ?_)) | (refine y_k (h := ?_)) | (refine lex_nil (by kernel_rfl) ?_) | (refine awp_sq ?_) | (refine awp_rg ?_) | (refine awp_rd (by kernel_rfl) (by kernel_rfl) ?_) | (refine awp_block ?_) | (refine awp_exit ?_) | (refine awp_ret ?_) | (refine awp_skip ?_))
      (first | (refine w_r (q_idx_own (k - i) tyOk rfl rfl rfl rfl rfl rfl rfl (by omega) (by first | omega | (simp only [T.len]; omega) | assumption)) (h := ?_)) | (refine y_r (q_idx_own (k - i) tyOk rfl rfl rfl rfl rfl rfl rfl (by omega) (by first | omega | (simp only [T.len]; omega) | assumption)) (h := ?_)))
      repeat (first | (refine w_q (h := ?_)) | (refine w_s (h := ?_)) | (refine w_t (h := ?_)) | (refine w_k (h := ?_)) | (refine y_q (h := ?_)) | (refine y_s (h := ?_)) | (refine y_t (h := ?_)) | (refine y_k (h := ?_)) | (refine lex_nil (by kernel_rfl) ?_) | (refine awp_sq ?_) | (refine awp_rg ?_) | (refine awp_rd (by kernel_rfl) (by kernel_rfl) ?_) | (refine awp_block ?_) | (refine awp_exit ?_) | (refine awp_ret ?_) | (refine awp_skip ?_))
      (first | (refine w_r (q_idx_own (i) tyOk rfl rfl rfl rfl rfl rfl rfl (by omega) (by first | omega | (simp only [T.len]; omega) | assumption)) (h := ?_)) | (refine y_r (q_idx_own (i) tyOk rfl rfl rfl rfl rfl rfl rfl (by omega) (by first | omega | (simp only [T.len]; omega) | assumption)) (h := ?_)))
      repeat (first | (refine w_q (h := ?_)) | (refine w_s (h := ?_)) | (refine w_t (h := ?_)) | (refine w_k (h := ?_)) | (refine y_q (h := ?_)) | (refine y_s (h := ?_)) | (refine y_t (h := ?_)) | (refine y_k (h := ?_)) | (refine lex_nil (by kernel_rfl) ?_) | (refine awp_sq ?_) | (refine awp_rg ?_) | (refine awp_rd (by kernel_rfl) (by kernel_rfl) ?_) | (refine awp_block ?_) | (refine awp_exit ?_) | (refine awp_ret ?_) | (refine awp_skip ?_))
      exact ⟨i + 1, by omega, by omega, fun i => i, ⟨rfl, rfl, rfl, rfl, rfl, rfl, fE (by simp only [Nat.zero_add]; rfl), fE (by simp only [Nat.zero_add]; rfl), rfl, trivial⟩, ⟨rfl, rfl, rfl, trivial⟩, injOn_id _⟩
    simp only [icmp, decide_eq_false_iff_not] at h2
    obtain rfl : i = k := by omega
    repeat (first | (refine w_q (h := ?_)) | (refine w_s (h := ?_)) | (refine w_t (h := ?_)) | (refine w_k (h := ?_)) | (refine y_q (h := ?_)) | (refine y_s (h := ?_)) | (refine y_t (h := ?_)) | (refine y_k (h := ?_)) | (refine lex_nil (by kernel_rfl) ?_) | (refine awp_sq ?_) | (refine awp_rg ?_) | (refine awp_rd (by kernel_rfl) (by kernel_rfl) ?_) | (refine awp_block ?_) | (refine awp_exit ?_) | (refine awp_ret ?_) | (refine awp_skip ?_))
    refine awp_if rfl (fun h3 => ?_) (fun h3 => ?_)
    · repeat (first | (refine w_q (h := ?_)) | (refine w_s (h := ?_)) | (refine w_t (h := ?_)) | (refine w_k (h := ?_)) | (refine y_q (h := ?_)) | (refine y_s (h := ?_)) | (refine y_t (h := ?_)) | (refine y_k (h := ?_)) | (refine lex_nil (by kernel_rfl) ?_) | (refine awp_sq ?_) | (refine awp_rg ?_) | (refine awp_rd (by kernel_rfl) (by kernel_rfl) ?_) | (refine awp_block ?_) | (refine awp_exit ?_) | (refine awp_ret ?_) | (refine awp_skip ?_))
      rw [bad (fun hc => by have := List.all_eq_true.1 hc.2 i (List.mem_range.2 (by omega)); simp only [plG, plBe] at this; rw [h3] at this; simp at this)]
      (refine ret_ok tyOk (by first | exact .inr rfl | exact .inl rfl) pi0 rfl (by first | exact .cons (by first | exact .tmp | exact .cell rfl rfl rfl rfl rfl rfl | exact .cell1 rfl rfl rfl rfl rfl) .nil | exact .cons (by first | exact .tmp | exact .cell rfl rfl rfl rfl rfl rfl | exact .cell1 rfl rfl rfl rfl rfl) (.cons (by first | exact .tmp | exact .cell rfl rfl rfl rfl rfl rfl | exact .cell1 rfl rfl rfl rfl rfl) .nil) | exact .cons (by first | exact .tmp | exact .cell rfl rfl rfl rfl rfl rfl | exact .cell1 rfl rfl rfl rfl rfl) (.cons (by first | exact .tmp | exact .cell rfl rfl rfl rfl rfl rfl | exact .cell1 rfl rfl rfl rfl rfl) (.cons (by first | exact .tmp | exact .cell rfl rfl rfl rfl rfl rfl | exact .cell1 rfl rfl rfl rfl rfl) .nil)) | exact .cons (by first | exact .tmp | exact .cell rfl rfl rfl rfl rfl rfl | exact .cell1 rfl rfl rfl rfl rfl) (.cons (by first | exact .tmp | exact .cell rfl rfl rfl rfl rfl rfl | exact .cell1 rfl rfl rfl rfl rfl) (.cons (by first | exact .tmp | exact .cell rfl rfl rfl rfl rfl rfl | exact .cell1 rfl rfl rfl rfl rfl) (.cons (by first | exact .tmp | exact .cell rfl rfl rfl rfl rfl rfl | exact .cell1 rfl rfl rfl rfl rfl) .nil)))) ?_ ⟨⟨_, _, rfl, rfl, rfl⟩, trivial⟩ (injO_1 _ _ _); (repeat' (first | exact RetRelL.nil | (refine RetRel.nil rfl ?_) | refine RetRelL.cons ?_ ?_ | refine rr_tup ?_ | refine rr_agg ?_ | refine rr_own rfl ?_ | exact RetRel.arg | exact RetRel.argc | refine rr_t ?_)); all_goals rfl)
    have hst : plG r i = true := by simp only [plG, plBe]; rw [h3]; rfl
    have ho : (plO r n).getD i 0 = plX (plP r i) r i := getD_mapR _ (by omega)
    repeat (first | (refine w_q (h := ?_)) | (refine w_s (h := ?_)) | (refine w_t (h := ?_)) | (refine w_k (h := ?_)) | (refine y_q (h := ?_)) | (refine y_s (h := ?_)) | (refine y_t (h := ?_)) | (refine y_k (h := ?_)) | (refine lex_nil (by kernel_rfl) ?_) | (refine awp_sq ?_) | (refine awp_rg ?_) | (refine awp_rd (by kernel_rfl) (by kernel_rfl) ?_) | (refine awp_block ?_) | (refine awp_exit ?_) | (refine awp_ret ?_) | (refine awp_skip ?_))
    refine awp_loop (X := Nat) (fun j => j ≤ i) (fun j => [(1, .t (.v (.int .i64 (n : Nat)))), (6, .own (cid 21 0) 0 r.length), (8, .own 26 0 i), (9, .own 27 0 i), (10, .t (.v (.int .i64 ((i : Int) + 1)))), (15, .t (.f .f32 (plX (plP r i) r i))), (16, .own 78 0 j), (17, .t (.v (.int .i64 ((j : Int) + 1))))]) (fun j => [(cid 21 0, .sl 23 (.fl r)), (26, .sl 23 (.fl (plP r i))), (27, .sl 23 (.fl ((plO r n).take i))), (78, .sl 23 (.fl ((plNx (plP r i) (plX (plP r i) r i) i).take j)))]) (fun j => i - j)
      0 ⟨by omega, fun i => i, ⟨rfl, rfl, rfl, rfl, rfl, rfl, rfl, rfl, trivial⟩, ⟨rfl, rfl, rfl, rfl, trivial⟩, injOn_id _⟩ (fun j hj => ?_)
    have hz3 : ((plNx (plP r i) (plX (plP r i) r i) i).take j).length = j := by simp [plNx_len]; omega
    repeat (first | (refine w_q (h := ?_)) | (refine w_s (h := ?_)) | (refine w_t (h := ?_)) | (refine w_k (h := ?_)) | (refine lex_nil (by kernel_rfl) ?_) | (refine awp_sq ?_) | (refine awp_rg ?_) | (refine awp_rd (by kernel_rfl) (by kernel_rfl) ?_) | (refine awp_block ?_) | (refine awp_exit ?_) | (refine awp_ret ?_) | (refine awp_skip ?_))
    refine awp_if rfl (fun h4 => ?_) (fun h4 => ?_)
    · simp only [icmp, decide_eq_true_eq] at h4
      repeat (first | (refine w_q (h := ?_)) | (refine w_s (h := ?_)) | (refine w_t (h := ?_)) | (refine w_k (h := ?_)) | (refine y_q (h := ?_)) | (refine y_s (h := ?_)) | (refine y_t (h := ?_)) | (refine y_k (h := ?_)) | (refine lex_nil (by kernel_rfl) ?_) | (refine awp_sq ?_) | (refine awp_rg ?_) | (refine awp_rd (by kernel_rfl) (by kernel_rfl) ?_) | (refine awp_block ?_) | (refine awp_exit ?_) | (refine awp_ret ?_) | (refine awp_skip ?_))
      (first | (refine w_r (q_idx_own (j) tyOk rfl rfl rfl rfl rfl rfl rfl (by omega) (by first | omega | (simp only [T.len]; omega) | assumption)) (h := ?_)) | (refine y_r (q_idx_own (j) tyOk rfl rfl rfl rfl rfl rfl rfl (by omega) (by first | omega | (simp only [T.len]; omega) | assumption)) (h := ?_)))
      repeat (first | (refine w_q (h := ?_)) | (refine w_s (h := ?_)) | (refine w_t (h := ?_)) | (refine w_k (h := ?_)) | (refine y_q (h := ?_)) | (refine y_s (h := ?_)) | (refine y_t (h := ?_)) | (refine y_k (h := ?_)) | (refine lex_nil (by kernel_rfl) ?_) | (refine awp_sq ?_) | (refine awp_rg ?_) | (refine awp_rd (by kernel_rfl) (by kernel_rfl) ?_) | (refine awp_block ?_) | (refine awp_exit ?_) | (refine awp_ret ?_) | (refine awp_skip ?_))
      (first | (refine w_r (q_idx_own (i - j - 1) tyOk rfl rfl rfl rfl rfl rfl rfl (by omega) (by first | omega | (simp only [T.len]; omega) | assumption)) (h := ?_)) | (refine y_r (q_idx_own (i - j - 1) tyOk rfl rfl rfl rfl rfl rfl rfl (by omega) (by first | omega | (simp only [T.len]; omega) | assumption)) (h := ?_)))
      repeat (first | (refine w_q (h := ?_)) | (refine w_s (h := ?_)) | (refine w_t (h := ?_)) | (refine w_k (h := ?_)) | (refine y_q (h := ?_)) | (refine y_s (h := ?_)) | (refine y_t (h := ?_)) | (refine y_k (h := ?_)) | (refine lex_nil (by kernel_rfl) ?_) | (refine awp_sq ?_) | (refine awp_rg ?_) | (refine awp_rd (by kernel_rfl) (by kernel_rfl) ?_) | (refine awp_block ?_) | (refine awp_exit ?_) | (refine awp_ret ?_) | (refine awp_skip ?_))
      (first | (refine a_s (hn := by exact hz3) (h := ?_)) | (refine b_s (hn := by exact hz3) (h := ?_)))
      repeat (first | (refine w_q (h := ?_)) | (refine w_s (h := ?_)) | (refine w_t (h := ?_)) | (refine w_k (h := ?_)) | (refine y_q (h := ?_)) | (refine y_s (h := ?_)) | (refine y_t (h := ?_)) | (refine y_k (h := ?_)) | (refine lex_nil (by kernel_rfl) ?_) | (refine awp_sq ?_) | (refine awp_rg ?_) | (refine awp_rd (by kernel_rfl) (by kernel_rfl) ?_) | (refine awp_block ?_) | (refine awp_exit ?_) | (refine awp_ret ?_) | (refine awp_skip ?_))
      exact ⟨j + 1, by omega, by omega, fun i => i, ⟨rfl, rfl, rfl, rfl, rfl, rfl, own_eq (by simp only [T.app, T.len, List.length_append, hz3]; rfl), rfl, trivial⟩, ⟨rfl, rfl, rfl, sl_eq (congrArg T.fl (take_snoc (by rw [plNx_len]; omega) (by simp only [plNx, getD_mapR _ (show j < i by omega), Nat.zero_add]))), trivial⟩, injOn_id _⟩
    simp only [icmp, decide_eq_false_iff_not] at h4
    obtain rfl : j = i := by omega
    repeat (first | (refine w_q (h := ?_)) | (refine w_s (h := ?_)) | (refine w_t (h := ?_)) | (refine w_k (h := ?_)) | (refine y_q (h := ?_)) | (refine y_s (h := ?_)) | (refine y_t (h := ?_)) | (refine y_k (h := ?_)) | (refine lex_nil (by kernel_rfl) ?_) | (refine awp_sq ?_) | (refine awp_rg ?_) | (refine awp_rd (by kernel_rfl) (by kernel_rfl) ?_) | (refine awp_block ?_) | (refine awp_exit ?_) | (refine awp_ret ?_) | (refine awp_skip ?_))
    (first | (refine a_s (hn := by exact hz3) (h := ?_)) | (refine b_s (hn := by exact hz3) (h := ?_)))
    repeat (first | (refine w_q (h := ?_)) | (refine w_s (h := ?_)) | (refine w_t (h := ?_)) | (refine w_k (h := ?_)) | (refine y_q (h := ?_)) | (refine y_s (h := ?_)) | (refine y_t (h := ?_)) | (refine y_k (h := ?_)) | (refine lex_nil (by kernel_rfl) ?_) | (refine awp_sq ?_) | (refine awp_rg ?_) | (refine awp_rd (by kernel_rfl) (by kernel_rfl) ?_) | (refine awp_block ?_) | (refine awp_exit ?_) | (refine awp_ret ?_) | (refine awp_skip ?_))
    (first | (refine a_s (hn := by exact hz2) (h := ?_)) | (refine b_s (hn := by exact hz2) (h := ?_)))
    repeat (first | (refine w_q (h := ?_)) | (refine w_s (h := ?_)) | (refine w_t (h := ?_)) | (refine w_k (h := ?_)) | (refine y_q (h := ?_)) | (refine y_s (h := ?_)) | (refine y_t (h := ?_)) | (refine y_k (h := ?_)) | (refine lex_nil (by kernel_rfl) ?_) | (refine awp_sq ?_) | (refine awp_rg ?_) | (refine awp_rd (by kernel_rfl) (by kernel_rfl) ?_) | (refine awp_block ?_) | (refine awp_exit ?_) | (refine awp_ret ?_) | (refine awp_skip ?_))
    exact ⟨j + 1, by omega, ⟨by omega, fun q hq => (Nat.lt_or_eq_of_le (Nat.le_of_lt_succ hq)).elim (fun hq' => hok q hq') (fun hq' => by rw [hq']; exact hst)⟩, rn1 26 78, ⟨rfl, rfl, own_eq (by simp only [T.app, T.len, List.length_append, hz3]; rfl), own_eq (by simp only [T.app, T.len, List.length_append, hz2]; rfl), rfl, trivial⟩, ⟨rfl, sl_eq (congrArg T.fl (by rw [List.take_of_length_le (by rw [plNx_len]; omega)]; rfl)), sl_eq (congrArg T.fl (take_snoc (by omega) ho)), trivial⟩, injOn_dec rfl⟩
  · simp only [icmp, decide_eq_false_iff_not] at h
    obtain rfl : k = n := by omega
    have hf : (plO r k).take k = plO r k := List.take_of_length_le (by omega)
    rw [hf]
    have hall : (List.range k).all (plG r) = true := List.all_eq_true.2 fun j hj => hok j (List.mem_range.1 hj)
    have hF : partF a (k : Int) = ifAllF (plO r k) := by
      unfold partF; rw [hr, h1, Int.toNat_natCast, hall]; rfl
    repeat (first | (refine w_q (h := ?_)) | (refine w_s (h := ?_)) | (refine w_t (h := ?_)) | (refine w_k (h := ?_)) | (refine lex_nil (by kernel_rfl) ?_) | (refine awp_sq ?_) | (refine awp_rg ?_) | (refine awp_rd (by kernel_rfl) (by kernel_rfl) ?_) | (refine awp_block ?_) | (refine awp_exit ?_) | (refine awp_ret ?_) | (refine awp_skip ?_))
    cases h5 : (plO r k).all fin with
    | true =>
      (first | (refine c_q (l03Given_t (plO r k) (by omega) h5) (h := ?_)) | (refine z_q (l03Given_t (plO r k) (by omega) h5) (h := ?_)))
      repeat (first | (refine w_q (h := ?_)) | (refine w_s (h := ?_)) | (refine w_t (h := ?_)) | (refine w_k (h := ?_)) | (refine lex_nil (by kernel_rfl) ?_) | (refine awp_sq ?_) | (refine awp_rg ?_) | (refine awp_rd (by kernel_rfl) (by kernel_rfl) ?_) | (refine awp_block ?_) | (refine awp_exit ?_) | (refine awp_ret ?_) | (refine awp_skip ?_))
      rw [show partF a (k : Int) = (plO r k, true) by rw [hF]; simp only [ifAllF, h5]; rfl]
      refine ret_ok tyOk (by first | exact .inr rfl | exact .inl rfl) (pi1 27) rfl (by first | exact .cons (by first | exact .tmp | exact .cell rfl rfl rfl rfl rfl rfl | exact .cell1 rfl rfl rfl rfl rfl) .nil | exact .cons (by first | exact .tmp | exact .cell rfl rfl rfl rfl rfl rfl | exact .cell1 rfl rfl rfl rfl rfl) (.cons (by first | exact .tmp | exact .cell rfl rfl rfl rfl rfl rfl | exact .cell1 rfl rfl rfl rfl rfl) .nil) | exact .cons (by first | exact .tmp | exact .cell rfl rfl rfl rfl rfl rfl | exact .cell1 rfl rfl rfl rfl rfl) (.cons (by first | exact .tmp | exact .cell rfl rfl rfl rfl rfl rfl | exact .cell1 rfl rfl rfl rfl rfl) (.cons (by first | exact .tmp | exact .cell rfl rfl rfl rfl rfl rfl | exact .cell1 rfl rfl rfl rfl rfl) .nil)) | exact .cons (by first | exact .tmp | exact .cell rfl rfl rfl rfl rfl rfl | exact .cell1 rfl rfl rfl rfl rfl) (.cons (by first | exact .tmp | exact .cell rfl rfl rfl rfl rfl rfl | exact .cell1 rfl rfl rfl rfl rfl) (.cons (by first | exact .tmp | exact .cell rfl rfl rfl rfl rfl rfl | exact .cell1 rfl rfl rfl rfl rfl) (.cons (by first | exact .tmp | exact .cell rfl rfl rfl rfl rfl rfl | exact .cell1 rfl rfl rfl rfl rfl) .nil)))) ?_ ⟨rfl, trivial⟩ (injO_1 _ _ _)
      repeat' (first | exact RetRelL.nil | (refine RetRel.nil rfl ?_) | refine RetRelL.cons ?_ ?_ | refine rr_tup ?_ | refine rr_agg ?_ | refine rr_own rfl ?_ | exact RetRel.arg | exact RetRel.argc | refine rr_t ?_)
      all_goals first | rfl | exact hlo.symm
    | false =>
      (first | (refine c_q (l03Given_f (plO r k) (by omega) h5) (h := ?_)) | (refine z_q (l03Given_f (plO r k) (by omega) h5) (h := ?_)))
      repeat (first | (refine w_q (h := ?_)) | (refine w_s (h := ?_)) | (refine w_t (h := ?_)) | (refine w_k (h := ?_)) | (refine lex_nil (by kernel_rfl) ?_) | (refine awp_sq ?_) | (refine awp_rg ?_) | (refine awp_rd (by kernel_rfl) (by kernel_rfl) ?_) | (refine awp_block ?_) | (refine awp_exit ?_) | (refine awp_ret ?_) | (refine awp_skip ?_))
      rw [show partF a (k : Int) = ([], false) by rw [hF]; simp only [ifAllF, h5]; rfl]
      (refine ret_ok tyOk (by first | exact .inr rfl | exact .inl rfl) pi0 rfl (by first | exact .cons (by first | exact .tmp | exact .cell rfl rfl rfl rfl rfl rfl | exact .cell1 rfl rfl rfl rfl rfl) .nil | exact .cons (by first | exact .tmp | exact .cell rfl rfl rfl rfl rfl rfl | exact .cell1 rfl rfl rfl rfl rfl) (.cons (by first | exact .tmp | exact .cell rfl rfl rfl rfl rfl rfl | exact .cell1 rfl rfl rfl rfl rfl) .nil) | exact .cons (by first | exact .tmp | exact .cell rfl rfl rfl rfl rfl rfl | exact .cell1 rfl rfl rfl rfl rfl) (.cons (by first | exact .tmp | exact .cell rfl rfl rfl rfl rfl rfl | exact .cell1 rfl rfl rfl rfl rfl) (.cons (by first | exact .tmp | exact .cell rfl rfl rfl rfl rfl rfl | exact .cell1 rfl rfl rfl rfl rfl) .nil)) | exact .cons (by first | exact .tmp | exact .cell rfl rfl rfl rfl rfl rfl | exact .cell1 rfl rfl rfl rfl rfl) (.cons (by first | exact .tmp | exact .cell rfl rfl rfl rfl rfl rfl | exact .cell1 rfl rfl rfl rfl rfl) (.cons (by first | exact .tmp | exact .cell rfl rfl rfl rfl rfl rfl | exact .cell1 rfl rfl rfl rfl rfl) (.cons (by first | exact .tmp | exact .cell rfl rfl rfl rfl rfl rfl | exact .cell1 rfl rfl rfl rfl rfl) .nil)))) ?_ ⟨⟨_, _, rfl, rfl, rfl⟩, trivial⟩ (injO_1 _ _ _); (repeat' (first | exact RetRelL.nil | (refine RetRel.nil rfl ?_) | refine RetRelL.cons ?_ ?_ | refine rr_tup ?_ | refine rr_agg ?_ | refine rr_own rfl ?_ | exact RetRel.arg | exact RetRel.argc | refine rr_t ?_)); all_goals rfl)
end Go.Proofs.Ytfipjmoaibdanaa
