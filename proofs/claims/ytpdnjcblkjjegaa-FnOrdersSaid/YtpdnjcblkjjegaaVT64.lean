import Derived.Test.YtpdnjcblkjjegaaVT26
import Derived.Test.YtpdnjcblkjjegaaVT28
set_option linter.unusedVariables false
set_option linter.unusedSimpArgs false
set_option maxRecDepth 20000
set_option maxHeartbeats 8000000
namespace Go.Proofs.Ytpdnjcblkjjegaa
open Go.Aw
attribute [local irreducible] QRun LexD AWp TCall TMut fop fint fcmp fconv

/-! ### likes -/
def dlN (a : List Nat) (g : Nat) : Nat → Nat
  | 0 => 0
  | n + 1 => if n + g < a.length then fop .add .f32 (dlN a g n) (fop .mul .f32 (a.getD n 0) (a.getD (n + g) 0)) else dlN a g n
def dlF (a : List Nat) (g : Nat) : Nat := dlN a g a.length
theorem dlN_dot {a : List Nat} {g : Nat} : ∀ {n : Nat}, n + g ≤ a.length → dlN a g n = dotN (a.take (a.length - g)) (a.drop g) n
  | 0, _ => rfl
  | n + 1, h => by
    rw [dlN, if_pos (by omega), dotN, dlN_dot (by omega)]
    have e1 : (a.take (a.length - g)).getD n 0 = a.getD n 0 := by
      simp only [List.getD_eq_getElem?_getD]; rw [List.getElem?_take_of_lt (by omega)]
    have e2 : (a.drop g).getD n 0 = a.getD (n + g) 0 := by
      simp only [List.getD_eq_getElem?_getD]; rw [List.getElem?_drop, Nat.add_comm]
    rw [e1, e2]
theorem dlN_stop {a : List Nat} {g : Nat} (hg : g ≤ a.length) : ∀ m, dlN a g (a.length - g + m) = dlN a g (a.length - g)
  | 0 => rfl
  | m + 1 => by rw [← Nat.add_assoc, dlN, if_neg (by omega), dlN_stop hg m]
theorem dl_dot {a : List Nat} {g : Nat} (hg : g ≤ a.length) : dlF a g = dotF (a.take (a.length - g)) (a.drop g) := by
  unfold dlF dotF
  have := dlN_stop hg g
  rw [show a.length - g + g = a.length by omega] at this
  rw [this, dlN_dot (by omega), show (a.take (a.length - g)).length = a.length - g by simp]
theorem dl_zero (a : List Nat) : dlF a 0 = dotF a a := by
  rw [dl_dot (Nat.zero_le _)]; simp
abbrev offL (a : List Nat) : List Nat := lessL a (meanF a)
def likL (a : List Nat) (m : Nat) : List Nat := (List.range (m + 1)).map fun g => fop .quo .f32 (dlF (offL a) g) (dlF (offL a) 0)
theorem likL_len (a : List Nat) (m : Nat) : (likL a m).length = m + 1 := by simp [likL]
def selfOk (a : List Nat) (m : Int) : Bool := isSer a && inR m 0 16 && decide (m < (a.length : Nat)) && fcmp .gtr .f32 (dlF (offL a) 0) 0
def selfF (a : List Nat) (m : Int) : List Nat × Bool := if selfOk a m then ifAllF (likL a m.toNat) else ([], false)
theorem ifAllF_le (l : List Nat) : (ifAllF l).1.length ≤ l.length := by unfold ifAllF; split <;> simp
theorem l03Mean_c (l : List Nat) (hl : l.length ≤ 9223372036854775807) : TCall Try.prog 110 [.fl l] (.t (.f .f32 (meanF l))) [] := by
  refine tcall_of Try.func110 rfl (by kernel_rfl) (Nat.le_of_ble_eq_true rfl) rfl ?_
  simp only [argsL, argAV, argCs, argS]
  refine V3 ?_
  refine awp_loop (X := Nat) (fun i => i ≤ l.length) (fun i => [(0, .arg 0 (.fl l)), (3, .t (.f .f32 (sumF (l.take i)))), (6, .t (.v (.int .i64 l.length))), (7, .t (.v (.int .i64 i)))]) (fun _ => []) (fun i => l.length - i)
    0 ⟨by omega, fun i => i, ⟨rfl, rfl, rfl, rfl, trivial⟩, trivial, injOn_id _⟩ (fun i hi => ?_)
  refine V3 ?_
  refine awp_if rfl (fun h => ?_) (fun h => ?_)
  · simp only [icmp, decide_eq_true_eq] at h
    refine V3 ?_
    exact ⟨i + 1, by omega, by omega, fun i => i, ⟨rfl, by unfold sumF; rw [foldl_take (by omega)]; rfl, rfl, rfl, trivial⟩, trivial, injOn_id _⟩
  · simp only [icmp, decide_eq_false_iff_not] at h
    have : i = l.length := by omega
    subst this
    refine V3 ?_
    refine u_0 ?_
    repeat' (first | exact RetRelL.nil | refine RetRel.nil rfl ?_ | refine RetRelL.cons ?_ ?_ | refine rr_tup ?_ | refine rr_agg ?_ | refine rr_own rfl ?_ | exact RetRel.arg | exact RetRel.argc | refine rr_t ?_)
    rw [List.take_length]; rfl
theorem l03Off_c (l : List Nat) (hl : l.length ≤ 1048576) : TCall Try.prog 74 [.fl l] (.own 0 (offL l).length) [(0, .sl 30 (.fl (offL l)))] := by
  refine tcall_of Try.func74 rfl (by kernel_rfl) (Nat.le_of_ble_eq_true rfl) rfl ?_
  simp only [argsL, argAV, argCs, argS]
  refine V3 ?_
  refine c_q (l03Mean_c l (by omega)) (h := ?_)
  refine V3 ?_
  refine awp_loop (X := Nat) (fun i => i ≤ l.length) (fun i => [(0, .arg 0 (.fl l)), (3, .t (.f .f32 (meanF l))), (4, .own 8 0 i), (10, .t (.v (.int .i64 l.length))), (11, .t (.v (.int .i64 i)))]) (fun i => [(8, .sl 30 (.fl ((offL l).take i)))]) (fun i => l.length - i)
    0 ⟨by omega, fun i => i, ⟨rfl, rfl, rfl, rfl, rfl, trivial⟩, ⟨rfl, trivial⟩, injOn_id _⟩ (fun i hi => ?_)
  have hz : ((offL l).take i).length = i := by simp [lessL]; omega
  refine V3 ?_
  refine awp_if rfl (fun h => ?_) (fun h => ?_)
  · simp only [icmp, decide_eq_true_eq] at h
    refine V1 ?_
    (first | refine a_s (hn := by exact hz) (h := ?_) | refine b_s (hn := by exact hz) (h := ?_))
    refine V1 ?_
    exact ⟨i + 1, by omega, by omega, fun i => i, ⟨rfl, rfl, own_eq (by simp only [T.app, T.len, List.length_append, hz]; rfl), rfl, rfl, trivial⟩, ⟨sl_eq (congrArg T.fl (take_snoc (by simp [lessL]; omega) (getD_map (by omega)))), trivial⟩, injOn_id _⟩
  · simp only [icmp, decide_eq_false_iff_not] at h
    have : i = l.length := by omega
    subst this
    refine V3 ?_
    refine ret_ok tyOk (by first | exact .inr rfl | exact .inl rfl) (pi1 8) rfl (by repeat (first | exact .nil | (apply ResAl.cons; first | exact .tmp | exact .cell rfl rfl rfl rfl rfl rfl | exact .cell1 rfl rfl rfl rfl rfl))) ?_ ⟨sl_eq (congrArg T.fl (List.take_of_length_le (by simp [lessL]))), trivial⟩ (injO_1 _ _ _)
    repeat' (first | exact RetRelL.nil | refine RetRel.nil rfl ?_ | refine RetRelL.cons ?_ ?_ | refine rr_tup ?_ | refine rr_agg ?_ | refine rr_own rfl ?_ | exact RetRel.arg | exact RetRel.argc | refine rr_t ?_)
    all_goals simp [lessL]
theorem delayed_c (a : List Nat) (g : Nat) (hl : a.length ≤ 1048576) (hg : g ≤ 1048576) : TCall Try.prog 75 [.fl a, .fl a, .v (.int .i64 (g : Nat))] (.t (.f .f32 (dlF a g))) [] := by
  refine tcall_of Try.func75 rfl (by kernel_rfl) (Nat.le_of_ble_eq_true rfl) rfl ?_
  simp only [argsL, argAV, argCs, argS]
  refine V3 ?_
  refine awp_loop (X := Nat) (fun i => i ≤ a.length) (fun i => [(0, .arg 0 (.fl a)), (1, .arg 1 (.fl a)), (2, .t (.v (.int .i64 (g : Nat)))), (7, .t (.f .f32 (dlN a g i))), (10, .t (.v (.int .i64 a.length))), (11, .t (.v (.int .i64 i)))]) (fun _ => []) (fun i => a.length - i)
    0 ⟨by omega, fun i => i, ⟨rfl, rfl, rfl, rfl, rfl, rfl, trivial⟩, trivial, injOn_id _⟩ (fun i hi => ?_)
  refine V3 ?_
  refine awp_if rfl (fun h => ?_) (fun h => ?_)
  · simp only [icmp, decide_eq_true_eq] at h
    refine V1 ?_
    refine awp_if rfl (fun h2 => ?_) (fun h2 => ?_)
    · simp only [icmp, decide_eq_true_eq] at h2
      refine V1 ?_
      exact ⟨i + 1, by omega, by omega, fun i => i, ⟨rfl, rfl, rfl, by rw [dlN, if_pos (by omega)]; rfl, rfl, rfl, trivial⟩, trivial, injOn_id _⟩
    · simp only [icmp, decide_eq_false_iff_not] at h2
      refine V1 ?_
      exact ⟨i + 1, by omega, by omega, fun i => i, ⟨rfl, rfl, rfl, by rw [dlN, if_neg (by omega)]; rfl, rfl, rfl, trivial⟩, trivial, injOn_id _⟩
  · simp only [icmp, decide_eq_false_iff_not] at h
    have : i = a.length := by omega
    subst this
    refine V3 ?_
    refine u_0 ?_
    repeat' (first | exact RetRelL.nil | refine RetRel.nil rfl ?_ | refine RetRelL.cons ?_ ?_ | refine rr_tup ?_ | refine rr_agg ?_ | refine rr_own rfl ?_ | exact RetRel.arg | exact RetRel.argc | refine rr_t ?_)
    rfl
theorem specSelf_c (a : List Nat) (m : Int) (hl : a.length ≤ 1048576) : TCall Try.prog 120 [.fl a, .v (.int .i64 m)] (.tup [.own 0 (selfF a m).1.length, .t (.v (.bool (selfF a m).2))]) [(0, .sl 30 (.fl (selfF a m).1))] := by
  have bad : ¬ (isSer a = true ∧ inR m 0 16 = true ∧ m < (a.length : Nat) ∧ fcmp .gtr .f32 (dlF (offL a) 0) 0 = true) → selfF a m = ([], false) := fun hc => by
    unfold selfF; rw [if_neg (by simpa only [selfOk, Bool.and_eq_true, decide_eq_true_eq, and_assoc] using hc)]
  refine tcall_of Try.func120 rfl (by kernel_rfl) (Nat.le_of_ble_eq_true rfl) rfl ?_
  simp only [argsL, argAV, argCs, argS]
  refine V1 ?_
  (first | (refine c_q (specSer_c a (by omega)) (h := ?_)) | (refine z_q (specSer_c a (by omega)) (h := ?_)))
  refine V1 ?_
  refine lex_if rfl rfl rfl (fun h1 => ?_) (fun h1 => ?_)
  · simp only [Bool.not_eq_true'] at h1
    refine V5 ?_
    refine awp_ifT rfl rfl ?_
    refine V5 ?_
    rw [bad (fun hc => by first | (simp only [h1, Bool.false_eq_true, false_and, and_false] at hc; done) | omega)]
    (refine u_1 ?_; (repeat' (first | exact RetRelL.nil | refine RetRel.nil rfl ?_ | refine RetRelL.cons ?_ ?_ | refine rr_tup ?_ | refine rr_agg ?_ | refine rr_own rfl ?_ | exact RetRel.arg | exact RetRel.argc | refine rr_t ?_)); all_goals rfl)
  simp only [Bool.not_eq_false'] at h1
  refine V1 ?_
  (first | refine c_q (l00In_c _ _ _) (h := ?_) | refine z_q (l00In_c _ _ _) (h := ?_))
  refine V1 ?_
  refine lex_if rfl rfl rfl (fun h2 => ?_) (fun h2 => ?_)
  · simp only [Bool.not_eq_true'] at h2
    refine V5 ?_
    refine awp_ifT rfl rfl ?_
    refine V5 ?_
    rw [bad (fun hc => by first | (simp only [h2, Bool.false_eq_true, false_and, and_false] at hc; done) | omega)]
    (refine u_1 ?_; (repeat' (first | exact RetRelL.nil | refine RetRel.nil rfl ?_ | refine RetRelL.cons ?_ ?_ | refine rr_tup ?_ | refine rr_agg ?_ | refine rr_own rfl ?_ | exact RetRel.arg | exact RetRel.argc | refine rr_t ?_)); all_goals rfl)
  simp only [Bool.not_eq_false'] at h2
  refine V1 ?_
  refine awp_if rfl (fun h3 => ?_) (fun h3 => ?_)
  · simp only [icmp, decide_eq_true_eq] at h3
    refine V5 ?_
    rw [bad (fun hc => by first | (simp only [h3, Bool.false_eq_true, false_and, and_false] at hc; done) | omega)]
    (refine u_1 ?_; (repeat' (first | exact RetRelL.nil | refine RetRel.nil rfl ?_ | refine RetRelL.cons ?_ ?_ | refine rr_tup ?_ | refine rr_agg ?_ | refine rr_own rfl ?_ | exact RetRel.arg | exact RetRel.argc | refine rr_t ?_)); all_goals rfl)
  simp only [icmp, decide_eq_false_iff_not] at h3
  have h2' := inR_t.1 h2
  have hz : (offL a).length = a.length := lessL_len _ _
  refine V1 ?_
  (first | refine c_s (l03Off_c a hl) (h := ?_) | refine z_s (l03Off_c a hl) (h := ?_))
  refine V1 ?_
  (first | (refine c_q (delayed_c (offL a) 0 (by omega) (by omega)) (h := ?_)) | (refine z_q (delayed_c (offL a) 0 (by omega) (by omega)) (h := ?_)))
  refine V1 ?_
  refine awp_if rfl (fun h4 => ?_) (fun h4 => ?_)
  · simp only [Bool.not_eq_true'] at h4
    refine V1 ?_
    rw [bad (fun hc => by rw [h4] at hc; simp at hc)]
    (refine u_1 ?_; (repeat' (first | exact RetRelL.nil | refine RetRel.nil rfl ?_ | refine RetRelL.cons ?_ ?_ | refine rr_tup ?_ | refine rr_agg ?_ | refine rr_own rfl ?_ | exact RetRel.arg | exact RetRel.argc | refine rr_t ?_)); all_goals rfl)
  simp only [Bool.not_eq_false'] at h4
  obtain ⟨n, rfl⟩ : ∃ n : Nat, m = (n : Int) := ⟨m.toNat, by omega⟩
  have hn : n ≤ 16 := by omega
  have hF : selfF a (n : Int) = ifAllF (likL a n) := by
    unfold selfF selfOk; rw [h1, h2, h4, decide_eq_true (by omega)]; rfl
  have hll := likL_len a n
  refine V1 ?_
  refine awp_loop (X := Nat) (fun k => k ≤ n + 1) (fun k => [(1, .t (.v (.int .i64 (n : Nat)))), (6, .own (cid 25 0) 0 (offL a).length), (7, .t (.f .f32 (dlF (offL a) 0))), (8, .own 32 0 k), (9, .t (.v (.int .i64 k)))]) (fun k => [(cid 25 0, .sl 30 (.fl (offL a))), (32, .sl 30 (.fl ((likL a n).take k)))]) (fun k => n + 1 - k)
    0 ⟨by omega, fun i => i, ⟨rfl, rfl, rfl, rfl, rfl, trivial⟩, ⟨rfl, rfl, trivial⟩, injOn_id _⟩ (fun k hk => ?_)
  have hz2 : ((likL a n).take k).length = k := by simp [hll]; omega
  refine V3 ?_
  refine awp_if rfl (fun h => ?_) (fun h => ?_)
  · simp only [icmp, decide_eq_true_eq] at h
    refine V1 ?_
    (first | (refine c_q (delayed_c (offL a) k (by omega) (by omega)) (h := ?_)) | (refine z_q (delayed_c (offL a) k (by omega) (by omega)) (h := ?_)))
    refine V1 ?_
    (first | refine a_s (hn := by exact hz2) (h := ?_) | refine b_s (hn := by exact hz2) (h := ?_))
    refine V1 ?_
    exact ⟨k + 1, by omega, by omega, fun i => i, ⟨rfl, rfl, rfl, own_eq (by simp only [T.app, T.len, List.length_append, hz2]; rfl), rfl, trivial⟩, ⟨rfl, sl_eq (congrArg T.fl (take_snoc (by omega) (getD_mapR _ (by omega)))), trivial⟩, injOn_id _⟩
  · simp only [icmp, decide_eq_false_iff_not] at h
    have : k = n + 1 := by omega
    subst this
    have hf : (likL a n).take (n + 1) = likL a n := List.take_of_length_le (by omega)
    rw [hf]
    refine V3 ?_
    cases h5 : (likL a n).all fin with
    | true =>
      (first | (refine c_q (l03Given_t (likL a n) (by omega) h5) (h := ?_)) | (refine z_q (l03Given_t (likL a n) (by omega) h5) (h := ?_)))
      refine V3 ?_
      rw [show selfF a (n : Int) = (likL a n, true) by rw [hF]; simp only [ifAllF, h5]; rfl]
      refine ret_ok tyOk (by first | exact .inr rfl | exact .inl rfl) (pi1 32) rfl (by repeat (first | exact .nil | (apply ResAl.cons; first | exact .tmp | exact .cell rfl rfl rfl rfl rfl rfl | exact .cell1 rfl rfl rfl rfl rfl))) ?_ ⟨rfl, trivial⟩ (injO_1 _ _ _)
      repeat' (first | exact RetRelL.nil | refine RetRel.nil rfl ?_ | refine RetRelL.cons ?_ ?_ | refine rr_tup ?_ | refine rr_agg ?_ | refine rr_own rfl ?_ | exact RetRel.arg | exact RetRel.argc | refine rr_t ?_)
      all_goals first | rfl | exact hll.symm
    | false =>
      (first | (refine c_q (l03Given_f (likL a n) (by omega) h5) (h := ?_)) | (refine z_q (l03Given_f (likL a n) (by omega) h5) (h := ?_)))
      refine V3 ?_
      rw [show selfF a (n : Int) = ([], false) by rw [hF]; simp only [ifAllF, h5]; rfl]
      (refine u_1 ?_; (repeat' (first | exact RetRelL.nil | refine RetRel.nil rfl ?_ | refine RetRelL.cons ?_ ?_ | refine rr_tup ?_ | refine rr_agg ?_ | refine rr_own rfl ?_ | exact RetRel.arg | exact RetRel.argc | refine rr_t ?_)); all_goals rfl)
theorem isMost_c (a : List Nat) (m : Int) (hl : a.length ≤ 1048576) : TCall Try.prog 122 [.fl a, .v (.int .i64 m)] (.t (.v (.bool (isSer a && inR m 0 16 && decide (m < (a.length : Nat)))))) [] := by
  refine tcall_of Try.func122 rfl (by kernel_rfl) (Nat.le_of_ble_eq_true rfl) rfl ?_
  simp only [argsL, argAV, argCs, argS]
  refine V1 ?_
  (first | (refine c_q (implSer_c a (by omega)) (h := ?_)) | (refine z_q (implSer_c a (by omega)) (h := ?_)))
  refine V1 ?_
  refine lex_if rfl rfl rfl (fun h1 => ?_) (fun h1 => ?_)
  rotate_left
  · refine V1 ?_
    refine u_0 ?_
    repeat' (first | exact RetRelL.nil | refine RetRel.nil rfl ?_ | refine RetRelL.cons ?_ ?_ | refine rr_tup ?_ | refine rr_agg ?_ | refine rr_own rfl ?_ | exact RetRel.arg | exact RetRel.argc | refine rr_t ?_)
    rw [h1]; rfl
  have h1' := isSer_len h1
  refine V1 ?_
  (first | refine c_q (within_c _ _ _) (h := ?_) | refine z_q (within_c _ _ _) (h := ?_))
  refine V1 ?_
  refine u_0 ?_
  repeat' (first | exact RetRelL.nil | refine RetRel.nil rfl ?_ | refine RetRelL.cons ?_ ?_ | refine rr_tup ?_ | refine rr_agg ?_ | refine rr_own rfl ?_ | exact RetRel.arg | exact RetRel.argc | refine rr_t ?_)
  rw [h1]
  simp only [Bool.true_and, inR]
  by_cases h2 : m ≤ 16 <;> by_cases h3 : m < (a.length : Nat) <;> by_cases h4 : 0 ≤ m <;> simp [h2, h3, h4] <;> omega
theorem selfLikes_c (a : List Nat) (n : Nat) (h1 : isSer a = true) (hn : n ≤ 16) (hn2 : n < a.length) : TCall Try.prog 123 [.fl a, .v (.int .i64 (n : Nat))] (.tup [.own 0 (selfF a n).1.length, .t (.v (.bool (selfF a n).2))]) [(0, .sl 30 (.fl (selfF a n).1))] := by
  have hl := isSer_len h1
  have h2 : inR (n : Int) 0 16 = true := inR_t.2 (by omega)
  refine tcall_of Try.func123 rfl (by kernel_rfl) (Nat.le_of_ble_eq_true rfl) rfl ?_
  simp only [argsL, argAV, argCs, argS]
  have hz : (offL a).length = a.length := lessL_len _ _
  refine V1 ?_
  (first | (refine c_q (mean_c a (by omega)) (h := ?_)) | (refine z_q (mean_c a (by omega)) (h := ?_)))
  refine V1 ?_
  (first | (refine c_s (lessOne_c a (meanF a) (by omega)) (h := ?_)) | (refine z_s (lessOne_c a (meanF a) (by omega)) (h := ?_)))
  refine V1 ?_
  (first | (refine c_q (dot_c (offL a) (offL a) (by omega) (Nat.le_refl _)) (h := ?_)) | (refine z_q (dot_c (offL a) (offL a) (by omega) (Nat.le_refl _)) (h := ?_)))
  refine V1 ?_
  rw [← dl_zero (offL a)]
  refine awp_if rfl (fun h4 => ?_) (fun h4 => ?_)
  · simp only [Bool.not_eq_true'] at h4
    refine V1 ?_
    rw [show selfF a (n : Int) = ([], false) by unfold selfF selfOk; rw [h4]; simp]
    (refine u_1 ?_; (repeat' (first | exact RetRelL.nil | refine RetRel.nil rfl ?_ | refine RetRelL.cons ?_ ?_ | refine rr_tup ?_ | refine rr_agg ?_ | refine rr_own rfl ?_ | exact RetRel.arg | exact RetRel.argc | refine rr_t ?_)); all_goals rfl)
  simp only [Bool.not_eq_false'] at h4
  have hF : selfF a (n : Int) = ifAllF (likL a n) := by
    unfold selfF selfOk; rw [h1, h2, h4, decide_eq_true (by omega)]; rfl
  have hll := likL_len a n
  refine V1 ?_
  refine awp_loop (X := Nat) (fun k => k ≤ n + 1) (fun k => [(6, .own (cid 13 0) 0 (offL a).length), (7, .t (.f .f32 (dlF (offL a) 0))), (8, .own 20 0 k), (22, .t (.v (.int .i64 ((n : Int) + 1)))), (23, .t (.v (.int .i64 k)))]) (fun k => [(cid 13 0, .sl 30 (.fl (offL a))), (20, .sl 30 (.fl ((likL a n).take k)))]) (fun k => n + 1 - k)
    0 ⟨by omega, fun i => i, ⟨rfl, rfl, rfl, rfl, rfl, trivial⟩, ⟨rfl, rfl, trivial⟩, injOn_id _⟩ (fun k hk => ?_)
  have hz2 : ((likL a n).take k).length = k := by simp [hll]; omega
  refine V3 ?_
  refine awp_if rfl (fun h => ?_) (fun h => ?_)
  · simp only [icmp, decide_eq_true_eq] at h
    refine V1 ?_
    have ed : dotF (((offL a).take (0 + 0 + ((offL a).length - k - 0))).drop (0 + 0)) (((offL a).take (0 + k + ((offL a).length - k))).drop (0 + k)) = dlF (offL a) k := by
      rw [dl_dot (by omega), show 0 + k + ((offL a).length - k) = (offL a).length by omega, List.take_length]; simp
    (first | (refine w_r (q_slice_own 0 ((offL a).length - k) tyOk rfl rfl rfl rfl rfl rfl (by exact rfl) (by exact ⟨_, _, rfl, by first | rfl | omega | (simp only [AV.t.injEq, T.v.injEq, Value.int.injEq, true_and]; omega)⟩) (by omega) (by omega) (by omega)) (h := ?_)) | (refine y_r (q_slice_own 0 ((offL a).length - k) tyOk rfl rfl rfl rfl rfl rfl (by exact rfl) (by exact ⟨_, _, rfl, by first | rfl | omega | (simp only [AV.t.injEq, T.v.injEq, Value.int.injEq, true_and]; omega)⟩) (by omega) (by omega) (by omega)) (h := ?_)))
    refine V1 ?_
    (first | (refine w_r (q_slice_own k (offL a).length tyOk rfl rfl rfl rfl rfl rfl (by exact ⟨_, _, rfl, rfl⟩) (by exact rfl) (by omega) (by omega) (by omega)) (h := ?_)) | (refine y_r (q_slice_own k (offL a).length tyOk rfl rfl rfl rfl rfl rfl (by exact ⟨_, _, rfl, rfl⟩) (by exact rfl) (by omega) (by omega) (by omega)) (h := ?_)))
    refine V1 ?_
    refine z_q (dot_c (((offL a).take (0 + 0 + ((offL a).length - k - 0))).drop (0 + 0)) (((offL a).take (0 + k + ((offL a).length - k))).drop (0 + k)) (by simp; omega) (by simp; omega)) (hts := by refine ToTs.cons (ToT.cut rfl rfl ?_ rfl) (ToTs.cons (ToT.cut rfl rfl ?_ rfl) ToTs.nil) <;> (simp only [T.len]; omega)) (h := ?_)
    refine V1 ?_
    (first | refine a_s (hn := by exact hz2) (h := ?_) | refine b_s (hn := by exact hz2) (h := ?_))
    refine V1 ?_
    exact ⟨k + 1, by omega, by omega, fun i => i, ⟨rfl, rfl, own_eq (by simp only [T.app, T.len, List.length_append, hz2]; rfl), rfl, rfl, trivial⟩, ⟨rfl, sl_eq (congrArg T.fl (take_snoc (by omega) (by rw [likL, getD_mapR _ (by omega), ← ed]; rfl))), trivial⟩, injOn_id _⟩
  · simp only [icmp, decide_eq_false_iff_not] at h
    have : k = n + 1 := by omega
    subst this
    have hf : (likL a n).take (n + 1) = likL a n := List.take_of_length_le (by omega)
    rw [hf]
    refine V3 ?_
    cases h5 : (likL a n).all fin with
    | true =>
      (first | (refine c_q (ifAll_t (likL a n) (by omega) h5) (h := ?_)) | (refine z_q (ifAll_t (likL a n) (by omega) h5) (h := ?_)))
      refine V3 ?_
      rw [show selfF a (n : Int) = (likL a n, true) by rw [hF]; simp only [ifAllF, h5]; rfl]
      refine ret_ok tyOk (by first | exact .inr rfl | exact .inl rfl) (pi1 20) rfl (by repeat (first | exact .nil | (apply ResAl.cons; first | exact .tmp | exact .cell rfl rfl rfl rfl rfl rfl | exact .cell1 rfl rfl rfl rfl rfl))) ?_ ⟨rfl, trivial⟩ (injO_1 _ _ _)
      repeat' (first | exact RetRelL.nil | refine RetRel.nil rfl ?_ | refine RetRelL.cons ?_ ?_ | refine rr_tup ?_ | refine rr_agg ?_ | refine rr_own rfl ?_ | exact RetRel.arg | exact RetRel.argc | refine rr_t ?_)
      all_goals first | rfl | exact hll.symm
    | false =>
      (first | (refine c_q (ifAll_f (likL a n) (by omega) h5) (h := ?_)) | (refine z_q (ifAll_f (likL a n) (by omega) h5) (h := ?_)))
      refine V3 ?_
      rw [show selfF a (n : Int) = ([], false) by rw [hF]; simp only [ifAllF, h5]; rfl]
      (refine u_1 ?_; (repeat' (first | exact RetRelL.nil | refine RetRel.nil rfl ?_ | refine RetRelL.cons ?_ ?_ | refine rr_tup ?_ | refine rr_agg ?_ | refine rr_own rfl ?_ | exact RetRel.arg | exact RetRel.argc | refine rr_t ?_)); all_goals rfl)
theorem implSelf_c (a : List Nat) (m : Int) (hl : a.length ≤ 1048576) : TCall Try.prog 99 [.fl a, .v (.int .i64 m)] (.tup [.own 0 (selfF a m).1.length, .t (.v (.bool (selfF a m).2))]) [(0, .sl 30 (.fl (selfF a m).1))] := by
  refine tcall_of Try.func99 rfl (by kernel_rfl) (Nat.le_of_ble_eq_true rfl) rfl ?_
  simp only [argsL, argAV, argCs, argS]
  refine V1 ?_
  (first | refine c_q (isMost_c a m hl) (h := ?_) | refine z_q (isMost_c a m hl) (h := ?_))
  refine V1 ?_
  refine awp_if rfl (fun h4 => ?_) (fun h4 => ?_)
  · simp only [Bool.not_eq_true'] at h4
    refine V1 ?_
    rw [show selfF a m = ([], false) by unfold selfF selfOk; rw [h4]; simp]
    (refine u_1 ?_; (repeat' (first | exact RetRelL.nil | refine RetRel.nil rfl ?_ | refine RetRelL.cons ?_ ?_ | refine rr_tup ?_ | refine rr_agg ?_ | refine rr_own rfl ?_ | exact RetRel.arg | exact RetRel.argc | refine rr_t ?_)); all_goals rfl)
  simp only [Bool.not_eq_false', Bool.and_eq_true, decide_eq_true_eq, inR_t] at h4
  obtain ⟨n, rfl⟩ : ∃ n : Nat, m = (n : Int) := ⟨m.toNat, by omega⟩
  refine V1 ?_
  (first | (refine c_s (selfLikes_c a n h4.1.1 (by omega) (by omega)) (h := ?_)) | (refine z_s (selfLikes_c a n h4.1.1 (by omega) (by omega)) (h := ?_)))
  refine V1 ?_
  refine ret_ok tyOk (by first | exact .inr rfl | exact .inl rfl) (pi1 (cid 12 0)) rfl (by repeat (first | exact .nil | (apply ResAl.cons; first | exact .tmp | exact .cell rfl rfl rfl rfl rfl rfl | exact .cell1 rfl rfl rfl rfl rfl))) ?_ ⟨rfl, trivial⟩ (injO_1 _ _ _)
  repeat' (first | exact RetRelL.nil | refine RetRel.nil rfl ?_ | refine RetRelL.cons ?_ ?_ | refine rr_tup ?_ | refine rr_agg ?_ | refine rr_own rfl ?_ | exact RetRel.arg | exact RetRel.argc | refine rr_t ?_)
  all_goals rfl
end Go.Proofs.Ytpdnjcblkjjegaa

