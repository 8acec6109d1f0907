import Derived.Test.YtpdnjcblkjjegaaVT139
set_option linter.unusedVariables false
set_option linter.unusedSimpArgs false
set_option maxRecDepth 20000
set_option maxHeartbeats 8000000
namespace Go.Proofs.Ytpdnjcblkjjegaa
open Go.Aw

/-! ### MovingParts, the program's: its head; the law -/
theorem LN_nil {η η' : Hp} {g : List Nat} {i : Nat} {e : TypeId} (h1 : η i = some (.sl e (.tl [.v (.slice none 0 0)]))) : BTo (fun i => i) η η' i (.nest e (LN (.v (.slice none 0 0)) g 0) [] noRem) := .inr ⟨_, h1, rfl⟩
theorem mix_same {A P : List Nat} {n : Nat} (hA : n < A.length) (hP : n < P.length) (h : A.getD n 0 = P.getD n 0) : A.take n ++ P.drop n = A.take (n + 1) ++ P.drop (n + 1) := by
  rw [List.getD_eq_getElem?_getD, List.getD_eq_getElem?_getD, List.getElem?_eq_getElem hA, List.getElem?_eq_getElem hP] at h
  simp only [Option.getD_some] at h
  rw [List.take_succ_eq_append_getElem hA, List.drop_eq_getElem_cons hP, List.append_assoc, List.singleton_append, h]
attribute [local irreducible] mpTm QRun LexD AWp TCall TMut fop fint fcmp fconv mpT mpV LN mpR mpX mpQ mpS mpW mpGl mpF mpE dlF
theorem implMP_c (a : List Nat) (o r : Int) (ha : a.length ≤ 1048576) : TCall Try.prog 28 [.fl a, .v (.int .i64 o), .v (.int .i64 r)] (opR (mpF a o r)) (opH (mpF a o r)) := by
  have bad : ¬ (isSer a = true ∧ inR o 1 6 = true ∧ inR r 0 32 = true) → mpF a o r = ⟨[], 0, false⟩ := fun hc => by
    unfold mpF; rw [if_neg]; intro hk; apply hc
    unfold mpOk at hk
    simpa only [Bool.and_eq_true, and_assoc] using hk
  refine tcall_of Try.func28 rfl (by kernel_rfl) (Nat.le_of_ble_eq_true rfl) rfl ?_
  simp only [argsL, argAV, argCs, argS]
  refine V1 ?_
  (first | (refine c_q (implSer_c a (by omega)) (h := ?_)) | (refine z_q (implSer_c a (by omega)) (h := ?_)))
  refine V1 ?_
  refine lex_if rfl rfl rfl (fun h1 => ?_) (fun h1 => ?_)
  · simp only [Bool.not_eq_true'] at h1
    refine V5 ?_
    refine awp_ifT rfl rfl ?_
    refine V5 ?_
    rw [bad (fun hc => by first | (simp only [h1, Bool.false_eq_true, false_and, and_false] at hc; done) | omega)]
    (refine u_1 ?_; (repeat' (first | exact RetRelL.nil | refine RetRel.nil rfl ?_ | refine RetRelL.cons ?_ ?_ | refine rr_tup ?_ | refine rr_agg ?_ | refine rr_own rfl ?_ | exact RetRel.arg | exact RetRel.argc | refine rr_t ?_)); all_goals rfl)
  simp only [Bool.not_eq_false'] at h1
  refine V1 ?_
  (first | refine c_q (within_c _ _ _) (h := ?_) | refine z_q (within_c _ _ _) (h := ?_))
  refine V1 ?_
  refine lex_if rfl rfl rfl (fun h2 => ?_) (fun h2 => ?_)
  · simp only [Bool.not_eq_true'] at h2
    refine V5 ?_
    refine awp_ifT rfl rfl ?_
    refine V5 ?_
    rw [bad (fun hc => by first | (simp only [h2, Bool.false_eq_true, false_and, and_false] at hc; done) | omega)]
    (refine u_1 ?_; (repeat' (first | exact RetRelL.nil | refine RetRel.nil rfl ?_ | refine RetRelL.cons ?_ ?_ | refine rr_tup ?_ | refine rr_agg ?_ | refine rr_own rfl ?_ | exact RetRel.arg | exact RetRel.argc | refine rr_t ?_)); all_goals rfl)
  simp only [Bool.not_eq_false'] at h2
  refine V1 ?_
  (first | refine c_q (within_c _ _ _) (h := ?_) | refine z_q (within_c _ _ _) (h := ?_))
  refine V1 ?_
  refine awp_if rfl (fun h3 => ?_) (fun h3 => ?_)
  · simp only [Bool.not_eq_true'] at h3
    refine V5 ?_
    rw [bad (fun hc => by first | (simp only [h3, Bool.false_eq_true, false_and, and_false] at hc; done) | omega)]
    (refine u_1 ?_; (repeat' (first | exact RetRelL.nil | refine RetRel.nil rfl ?_ | refine RetRelL.cons ?_ ?_ | refine rr_tup ?_ | refine rr_agg ?_ | refine rr_own rfl ?_ | exact RetRel.arg | exact RetRel.argc | refine rr_t ?_)); all_goals rfl)
  simp only [Bool.not_eq_false'] at h3
  have hl := isSer_len h1
  have ho := inR_t.1 h2
  have hr := inR_t.1 h3
  have hok : mpOk a o r = true := by unfold mpOk; rw [h1, h2, h3]; rfl
  obtain ⟨on, rfl⟩ : ∃ n : Nat, o = (n : Int) := ⟨o.toNat, by omega⟩
  obtain ⟨A, hA⟩ : ∃ n : Nat, r + (on : Int) = (n : Int) := ⟨(r + on).toNat, by omega⟩
  rw [mpF_eq hok hA]
  have hgl := mpGl_len a on A
  have hoff : (offL a).length = a.length := lessL_len _ _
  refine V1 ?_
  rw [hA]
  refine V1 ?_
  (first | (refine c_q (mean_c a (by omega)) (h := ?_)) | (refine z_q (mean_c a (by omega)) (h := ?_)))
  refine V1 ?_
  (first | (refine c_s (lessOne_c a (meanF a) (by omega)) (h := ?_)) | (refine z_s (lessOne_c a (meanF a) (by omega)) (h := ?_)))
  refine V1 ?_
  refine w_rs (q_make (A + 1) tyOk rfl rfl rfl rfl rfl rfl rfl rfl rfl (by omega) rfl (by simp only []; omega) (by omega)) (h := ?_)
  refine V1 ?_
  have hz0 : List.replicate (A + 1) 0 = (mpGl a on A).take 0 ++ (List.replicate (A + 1) 0).drop 0 := rfl
  rw [hz0]
  refine awp_loop (X := Nat) (fun k => k ≤ A + 1) (fun k => [(0, .arg 0 (.fl a)), (1, .t (.v (.int .i64 (on : Nat)))), (9, .t (.v (.int .i64 (A : Nat)))), (10, .own (cid 42 0) 0 (offL a).length), (11, .own 45 0 (A + 1)), (47, .t (.v (.int .i64 (A + 1 : Nat)))), (48, .t (.v (.int .i64 (k : Nat))))])
    (fun k => [(45, .sl 30 (.fl ((mpGl a on A).take k ++ (List.replicate (A + 1) 0).drop k))), (cid 42 0, .sl 30 (.fl (offL a)))]) (fun k => A + 1 - k)
    0 ⟨by omega, fun i => i, ⟨rfl, rfl, rfl, rfl, rfl, rfl, rfl, trivial⟩, ⟨rfl, rfl, trivial⟩, injOn_id _⟩ (fun k hk => ?_)
  have hz : ((mpGl a on A).take k ++ (List.replicate (A + 1) 0).drop k).length = A + 1 := by rw [List.length_append, List.length_take, List.length_drop, hgl, List.length_replicate]; omega
  refine V1 ?_
  refine awp_if rfl (fun h4 => ?_) (fun h4 => ?_)
  · simp only [icmp, decide_eq_true_eq] at h4
    have hget := mpGl_get (a := a) (o := on) (A := A) (k := k) (by omega)
    have hset := set_mix (A := mpGl a on A) (P := List.replicate (A + 1) 0) (n := k) (by rw [hgl, List.length_replicate]) (by rw [List.length_replicate]; omega) hget
    have hd0 : (List.replicate (A + 1) 0).getD k 0 = 0 := by simp [List.getD_eq_getElem?_getD, List.getElem?_replicate]; split <;> rfl
    have hsame : ¬ (k ≤ on ∧ k < a.length) → (mpGl a on A).take k ++ (List.replicate (A + 1) 0).drop k = (mpGl a on A).take (k + 1) ++ (List.replicate (A + 1) 0).drop (k + 1) := fun hn => mix_same (by omega) (by rw [List.length_replicate]; omega) (by rw [hget, if_neg hn, hd0])
    refine V1 ?_
    refine lex_if rfl rfl rfl (fun h5 => ?_) (fun h5 => ?_)
    · simp only [icmp, decide_eq_true_eq] at h5
      refine V1 ?_
      refine awp_if rfl (fun h6 => ?_) (fun h6 => ?_)
      · simp only [icmp, decide_eq_true_eq] at h6
        rw [if_pos (by omega)] at hget hset
        have ed : dotF (((offL a).take (0 + 0 + ((offL a).length - k - 0))).drop (0 + 0)) (((offL a).take (0 + k + ((offL a).length - k))).drop (0 + k)) = dlF (offL a) k := by
          rw [dl_dot (by omega), show 0 + k + ((offL a).length - k) = (offL a).length by omega, List.take_length]; simp
        refine V1 ?_
        (first | (refine w_r (q_slice_own 0 ((offL a).length - k) tyOk rfl rfl rfl rfl rfl rfl (by exact rfl) (by exact ⟨_, _, rfl, by first | rfl | omega | (simp only [AV.t.injEq, T.v.injEq, Value.int.injEq, true_and]; omega)⟩) (by omega) (by omega) (by omega)) (h := ?_)) | (refine y_r (q_slice_own 0 ((offL a).length - k) tyOk rfl rfl rfl rfl rfl rfl (by exact rfl) (by exact ⟨_, _, rfl, by first | rfl | omega | (simp only [AV.t.injEq, T.v.injEq, Value.int.injEq, true_and]; omega)⟩) (by omega) (by omega) (by omega)) (h := ?_)))
        refine V1 ?_
        (first | (refine w_r (q_slice_own k (offL a).length tyOk rfl rfl rfl rfl rfl rfl (by exact ⟨_, _, rfl, rfl⟩) (by exact rfl) (by omega) (by omega) (by omega)) (h := ?_)) | (refine y_r (q_slice_own k (offL a).length tyOk rfl rfl rfl rfl rfl rfl (by exact ⟨_, _, rfl, rfl⟩) (by exact rfl) (by omega) (by omega) (by omega)) (h := ?_)))
        refine V1 ?_
        refine z_q (dot_c (((offL a).take (0 + 0 + ((offL a).length - k - 0))).drop (0 + 0)) (((offL a).take (0 + k + ((offL a).length - k))).drop (0 + k)) (by simp; omega) (by simp; omega)) (hts := by refine ToTs.cons (ToT.cut rfl rfl ?_ rfl) (ToTs.cons (ToT.cut rfl rfl ?_ rfl) ToTs.nil) <;> (simp only [T.len]; omega)) (h := ?_)
        rw [ed]
        refine V1 ?_
        exact ⟨k + 1, by omega, by omega, fun i => i, ⟨rfl, rfl, rfl, rfl, rfl, rfl, iE9 (by omega), trivial⟩, ⟨sl_eq (congrArg T.fl (by simp only [Nat.zero_add]; exact hset)), rfl, trivial⟩, injOn_id _⟩
      · simp only [icmp, decide_eq_false_iff_not] at h6
        refine V1 ?_
        exact ⟨k + 1, by omega, by omega, fun i => i, ⟨rfl, rfl, rfl, rfl, rfl, rfl, iE9 (by omega), trivial⟩, ⟨sl_eq (congrArg T.fl (hsame (by omega))), rfl, trivial⟩, injOn_id _⟩
    · simp only [icmp, decide_eq_false_iff_not] at h5
      refine V1 ?_
      refine awp_ifF rfl rfl ?_
      refine V1 ?_
      exact ⟨k + 1, by omega, by omega, fun i => i, ⟨rfl, rfl, rfl, rfl, rfl, rfl, iE9 (by omega), trivial⟩, ⟨sl_eq (congrArg T.fl (hsame (by omega))), rfl, trivial⟩, injOn_id _⟩
  simp only [icmp, decide_eq_false_iff_not] at h4
  obtain rfl : k = A + 1 := by omega
  have hall : (mpGl a on A).take (A + 1) ++ (List.replicate (A + 1) 0).drop (A + 1) = mpGl a on A := by
    rw [List.drop_of_length_le (by rw [List.length_replicate]; omega), List.append_nil, List.take_of_length_le (by omega)]
  rw [hall]
  refine u_x ?_
  refine u_q ?_
  refine u_g ?_
  repeat (first | refine w_q ?_ | refine w_s ?_ | refine w_t ?_ | refine w_k ?_)
  refine u_n ?_
  refine u_q ?_
  refine u_g ?_
  repeat (first | refine w_q ?_ | refine w_s ?_ | refine w_t ?_ | refine w_k ?_)
  refine u_n ?_
  refine awp_wk0 [(1, .t (.v (.int .i64 (on : Nat)))), (9, .t (.v (.int .i64 (A : Nat)))), (11, .own 45 0 (A + 1)), (13, .own 78 0 1), (14, .own 82 0 1)]
    [(45, .sl 30 (.fl (mpGl a on A))), (82, .sl 30 (.fl (mpV (mpGl a on A) 0))), (78, .nest 24 (LN (.v (.slice none 0 0)) (mpGl a on A) 0) [] noRem)]
    ⟨rfl, rfl, rfl, rfl, rfl, trivial⟩ ⟨.inl rfl, .inl (sl_eq (by rw [mpV_0])), LN_nil rfl, trivial⟩ (iMP_8 (by omega) (by omega) (by omega) hgl)
end Go.Proofs.Ytpdnjcblkjjegaa

