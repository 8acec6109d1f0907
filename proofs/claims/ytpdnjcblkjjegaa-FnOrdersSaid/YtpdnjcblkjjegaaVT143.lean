import Derived.Test.YtpdnjcblkjjegaaVT142
import Derived.Test.YtpdnjcblkjjegaaVT26
set_option linter.unusedVariables false
set_option linter.unusedSimpArgs false
set_option maxRecDepth 20000
set_option maxHeartbeats 8000000
namespace Go.Proofs.Ytpdnjcblkjjegaa
open Go.Aw

/-! ### LagColumns, both -/
structure LC where
  c : List (List Nat)
  y : List Nat
  ok : Bool
def colOk (a : List Nat) (L : Int) : Bool := isSer a && inR L 1 5 && decide (L < (a.length : Nat))
def colF (a : List Nat) (L : Int) : LC := if colOk a L then ⟨lagC a L.toNat, a.drop L.toNat, true⟩ else ⟨[], [], false⟩
abbrev lcR (r : LC) : RV := .tup [.own 0 r.c.length, .own 1 r.y.length, .t (.v (.bool r.ok))]
abbrev lcH (r : LC) : List (Nat × Blk) := [(0, .sl 24 (.ffl r.c)), (1, .sl 30 (.fl r.y))]
theorem colF_no {a : List Nat} {L : Int} (h : ¬ (isSer a = true ∧ inR L 1 5 = true ∧ L < (a.length : Nat))) : colF a L = ⟨[], [], false⟩ := by
  unfold colF colOk
  rw [if_neg]; intro hk
  simp only [Bool.and_eq_true, decide_eq_true_eq, and_assoc] at hk
  exact h hk
theorem colF_yes {a : List Nat} {L : Nat} (h1 : isSer a = true) (h2 : inR (L : Int) 1 5 = true) (h3 : L < a.length) : colF a (L : Int) = ⟨lagC a L, a.drop L, true⟩ := by
  unfold colF colOk
  rw [h1, h2, decide_eq_true (by omega : (L : Int) < (a.length : Nat))]; rfl
attribute [local irreducible] QRun LexD AWp TCall TMut fop fint fcmp fconv NL lagC
theorem implCols_c (a : List Nat) (L : Int) (ha : a.length ≤ 1048576) : TCall Try.prog 65 [.fl a, .v (.int .i64 L)] (lcR (colF a L)) (lcH (colF a L)) := by
  refine tcall_of Try.func65 rfl (by kernel_rfl) (Nat.le_of_ble_eq_true rfl) rfl ?_
  simp only [argsL, argAV, argCs, argS]
  refine V1 ?_
  (first | (refine c_q (implSer_c a (by omega)) (h := ?_)) | (refine z_q (implSer_c a (by omega)) (h := ?_)))
  refine V1 ?_
  refine lex_if rfl rfl rfl (fun h1 => ?_) (fun h1 => ?_)
  · simp only [Bool.not_eq_true'] at h1
    refine V1 ?_
    refine awp_ifT rfl rfl ?_
    refine V1 ?_
    rw [colF_no (fun hc => by rw [h1] at hc; cases hc.1)]
    (refine ret_ok tyOk (by first | exact .inr rfl | exact .inl rfl) pi0 rfl (by repeat (first | exact .nil | (apply ResAl.cons; first | exact .tmp | exact .cell rfl rfl rfl rfl rfl rfl | exact .cell1 rfl rfl rfl rfl rfl))) ?_ ⟨⟨_, _, rfl, rfl, rfl⟩, ⟨_, _, rfl, rfl, rfl⟩, trivial⟩ (injO_dec rfl); (repeat' (first | exact RetRelL.nil | refine RetRel.nil rfl ?_ | refine RetRelL.cons ?_ ?_ | refine rr_tup ?_ | refine rr_agg ?_ | refine rr_own rfl ?_ | exact RetRel.arg | exact RetRel.argc | refine rr_t ?_)); all_goals rfl)
  simp only [Bool.not_eq_false'] at h1
  refine V1 ?_
  (first | refine c_q (within_c _ _ _) (h := ?_) | refine z_q (within_c _ _ _) (h := ?_))
  refine V1 ?_
  refine lex_if rfl rfl rfl (fun h2 => ?_) (fun h2 => ?_)
  · simp only [Bool.not_eq_true'] at h2
    refine V1 ?_
    refine awp_ifT rfl rfl ?_
    refine V1 ?_
    rw [colF_no (fun hc => by rw [h2] at hc; cases hc.2.1)]
    (refine ret_ok tyOk (by first | exact .inr rfl | exact .inl rfl) pi0 rfl (by repeat (first | exact .nil | (apply ResAl.cons; first | exact .tmp | exact .cell rfl rfl rfl rfl rfl rfl | exact .cell1 rfl rfl rfl rfl rfl))) ?_ ⟨⟨_, _, rfl, rfl, rfl⟩, ⟨_, _, rfl, rfl, rfl⟩, trivial⟩ (injO_dec rfl); (repeat' (first | exact RetRelL.nil | refine RetRel.nil rfl ?_ | refine RetRelL.cons ?_ ?_ | refine rr_tup ?_ | refine rr_agg ?_ | refine rr_own rfl ?_ | exact RetRel.arg | exact RetRel.argc | refine rr_t ?_)); all_goals rfl)
  simp only [Bool.not_eq_false'] at h2
  refine V1 ?_
  refine awp_if rfl (fun h3 => ?_) (fun h3 => ?_)
  · simp only [icmp, decide_eq_true_eq] at h3
    refine V1 ?_
    rw [colF_no (fun hc => by omega)]
    (refine ret_ok tyOk (by first | exact .inr rfl | exact .inl rfl) pi0 rfl (by repeat (first | exact .nil | (apply ResAl.cons; first | exact .tmp | exact .cell rfl rfl rfl rfl rfl rfl | exact .cell1 rfl rfl rfl rfl rfl))) ?_ ⟨⟨_, _, rfl, rfl, rfl⟩, ⟨_, _, rfl, rfl, rfl⟩, trivial⟩ (injO_dec rfl); (repeat' (first | exact RetRelL.nil | refine RetRel.nil rfl ?_ | refine RetRelL.cons ?_ ?_ | refine rr_tup ?_ | refine rr_agg ?_ | refine rr_own rfl ?_ | exact RetRel.arg | exact RetRel.argc | refine rr_t ?_)); all_goals rfl)
  simp only [icmp, decide_eq_false_iff_not] at h3
  have hs := isSer_len h1
  have hr := inR_t.1 h2
  obtain ⟨n, rfl⟩ : ∃ n : Nat, L = (n : Int) := ⟨L.toNat, by omega⟩
  rw [colF_yes h1 h2 (by omega)]
  have hcl := lagC_len a n
  have hdl : (a.drop n).length = a.length - n := List.length_drop ..
  refine V1 ?_
  (first | (refine c_s (lagCols_c a n (by omega) (by omega) (by omega)) (h := ?_)) | (refine z_s (lagCols_c a n (by omega) (by omega) (by omega)) (h := ?_)))
  refine V4 ?_
  refine ret_ok tyOk (by first | exact .inr rfl | exact .inl rfl) (pi2 (cid 26 0) (cid 26 1)) rfl (by repeat (first | exact .nil | (apply ResAl.cons; first | exact .tmp | exact .cell rfl rfl rfl rfl rfl rfl | exact .cell1 rfl rfl rfl rfl rfl))) ?_ ⟨rfl, rfl, trivial⟩ (injO_pi2 _ _ (by decide) _ _)
  repeat' (first | exact RetRelL.nil | refine RetRel.nil rfl ?_ | refine RetRelL.cons ?_ ?_ | refine rr_tup ?_ | refine rr_agg ?_ | refine rr_own rfl ?_ | exact RetRel.arg | exact RetRel.argc | refine rr_t ?_)
  all_goals first | rfl | exact hcl.symm | exact hdl.symm
theorem l03Same_c (n : Nat) (x : Nat) (hn : n ≤ 1048576) : TCall Try.prog 106 [.v (.int .i64 (n : Nat)), .f .f32 x] (.own 0 n) [(0, .sl 30 (.fl (List.replicate n x)))] := by
  refine tcall_of Try.func106 rfl (by kernel_rfl) (Nat.le_of_ble_eq_true rfl) rfl ?_
  simp only [argsL, argAV, argCs, argS]
  refine V5 ?_
  refine awp_loop (X := Nat) (fun k => k ≤ n) (fun k => [(0, .t (.v (.int .i64 (n : Nat)))), (1, .t (.f .f32 x)), (5, .own 7 0 k), (6, .t (.v (.int .i64 (k : Nat))))]) (fun k => [(7, .sl 30 (.fl (List.replicate k x)))]) (fun k => n - k)
    0 ⟨by omega, fun i => i, ⟨rfl, rfl, rfl, rfl, trivial⟩, ⟨rfl, trivial⟩, injOn_id _⟩ (fun k hk => ?_)
  have hz : (List.replicate k x).length = k := List.length_replicate
  refine V5 ?_
  refine awp_if rfl (fun h => ?_) (fun h => ?_)
  · simp only [icmp, decide_eq_true_eq] at h
    refine V5 ?_
    (first | refine a_s (hn := by exact hz) (h := ?_) | refine b_s (hn := by exact hz) (h := ?_))
    refine V5 ?_
    exact ⟨k + 1, by omega, by omega, fun i => i, ⟨rfl, rfl, own_eq (by simp only [T.app, T.len, List.length_append, hz]; rfl), iE9' (by omega), trivial⟩, ⟨sl_eq (congrArg T.fl (by rw [List.replicate_succ'])), trivial⟩, injOn_id _⟩
  simp only [icmp, decide_eq_false_iff_not] at h
  obtain rfl : k = n := by omega
  refine V5 ?_
  refine ret_ok tyOk (by first | exact .inr rfl | exact .inl rfl) (pi1 7) rfl (by repeat (first | exact .nil | (apply ResAl.cons; first | exact .tmp | exact .cell rfl rfl rfl rfl rfl rfl | exact .cell1 rfl rfl rfl rfl rfl))) ?_ ⟨rfl, trivial⟩ (injO_1 _ _ _)
  repeat' (first | exact RetRelL.nil | refine RetRel.nil rfl ?_ | refine RetRelL.cons ?_ ?_ | refine rr_tup ?_ | refine rr_agg ?_ | refine rr_own rfl ?_ | exact RetRel.arg | exact RetRel.argc | refine rr_t ?_)
  all_goals rfl
theorem specCols_c (a : List Nat) (L0 : Int) (ha : a.length ≤ 9223372036854775807) : TCall Try.prog 68 [.fl a, .v (.int .i64 L0)] (lcR (colF a L0)) (lcH (colF a L0)) := by
  have hfm := famOk_no
  refine tcall_of Try.func68 rfl (by kernel_rfl) (Nat.le_of_ble_eq_true rfl) rfl ?_
  simp only [argsL, argAV, argCs, argS]
  refine V1 ?_
  (first | refine c_q (specSer_c a ha) (h := ?_) | refine z_q (specSer_c a ha) (h := ?_))
  refine V1 ?_
  refine lex_if rfl rfl rfl (fun h1 => ?_) (fun h1 => ?_)
  · simp only [Bool.not_eq_true'] at h1
    refine V1 ?_
    refine awp_ifT rfl rfl ?_
    refine V1 ?_
    rw [colF_no (fun hc => by rw [h1] at hc; cases hc.1)]
    (refine ret_ok tyOk (by first | exact .inr rfl | exact .inl rfl) pi0 rfl (by repeat (first | exact .nil | (apply ResAl.cons; first | exact .tmp | exact .cell rfl rfl rfl rfl rfl rfl | exact .cell1 rfl rfl rfl rfl rfl))) ?_ ⟨⟨_, _, rfl, rfl, rfl⟩, ⟨_, _, rfl, rfl, rfl⟩, trivial⟩ (injO_dec rfl); (repeat' (first | exact RetRelL.nil | refine RetRel.nil rfl ?_ | refine RetRelL.cons ?_ ?_ | refine rr_tup ?_ | refine rr_agg ?_ | refine rr_own rfl ?_ | exact RetRel.arg | exact RetRel.argc | refine rr_t ?_)); all_goals rfl)
  simp only [Bool.not_eq_false'] at h1
  refine V1 ?_
  (first | refine c_q (l00In_c _ _ _) (h := ?_) | refine z_q (l00In_c _ _ _) (h := ?_))
  refine V1 ?_
  refine lex_if rfl rfl rfl (fun h2 => ?_) (fun h2 => ?_)
  · simp only [Bool.not_eq_true'] at h2
    refine V1 ?_
    refine awp_ifT rfl rfl ?_
    refine V1 ?_
    rw [colF_no (fun hc => by rw [h2] at hc; cases hc.2.1)]
    (refine ret_ok tyOk (by first | exact .inr rfl | exact .inl rfl) pi0 rfl (by repeat (first | exact .nil | (apply ResAl.cons; first | exact .tmp | exact .cell rfl rfl rfl rfl rfl rfl | exact .cell1 rfl rfl rfl rfl rfl))) ?_ ⟨⟨_, _, rfl, rfl, rfl⟩, ⟨_, _, rfl, rfl, rfl⟩, trivial⟩ (injO_dec rfl); (repeat' (first | exact RetRelL.nil | refine RetRel.nil rfl ?_ | refine RetRelL.cons ?_ ?_ | refine rr_tup ?_ | refine rr_agg ?_ | refine rr_own rfl ?_ | exact RetRel.arg | exact RetRel.argc | refine rr_t ?_)); all_goals rfl)
  simp only [Bool.not_eq_false'] at h2
  refine V1 ?_
  refine awp_if rfl (fun h3 => ?_) (fun h3 => ?_)
  · simp only [icmp, decide_eq_true_eq] at h3
    refine V1 ?_
    rw [colF_no (fun hc => by omega)]
    (refine ret_ok tyOk (by first | exact .inr rfl | exact .inl rfl) pi0 rfl (by repeat (first | exact .nil | (apply ResAl.cons; first | exact .tmp | exact .cell rfl rfl rfl rfl rfl rfl | exact .cell1 rfl rfl rfl rfl rfl))) ?_ ⟨⟨_, _, rfl, rfl, rfl⟩, ⟨_, _, rfl, rfl, rfl⟩, trivial⟩ (injO_dec rfl); (repeat' (first | exact RetRelL.nil | refine RetRel.nil rfl ?_ | refine RetRelL.cons ?_ ?_ | refine rr_tup ?_ | refine rr_agg ?_ | refine rr_own rfl ?_ | exact RetRel.arg | exact RetRel.argc | refine rr_t ?_)); all_goals rfl)
  simp only [icmp, decide_eq_false_iff_not] at h3
  have hl := isSer_len h1
  have hr := inR_t.1 h2
  obtain ⟨L, rfl⟩ : ∃ n : Nat, L0 = (n : Int) := ⟨L0.toNat, by omega⟩
  rw [colF_yes h1 h2 (by omega)]
  have hcl := lagC_len a L
  have hsub : ((a.length : Int) - (L : Int)) = ((a.length - L : Nat) : Int) := by omega
  refine V1 ?_
  rw [hsub]
  (first | (refine c_s (l03Same_c (a.length - L) 1065353216 (by omega)) (h := ?_)) | (refine z_s (l03Same_c (a.length - L) 1065353216 (by omega)) (h := ?_)))
  refine V1 ?_
  refine w_rs (q_bslice_nest (L := [.own (cid 28 0) 0 (a.length - L)]) [cid 28 0] tyOk rfl rfl rfl rfl rfl rfl rfl rfl rfl rfl rfl rfl rfl) (h := ?_)
  first | refine w_q ?_ | refine w_s ?_ | refine w_t ?_ | (refine w_k ?_)
  refine u_n ?_
  refine awp_wk0 [(0, .arg 0 (.fl a)), (1, .t (.v (.int .i64 (L : Nat)))), (7, .t (.v (.int .i64 (a.length : Nat)))), (8, .own 29 0 1)] [(29, .nest 24 (NL ((lagC a L).take 1)) [] noRem)]
    ⟨rfl, rfl, rfl, rfl, trivial⟩ ⟨by rw [lagC_one]; exact NL_one rfl rfl rfl (by simp) rfl, trivial⟩ ?_
  refine V2 ?_
  refine awp_loopN (X := Nat) (fun m => m ≤ L) (fun m => [(0, .arg 0 (.fl a)), (1, .t (.v (.int .i64 (L : Nat)))), (7, .t (.v (.int .i64 (a.length : Nat)))), (8, .own 29 0 (m + 1)), (9, .t (.v (.int .i64 (m + 1 : Nat))))]) (fun m => ovH (lkH [(29, .nest 24 (NL ((lagC a L).take (m + 1))) [] noRem)]) noFam) (fun m => L - m)
    0 (famN_0 (H := fun m => [(29, .nest 24 (NL ((lagC a L).take (m + 1))) [] noRem)]) 0 (by omega) ⟨rfl, rfl, rfl, rfl, rfl, trivial⟩ ⟨NL_same rfl, trivial⟩) (fun m hm => ?_)
  have hnl : (NL ((lagC a L).take (m + 1))).length = m + 1 := by rw [NL_len, List.length_take, hcl]; omega
  refine V2 ?_
  refine awp_cond (b := _) rfl (fun h => ?_) (fun h => ?_)
  · simp only [icmp, decide_eq_true_eq] at h
    have hmL : m < L := by omega
    have hcut : ((a.take (a.length - (m + 1))).drop (L - (m + 1))).length = a.length - L := by simp; omega
    refine V2 ?_
    (first | (refine kw_r (q_slice_tree (L - (m + 1)) (a.length - (m + 1)) tyOk rfl rfl rfl rfl rfl rfl rfl (by exact ⟨_, _, rfl, by omega⟩) (by exact ⟨_, _, rfl, by omega⟩) (by omega) (by simp only [T.len]; omega)) (h := ?_)) | (refine ky_r (q_slice_tree (L - (m + 1)) (a.length - (m + 1)) tyOk rfl rfl rfl rfl rfl rfl rfl (by exact ⟨_, _, rfl, by omega⟩) (by exact ⟨_, _, rfl, by omega⟩) (by omega) (by simp only [T.len]; omega)) (h := ?_)))
    refine V2 ?_
    (first | refine ka_s (hn := by exact rfl) (h := ?_) | refine kb_s (hn := by exact rfl) (h := ?_))
    have e1 : (T.fl []).app (.fl ((a.take (a.length - (m + 1))).drop (L - (m + 1)))) = .fl ((a.take (a.length - (m + 1))).drop (L - (m + 1))) := rfl
    have e2 : (T.fl ((a.take (a.length - (m + 1))).drop (L - (m + 1)))).len = a.length - L := hcut
    rw [e1, e2]
    refine V2 ?_
    (refine kw_rs (q_bslice_nest (L := [.own 36 0 (a.length - L)]) [36] tyOk rfl rfl rfl rfl rfl rfl rfl rfl rfl rfl rfl rfl rfl) (h := ?_))
    refine V2 ?_
    (refine kw_rs (q_app_nest (m := 1) (NL_good _) (own1_good _ _) hnl rfl tyOk rfl rfl rfl rfl rfl rfl rfl rfl rfl rfl rfl rfl rfl rfl rfl (by simp only []; omega) (by omega)) (h := ?_))
    refine V2 ?_
    exact ⟨m + 1, by omega, famN_0 (H := fun m => [(29, .nest 24 (NL ((lagC a L).take (m + 1))) [] noRem)]) (m + 1) (by omega) ⟨rfl, rfl, rfl, rfl, iE9' (by omega), trivial⟩ ⟨by rw [← lagC_take a hmL]; exact NL_bto rfl rfl rfl hcut.symm rfl, trivial⟩⟩
  simp only [icmp, decide_eq_false_iff_not] at h
  obtain rfl : m = L := by omega
  rw [List.take_of_length_le (by omega)]
  have hdr : (a.drop m).length = a.length - m := List.length_drop ..
  have hdr2 : (a.take a.length).drop m = a.drop m := by rw [List.take_length]
  refine u_x ?_
  refine u_q ?_
  refine u_g ?_
  repeat (first | refine kx_q ?_ | refine kxd_q ?_ | refine kw_s ?_ | refine kw_t ?_ | refine kw_k ?_ | refine ky_s ?_ | refine ky_t ?_ | refine ky_k ?_)
  (first | (refine kw_r (q_slice_tree m a.length tyOk rfl rfl rfl rfl rfl rfl rfl (by exact ⟨_, _, rfl, rfl⟩) (by exact rfl) (by omega) (by simp only [T.len]; omega)) (h := ?_)) | (refine ky_r (q_slice_tree m a.length tyOk rfl rfl rfl rfl rfl rfl rfl (by exact ⟨_, _, rfl, rfl⟩) (by exact rfl) (by omega) (by simp only [T.len]; omega)) (h := ?_)))
  rw [hdr2]
  repeat (first | refine kx_q ?_ | refine kxd_q ?_ | refine kw_s ?_ | refine kw_t ?_ | refine kw_k ?_ | refine ky_s ?_ | refine ky_t ?_ | refine ky_k ?_)
  (first | refine ka_s (hn := by exact rfl) (h := ?_) | refine kb_s (hn := by exact rfl) (h := ?_))
  have e1 : (T.fl []).app (.fl (a.drop m)) = .fl (a.drop m) := rfl
  have e2 : (T.fl (a.drop m)).len = a.length - m := hdr
  rw [e1, e2]
  repeat (first | refine kx_q ?_ | refine kxd_q ?_ | refine kw_s ?_ | refine kw_t ?_ | refine kw_k ?_ | refine ky_s ?_ | refine ky_t ?_ | refine ky_k ?_)
  refine u_n ?_
  refine awp_off [(4, .own 29 0 (m + 1)), (5, .own 49 0 (a.length - m)), (6, .t (.v (.bool true)))] [(29, .sl 24 (.ffl (lagC a m))), (49, .sl 30 (.fl (a.drop m)))]
    ⟨rfl, rfl, rfl, trivial⟩ ⟨NL_ffl rfl, .inl rfl, trivial⟩ ?_
  refine u_r ?_
  refine ret_ok tyOk (by first | exact .inr rfl | exact .inl rfl) (pi2 29 49) rfl (by repeat (first | exact .nil | (apply ResAl.cons; first | exact .tmp | exact .cell rfl rfl rfl rfl rfl rfl | exact .cell1 rfl rfl rfl rfl rfl))) ?_ ⟨rfl, rfl, trivial⟩ (injO_pi2 _ _ (by decide) _ _)
  repeat' (first | exact RetRelL.nil | refine RetRel.nil rfl ?_ | refine RetRelL.cons ?_ ?_ | refine rr_tup ?_ | refine rr_agg ?_ | refine rr_own rfl ?_ | exact RetRel.arg | exact RetRel.argc | refine rr_t ?_)
  all_goals first | rfl | exact hcl.symm | exact hdr.symm
end Go.Proofs.Ytpdnjcblkjjegaa

