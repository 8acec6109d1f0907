import Derived.Test.YtpdnjcblkjjegaaVT138
set_option linter.unusedVariables false
set_option linter.unusedSimpArgs false
set_option maxRecDepth 20000
set_option maxHeartbeats 8000000
namespace Go.Proofs.Ytpdnjcblkjjegaa
open Go.Aw

/-! ### MovingParts, the program's -/
theorem LN_ren1 (h : T) (g : List Nat) (m i n : Nat) {k : Nat} {v : AV} (hv : (LN h g m ++ [.own i 0 n])[k]? = some v) : v = ren (fun i => i) v := by
  rcases Nat.lt_or_ge k (LN h g m).length with hk | hk
  · rw [List.getElem?_append_left hk] at hv; exact LN_ren h g m hv
  · have := List.mem_of_getElem? hv
    rcases List.mem_append.1 this with h1 | h1
    · obtain ⟨j, hj, rfl⟩ := List.getElem_of_mem h1
      exact LN_ren h g m (List.getElem?_eq_getElem hj)
    · rw [List.mem_singleton.1 h1]; rfl
theorem LN_get1 (h : T) (g : List Nat) {m k i n : Nat} (h1 : 1 ≤ k) (h2 : k ≤ m) : (LN h g m ++ [.own i 0 n])[k]? = some (.t (.fl ((mpT g m).getD k []))) := by
  rw [List.getElem?_append_left (by rw [LN_len]; omega)]; exact LN_get h g h1 h2
theorem LN_get2 (h : T) (g : List Nat) (m i n : Nat) : (LN h g m ++ [.own i 0 n])[m + 1]? = some (.own i 0 n) := by
  rw [List.getElem?_append_right (by rw [LN_len]; omega), LN_len, Nat.sub_self]; rfl
theorem mpE_no {g : List Nat} {o A : Nat} (h : ¬ ((mpTm g o A).all fin = true ∧ fin ((mpV g A).getD A 0) = true)) : mpE g o A = ⟨[], 0, false⟩ := by
  unfold mpE
  rw [if_neg]; intro hk
  simp only [Bool.and_eq_true] at hk
  exact h hk.2
theorem mpE_yes {g : List Nat} {o A : Nat} (h1 : (mpTm g o A).all fin = true) (h2 : fin ((mpV g A).getD A 0) = true) (hz : ∀ k, k < A → fcmp .eql .f32 ((mpV g k).getD k 0) 0 = false) : mpE g o A = ⟨mpTm g o A, (mpV g A).getD A 0, true⟩ := by
  unfold mpE
  rw [mpZ_of hz, h1, h2]; rfl
attribute [local irreducible] mpTm QRun LexD AWp TCall TMut fop fint fcmp fconv mpT mpV LN mpR mpX mpQ mpS mpW mpGl mpF mpE dlF
theorem iMP_9 {g : List Nat} {o A : Nat} (h0 : 1 ≤ o) (ho : o ≤ A) (hA : A ≤ 38) (hz : ∀ k, k < A → fcmp .eql .f32 ((mpV g k).getD k 0) 0 = false) :
    AWp Try.prog Try.f28.ntmps (tlF Try.f28 9) (RetQ Try.prog Try.f28 (opR (mpE g o A)) (opH (mpE g o A))) (lkF [(1, .t (.v (.int .i64 (o : Nat)))), (9, .t (.v (.int .i64 (A : Nat)))), (13, .own 78 0 (A + 1)), (14, .own 82 0 (A + 1))])
      (ovH (lkH [(82, .sl 30 (.fl (mpV g A))), (78, .nest 24 (LN (.v (.slice none 0 0)) g A) [] noRem)]) noFam) := by
  have hfm := famOk_no
  have hl := mpV_len g A
  have hL := LN_get (.v (.slice none 0 0)) g (m := A) (k := 0 + A) (by omega) (by omega)
  rw [Nat.zero_add] at hL
  have hr := mpT_row g (m := A) (k := A) (Nat.le_refl _)
  have ht : (mpTm g o A).length = o := mpTm_len ho
  have hT0 := mpTm_def g o A
  refine V2 ?_
  (first | (refine kw_r (q_load_nest (off := 0 + A) (by rw [Nat.zero_add]; exact hL) (LN_good _ _ _) tyOk rfl rfl rfl rfl rfl rfl rfl) (h := ?_)) | (refine ky_r (q_load_nest (off := 0 + A) (by rw [Nat.zero_add]; exact hL) (LN_good _ _ _) tyOk rfl rfl rfl rfl rfl rfl rfl) (h := ?_)))
  refine V2 ?_
  (first | (refine kw_r (q_slice_tree 1 (o + 1) tyOk rfl rfl rfl rfl rfl rfl rfl (by exact ⟨_, _, rfl, rfl⟩) (by exact ⟨_, _, rfl, rfl⟩) (by omega) (by simp only [T.len]; omega)) (h := ?_)) | (refine ky_r (q_slice_tree 1 (o + 1) tyOk rfl rfl rfl rfl rfl rfl rfl (by exact ⟨_, _, rfl, rfl⟩) (by exact ⟨_, _, rfl, rfl⟩) (by omega) (by simp only [T.len]; omega)) (h := ?_)))
  rw [hT0]
  refine V2 ?_
  (first | (refine kc_s (cloneF_c (mpTm g o A) (by omega)) (h := ?_)) | (refine kz_s (cloneF_c (mpTm g o A) (by omega)) (h := ?_)))
  refine V2 ?_
  (first | (refine kc_q (areFinite_c (mpTm g o A) (by omega)) (h := ?_)) | (refine kz_q (areFinite_c (mpTm g o A) (by omega)) (h := ?_)))
  refine V2 ?_
  refine nlex_if rfl rfl rfl (fun h1 => ?_) (fun h1 => ?_)
  · refine V2 ?_
    refine awp_ifT rfl rfl ?_
    refine V2 ?_
    simp only [Bool.not_eq_true'] at h1
    rw [mpE_no (fun hc => by rw [h1] at hc; cases hc.1)]
    (refine u_1 ?_; (repeat' (first | exact RetRelL.nil | refine RetRel.nil rfl ?_ | refine RetRelL.cons ?_ ?_ | refine rr_tup ?_ | refine rr_agg ?_ | refine rr_own rfl ?_ | exact RetRel.arg | exact RetRel.argc | refine rr_t ?_)); all_goals rfl)
  simp only [Bool.not_eq_false'] at h1
  refine V2 ?_
  (first | refine kc_q (isFinite_c _) (h := ?_) | refine kz_q (isFinite_c _) (h := ?_))
  refine V2 ?_
  refine awp_cond (b := _) rfl (fun h2 => ?_) (fun h2 => ?_)
  · simp only [Bool.not_eq_true', Nat.zero_add] at h2
    refine V2 ?_
    rw [mpE_no (fun hc => by rw [h2] at hc; cases hc.2)]
    (refine u_1 ?_; (repeat' (first | exact RetRelL.nil | refine RetRel.nil rfl ?_ | refine RetRelL.cons ?_ ?_ | refine rr_tup ?_ | refine rr_agg ?_ | refine rr_own rfl ?_ | exact RetRel.arg | exact RetRel.argc | refine rr_t ?_)); all_goals rfl)
  simp only [Bool.not_eq_false', Nat.zero_add] at h2
  refine u_s ?_
  refine V2 ?_
  rw [mpE_yes h1 h2 hz]
  refine ret_ok tyOk (by first | exact .inr rfl | exact .inl rfl) (pi1 (cid 195 0)) rfl (by repeat (first | exact .nil | (apply ResAl.cons; first | exact .tmp | exact .cell rfl rfl rfl rfl rfl rfl | exact .cell1 rfl rfl rfl rfl rfl))) ?_ ⟨rfl, trivial⟩ (injO_1 _ _ _)
  repeat' (first | exact RetRelL.nil | refine RetRel.nil rfl ?_ | refine RetRelL.cons ?_ ?_ | refine rr_tup ?_ | refine rr_agg ?_ | refine rr_own rfl ?_ | exact RetRel.arg | exact RetRel.argc | refine rr_t ?_)
  all_goals first | rfl | (simp only [Nat.zero_add])
theorem iMP_8 {g : List Nat} {o A : Nat} (h0 : 1 ≤ o) (ho : o ≤ A) (hA : A ≤ 38) (hg : g.length = A + 1) :
    AWp Try.prog Try.f28.ntmps (tlF Try.f28 8) (RetQ Try.prog Try.f28 (opR (mpE g o A)) (opH (mpE g o A))) (lkF [(1, .t (.v (.int .i64 (o : Nat)))), (9, .t (.v (.int .i64 (A : Nat)))), (11, .own 45 0 (A + 1)), (13, .own 78 0 1), (14, .own 82 0 1)])
      (ovH (lkH [(45, .sl 30 (.fl g)), (82, .sl 30 (.fl (mpV g 0))), (78, .nest 24 (LN (.v (.slice none 0 0)) g 0) [] noRem)]) noFam) := by
  have hfm := famOk_no
  refine V2 ?_
  refine awp_loopN (X := Nat) (fun m => m ≤ A ∧ ∀ k, k < m → fcmp .eql .f32 ((mpV g k).getD k 0) 0 = false)
    (fun m => [(1, .t (.v (.int .i64 (o : Nat)))), (9, .t (.v (.int .i64 (A : Nat)))), (11, .own 45 0 (A + 1)), (13, .own 78 0 (m + 1)), (14, .own 82 0 (m + 1)), (15, .t (.v (.int .i64 (m + 1 : Nat))))])
    (fun m => ovH (lkH [(45, .sl 30 (.fl g)), (82, .sl 30 (.fl (mpV g m))), (78, .nest 24 (LN (.v (.slice none 0 0)) g m) [] noRem)]) noFam) (fun m => A - m)
    0 (famN_0 (H := fun m => [(45, .sl 30 (.fl g)), (82, .sl 30 (.fl (mpV g m))), (78, .nest 24 (LN (.v (.slice none 0 0)) g m) [] noRem)]) 0 ⟨by omega, fun k hk => by omega⟩ ⟨rfl, rfl, rfl, rfl, rfl, rfl, trivial⟩ ⟨.inl rfl, .inl rfl, .inl ⟨_, _, rfl, LN_good _ _ _, rfl, fun k v hv => ⟨v, hv, .inl (LN_ren _ _ _ hv)⟩⟩, trivial⟩) (fun m hm => ?_)
  obtain ⟨hm, hz⟩ := hm
  have hVl := mpV_len g m
  refine V2 ?_
  refine awp_cond (b := _) rfl (fun h => ?_) (fun h => ?_)
  · simp only [icmp, decide_eq_true_eq] at h
    have hmA : m + 1 ≤ A := by omega
    have hNl : (LN (.v (.slice none 0 0)) g m ++ [AV.own 91 0 (m + 2)]).length = m + 2 := by rw [List.length_append, LN_len]; rfl
    have hN2 := LN_get2 (.v (.slice none 0 0)) g m 91 (m + 2)
    refine V2 ?_
    (refine kw_rs (q_make (m + 2) tyOk rfl rfl rfl rfl rfl rfl rfl rfl rfl (by omega) rfl (by simp only []; omega) (by omega)) (h := ?_))
    refine V2 ?_
    (refine kw_rs (q_bslice_nest (L := [.own 91 0 (m + 2)]) [91] tyOk rfl rfl rfl rfl rfl rfl rfl rfl rfl rfl rfl rfl rfl) (h := ?_))
    refine V2 ?_
    (refine kw_rs (q_app_nest (m := 1) (LN_good _ _ _) (own_good _ _) (LN_len _ _ _) rfl tyOk rfl rfl rfl rfl rfl rfl rfl rfl rfl rfl rfl rfl rfl rfl rfl (by simp only []; omega) (by omega)) (h := ?_))
    refine V2 ?_
    have e0 : List.replicate (m + 2) 0 = mpW [] (m + 1) 0 := mpW_nil (m + 1)
    rw [e0]
    refine awp_loopN (X := Nat) (fun k => k ≤ m + 1 ∧ ∀ j, j < k → fcmp .eql .f32 ((mpV g j).getD j 0) 0 = false)
      (fun k => [(1, .t (.v (.int .i64 (o : Nat)))), (9, .t (.v (.int .i64 (A : Nat)))), (11, .own 45 0 (A + 1)), (13, .own 78 0 (m + 2)), (14, .own 82 0 (m + 1)), (15, .t (.v (.int .i64 (m + 1 : Nat)))), (94, .t (.v (.int .i64 (m + 1 : Nat)))), (95, .t (.v (.int .i64 (k : Nat))))])
      (fun k => ovH (lkH [(91, .sl 30 (.fl (mpW (mpX g (mpT g m) (mpV g m) (m + 1) k) (m + 1) k))), (45, .sl 30 (.fl g)), (82, .sl 30 (.fl (mpV g m))), (78, .nest 24 (LN (.v (.slice none 0 0)) g m ++ [AV.own 91 0 (m + 2)]) [91] noRem)]) noFam) (fun k => m + 1 - k)
      0 (famN_0 (H := fun k => [(91, .sl 30 (.fl (mpW (mpX g (mpT g m) (mpV g m) (m + 1) k) (m + 1) k))), (45, .sl 30 (.fl g)), (82, .sl 30 (.fl (mpV g m))), (78, .nest 24 (LN (.v (.slice none 0 0)) g m ++ [AV.own 91 0 (m + 2)]) [91] noRem)]) 0 ⟨by omega, fun k hk => by omega⟩ ⟨rfl, rfl, rfl, rfl, rfl, rfl, rfl, rfl, trivial⟩ ⟨.inl (sl_eq (by rw [mpX_0])), .inl rfl, .inl rfl, .inl ⟨_, _, rfl, LN_good1 _ _ _ _ _, rfl, fun k v hv => ⟨v, hv, .inl (LN_ren1 _ _ _ _ _ hv)⟩⟩, trivial⟩) (fun k hk => ?_)
    obtain ⟨hk, hzk⟩ := hk
    have hX := mpX_len g (mpT g m) (mpV g m) (m + 1) k
    have hW := mpW_len (m := m + 1) hX (by omega)
    refine V2 ?_
    refine awp_cond (b := _) rfl (fun hc => ?_) (fun hc => ?_)
    · simp only [icmp, decide_eq_true_eq] at hc
      have hkm : k ≤ m := by omega
      have hro := mpT_row g hkm
      refine V2 ?_
      refine awp_loopN (X := Nat) (fun j => j ≤ k)
        (fun j => [(1, .t (.v (.int .i64 (o : Nat)))), (9, .t (.v (.int .i64 (A : Nat)))), (11, .own 45 0 (A + 1)), (13, .own 78 0 (m + 2)), (14, .own 82 0 (m + 1)), (15, .t (.v (.int .i64 (m + 1 : Nat)))), (94, .t (.v (.int .i64 (m + 1 : Nat)))), (95, .t (.v (.int .i64 (k : Nat)))), (16, .t (.v (.int .i64 (k : Nat)))), (17, .t (.f .f32 (mpS ((mpT g m).getD k []) (mpX g (mpT g m) (mpV g m) (m + 1) k) (mpV g m) k j))), (98, .t (.v (.int .i64 (k : Nat)))), (99, .t (.v (.int .i64 (j : Nat))))])
        (fun j => ovH (lkH [(91, .sl 30 (.fl (mpW (mpX g (mpT g m) (mpV g m) (m + 1) k) (m + 1) k))), (45, .sl 30 (.fl g)), (82, .sl 30 (.fl (mpV g m))), (78, .nest 24 (LN (.v (.slice none 0 0)) g m ++ [AV.own 91 0 (m + 2)]) [91] noRem)]) noFam) (fun j => k - j)
        0 (famN_0 (H := fun j => [(91, .sl 30 (.fl (mpW (mpX g (mpT g m) (mpV g m) (m + 1) k) (m + 1) k))), (45, .sl 30 (.fl g)), (82, .sl 30 (.fl (mpV g m))), (78, .nest 24 (LN (.v (.slice none 0 0)) g m ++ [AV.own 91 0 (m + 2)]) [91] noRem)]) 0 (by omega) ⟨rfl, rfl, rfl, rfl, rfl, rfl, rfl, rfl, rfl, fE (mpS_0 _ _ _ _).symm, rfl, rfl, trivial⟩ ⟨.inl rfl, .inl rfl, .inl rfl, .inl ⟨_, _, rfl, LN_good1 _ _ _ _ _, rfl, fun k v hv => ⟨v, hv, .inl (LN_ren1 _ _ _ _ _ hv)⟩⟩, trivial⟩) (fun j hj => ?_)
      refine V2 ?_
      refine awp_cond (b := _) rfl (fun hd => ?_) (fun hd => ?_)
      · simp only [icmp, decide_eq_true_eq] at hd
        have hL := LN_get1 (.v (.slice none 0 0)) g (m := m) (k := k) (i := 91) (n := m + 2) (by omega) (by omega)
        have hjk : j < k := by omega
        refine V2 ?_
        (first | (refine kw_r (q_load_nest (off := 0 + k) (by rw [Nat.zero_add]; exact hL) (LN_good1 _ _ _ _ _) tyOk rfl rfl rfl rfl rfl rfl rfl) (h := ?_)) | (refine ky_r (q_load_nest (off := 0 + k) (by rw [Nat.zero_add]; exact hL) (LN_good1 _ _ _ _ _) tyOk rfl rfl rfl rfl rfl rfl rfl) (h := ?_)))
        refine V2 ?_
        (first | (refine kw_r (q_idx_tree (k - j) tyOk rfl rfl rfl rfl rfl rfl rfl rfl (by omega) (by first | omega | (simp only [T.len]; omega) | assumption)) (h := ?_)) | (refine ky_r (q_idx_tree (k - j) tyOk rfl rfl rfl rfl rfl rfl rfl rfl (by omega) (by first | omega | (simp only [T.len]; omega) | assumption)) (h := ?_)))
        refine V2 ?_
        (first | (refine kw_r (q_load_nest (off := 0 + (m + 1)) (by rw [Nat.zero_add]; exact hN2) (LN_good1 _ _ _ _ _) tyOk rfl rfl rfl rfl rfl rfl rfl) (h := ?_)) | (refine ky_r (q_load_nest (off := 0 + (m + 1)) (by rw [Nat.zero_add]; exact hN2) (LN_good1 _ _ _ _ _) tyOk rfl rfl rfl rfl rfl rfl rfl) (h := ?_)))
        refine V2 ?_
        (first | (refine kw_r (q_idx_own (m + 1 - j) tyOk rfl rfl rfl rfl rfl rfl rfl (by omega) (by first | omega | (simp only [T.len]; omega) | assumption)) (h := ?_)) | (refine ky_r (q_idx_own (m + 1 - j) tyOk rfl rfl rfl rfl rfl rfl rfl (by omega) (by first | omega | (simp only [T.len]; omega) | assumption)) (h := ?_)))
        refine V2 ?_
        exact ⟨j + 1, by omega, famN_0 (H := fun j => [(91, .sl 30 (.fl (mpW (mpX g (mpT g m) (mpV g m) (m + 1) k) (m + 1) k))), (45, .sl 30 (.fl g)), (82, .sl 30 (.fl (mpV g m))), (78, .nest 24 (LN (.v (.slice none 0 0)) g m ++ [AV.own 91 0 (m + 2)]) [91] noRem)]) (j + 1) (by omega)
          ⟨rfl, rfl, rfl, rfl, rfl, rfl, rfl, rfl, rfl, fE (by rw [Nat.zero_add, Nat.zero_add, mpW_get hX (by omega) hjk, mpS_S]), rfl, iE9 (by omega), trivial⟩ ⟨.inl rfl, .inl rfl, .inl rfl, .inl ⟨_, _, rfl, LN_good1 _ _ _ _ _, rfl, fun k v hv => ⟨v, hv, .inl (LN_ren1 _ _ _ _ _ hv)⟩⟩, trivial⟩⟩
      simp only [icmp, decide_eq_false_iff_not] at hd
      obtain rfl : j = k := by omega
      refine V2 ?_
      have hva := mpV_at g hkm
      rw [Nat.zero_add, hva]
      refine V2 ?_
      refine awp_cond (b := _) rfl (fun he => ?_) (fun he => ?_)
      · refine V2 ?_
        rw [mpE_zero (by omega) he]
        (refine u_1 ?_; (repeat' (first | exact RetRelL.nil | refine RetRel.nil rfl ?_ | refine RetRelL.cons ?_ ?_ | refine rr_tup ?_ | refine rr_agg ?_ | refine rr_own rfl ?_ | exact RetRel.arg | exact RetRel.argc | refine rr_t ?_)); all_goals rfl)
      refine u_s ?_
      refine V2 ?_
      (first | (refine kw_r (q_load_nest (off := 0 + (m + 1)) (by rw [Nat.zero_add]; exact hN2) (LN_good1 _ _ _ _ _) tyOk rfl rfl rfl rfl rfl rfl rfl) (h := ?_)) | (refine ky_r (q_load_nest (off := 0 + (m + 1)) (by rw [Nat.zero_add]; exact hN2) (LN_good1 _ _ _ _ _) tyOk rfl rfl rfl rfl rfl rfl rfl) (h := ?_)))
      refine V2 ?_
      (first | (refine kw_r (q_idx_own (m + 1 - j) tyOk rfl rfl rfl rfl rfl rfl rfl (by omega) (by first | omega | (simp only [T.len]; omega) | assumption)) (h := ?_)) | (refine ky_r (q_idx_own (m + 1 - j) tyOk rfl rfl rfl rfl rfl rfl rfl (by omega) (by first | omega | (simp only [T.len]; omega) | assumption)) (h := ?_)))
      refine V2 ?_
      (first | (refine kw_r (q_idx_own (m + 1 - j) tyOk rfl rfl rfl rfl rfl rfl rfl (by omega) (by first | omega | (simp only [T.len]; omega) | assumption)) (h := ?_)) | (refine ky_r (q_idx_own (m + 1 - j) tyOk rfl rfl rfl rfl rfl rfl rfl (by omega) (by first | omega | (simp only [T.len]; omega) | assumption)) (h := ?_)))
      refine V2 ?_
      have hst := mpW_set (m := m + 1) (x := fop .quo .f32 (fop .sub .f32 (g.getD (m + 1 - j) 0) (mpS ((mpT g m).getD j []) (mpX g (mpT g m) (mpV g m) (m + 1) j) (mpV g m) j j)) ((mpV g m).getD j 0)) hX (by omega)
      exact ⟨j + 1, by omega, famN_0 (H := fun k => [(91, .sl 30 (.fl (mpW (mpX g (mpT g m) (mpV g m) (m + 1) k) (m + 1) k))), (45, .sl 30 (.fl g)), (82, .sl 30 (.fl (mpV g m))), (78, .nest 24 (LN (.v (.slice none 0 0)) g m ++ [AV.own 91 0 (m + 2)]) [91] noRem)]) (j + 1) ⟨by omega, fun i hi => by by_cases hij : i = j; (subst hij; simpa using he); exact hzk i (by omega)⟩
        ⟨rfl, rfl, rfl, rfl, rfl, rfl, rfl, iE9 (by omega), trivial⟩ ⟨.inl (sl_eq (congrArg T.fl (by simp only [Nat.zero_add]; rw [mpX_S]; exact hst))), .inl rfl, .inl rfl, .inl ⟨_, _, rfl, LN_good1 _ _ _ _ _, rfl, fun k v hv => ⟨v, hv, .inl (LN_ren1 _ _ _ _ _ hv)⟩⟩, trivial⟩⟩
    simp only [icmp, decide_eq_false_iff_not] at hc
    obtain rfl : k = m + 1 := by omega
    rw [mpR_def] at hX hW ⊢
    refine V2 ?_
    refine awp_loopN (X := Nat) (fun i => i ≤ m + 1)
      (fun i => [(1, .t (.v (.int .i64 (o : Nat)))), (9, .t (.v (.int .i64 (A : Nat)))), (11, .own 45 0 (A + 1)), (13, .own 78 0 (m + 2)), (14, .own 82 0 (m + 1)), (15, .t (.v (.int .i64 (m + 1 : Nat)))), (19, .t (.f .f32 (mpQ (mpR g m) (mpV g m) i))), (156, .t (.v (.int .i64 (m + 1 : Nat)))), (157, .t (.v (.int .i64 (i : Nat))))])
      (fun i => ovH (lkH [(91, .sl 30 (.fl (mpW (mpR g m) (m + 1) (m + 1)))), (45, .sl 30 (.fl g)), (82, .sl 30 (.fl (mpV g m))), (78, .nest 24 (LN (.v (.slice none 0 0)) g m ++ [AV.own 91 0 (m + 2)]) [91] noRem)]) noFam) (fun i => m + 1 - i)
      0 (famN_0 (H := fun i => [(91, .sl 30 (.fl (mpW (mpR g m) (m + 1) (m + 1)))), (45, .sl 30 (.fl g)), (82, .sl 30 (.fl (mpV g m))), (78, .nest 24 (LN (.v (.slice none 0 0)) g m ++ [AV.own 91 0 (m + 2)]) [91] noRem)]) 0 (by omega) ⟨rfl, rfl, rfl, rfl, rfl, rfl, fE (mpQ_0 _ _).symm, rfl, rfl, trivial⟩ ⟨.inl rfl, .inl rfl, .inl rfl, .inl ⟨_, _, rfl, LN_good1 _ _ _ _ _, rfl, fun k v hv => ⟨v, hv, .inl (LN_ren1 _ _ _ _ _ hv)⟩⟩, trivial⟩) (fun i hi => ?_)
    refine V2 ?_
    refine awp_cond (b := _) rfl (fun hd => ?_) (fun hd => ?_)
    · simp only [icmp, decide_eq_true_eq] at hd
      have him : i < m + 1 := by omega
      have hwi := mpW_get (m := m + 1) hX (by omega) him
      refine V2 ?_
      (first | (refine kw_r (q_load_nest (off := 0 + (m + 1)) (by rw [Nat.zero_add]; exact hN2) (LN_good1 _ _ _ _ _) tyOk rfl rfl rfl rfl rfl rfl rfl) (h := ?_)) | (refine ky_r (q_load_nest (off := 0 + (m + 1)) (by rw [Nat.zero_add]; exact hN2) (LN_good1 _ _ _ _ _) tyOk rfl rfl rfl rfl rfl rfl rfl) (h := ?_)))
      refine V2 ?_
      (first | (refine kw_r (q_idx_own (m + 1 - i) tyOk rfl rfl rfl rfl rfl rfl rfl (by omega) (by first | omega | (simp only [T.len]; omega) | assumption)) (h := ?_)) | (refine ky_r (q_idx_own (m + 1 - i) tyOk rfl rfl rfl rfl rfl rfl rfl (by omega) (by first | omega | (simp only [T.len]; omega) | assumption)) (h := ?_)))
      refine V2 ?_
      exact ⟨i + 1, by omega, famN_0 (H := fun i => [(91, .sl 30 (.fl (mpW (mpR g m) (m + 1) (m + 1)))), (45, .sl 30 (.fl g)), (82, .sl 30 (.fl (mpV g m))), (78, .nest 24 (LN (.v (.slice none 0 0)) g m ++ [AV.own 91 0 (m + 2)]) [91] noRem)]) (i + 1) (by omega)
        ⟨rfl, rfl, rfl, rfl, rfl, rfl, fE (by rw [Nat.zero_add, Nat.zero_add, hwi, mpQ_S]), rfl, iE9 (by omega), trivial⟩ ⟨.inl rfl, .inl rfl, .inl rfl, .inl ⟨_, _, rfl, LN_good1 _ _ _ _ _, rfl, fun k v hv => ⟨v, hv, .inl (LN_ren1 _ _ _ _ _ hv)⟩⟩, trivial⟩⟩
    simp only [icmp, decide_eq_false_iff_not] at hd
    obtain rfl : i = m + 1 := by omega
    refine V2 ?_
    (first | refine ka_s (hn := by exact hVl) (h := ?_) | refine kb_s (hn := by exact hVl) (h := ?_))
    have eV : (T.fl (mpV g m)).app (T.fl [fop .sub .f32 (g.getD 0 0) (mpQ (mpR g m) (mpV g m) (m + 1))]) = T.fl (mpV g (m + 1)) := by rw [mpV_S]; rfl
    have hV2 := mpV_len g (m + 1)
    have el : (T.fl (mpV g (m + 1))).len = m + 2 := hV2
    rw [eV, el, mpW_all]
    refine V2 ?_
    exact ⟨m + 1, by omega, famN_0 (H := fun m => [(45, .sl 30 (.fl g)), (82, .sl 30 (.fl (mpV g m))), (78, .nest 24 (LN (.v (.slice none 0 0)) g m) [] noRem)]) (m + 1)
      ⟨by omega, fun k hk => by by_cases hkm : k = m; (subst hkm; exact hzk _ (by omega)); exact hz k (by omega)⟩
      ⟨rfl, rfl, rfl, rfl, rfl, iE9 (by omega), trivial⟩ ⟨.inl rfl, .inl rfl, LN_bto rfl rfl rfl rfl rfl, trivial⟩⟩
  simp only [icmp, decide_eq_false_iff_not] at h
  obtain rfl : m = A := by omega
  refine u_x ?_
  exact awp_wk0 [(1, .t (.v (.int .i64 (o : Nat)))), (9, .t (.v (.int .i64 (m : Nat)))), (13, .own 78 0 (m + 1)), (14, .own 82 0 (m + 1))] [(82, .sl 30 (.fl (mpV g m))), (78, .nest 24 (LN (.v (.slice none 0 0)) g m) [] noRem)]
    ⟨rfl, rfl, rfl, rfl, trivial⟩ ⟨.inl rfl, .inl ⟨_, _, rfl, LN_good _ _ _, rfl, fun k v hv => ⟨v, hv, .inl (LN_ren _ _ _ hv)⟩⟩, trivial⟩ (iMP_9 h0 ho hA hz)
end Go.Proofs.Ytpdnjcblkjjegaa

