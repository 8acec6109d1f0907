import Derived.Test.YtpdnjcblkjjegaaVT146
import Derived.Test.YtpdnjcblkjjegaaVT68
set_option linter.unusedVariables false
set_option linter.unusedSimpArgs false
set_option maxRecDepth 20000
set_option maxHeartbeats 16000000
namespace Go.Proofs.Ytpdnjcblkjjegaa
open Go.Aw

/-! ### the nearest terms, the reference's -/
/-- n columns of N numbers -/
structure ColsV (C : List (List Nat)) (N : Nat) : Prop where
  lo : 1 ≤ C.length
  hi : C.length ≤ 6
  len : ∀ i, i < C.length → (C.getD i []).length = N
  ser : ∀ i, i < C.length → isSer (C.getD i []) = true
  n96 : N ≤ 96
theorem dotN_F (a b : List Nat) : ∀ n, F32 (dotN a b n)
  | 0 => by show F32 0; exact ⟨canon_not (by decide +kernel), by decide⟩
  | n + 1 => F32_fop _ _ _
theorem gM_FM (C : List (List Nat)) (y : List Nat) : FM (gM C y) := fun r c => by
  unfold gM
  split <;> exact dotN_F _ _ _
theorem gM_in {C : List (List Nat)} {y : List Nat} {N i k : Nat} (h : ColsV C N) (hi : i < C.length) (hk : k < C.length) : gM C y i k = dotN (C.getD i []) (C.getD k []) N := by
  unfold gM dotF
  rw [if_pos hk, h.len i hi]
theorem gM_y {C : List (List Nat)} {y : List Nat} {N i : Nat} (h : ColsV C N) (hi : i < C.length) : gM C y i C.length = dotN (C.getD i []) y N := by
  unfold gM dotF
  rw [if_neg (Nat.lt_irrefl _), h.len i hi]
theorem take_snoc2 {l : List Nat} {n x : Nat} (h : n < l.length) (hx : l.getD n 0 = x) : l.take n ++ [x] = l.take (n + 1) := by
  subst hx
  rw [List.take_succ_eq_append_getElem h, List.getD_eq_getElem?_getD, List.getElem?_eq_getElem h]; rfl
theorem dotN_0 (a b : List Nat) : dotN a b 0 = 0 := rfl
theorem dotN_S (a b : List Nat) (n : Nat) : dotN a b (n + 1) = fop .add .f32 (dotN a b n) (fop .mul .f32 (a.getD n 0) (b.getD n 0)) := rfl
theorem flat_row {n i : Nat} (h : i + 1 ≤ n) : i * n + n = (i + 1) * n := by rw [Nat.add_mul, Nat.one_mul]
theorem gOk_bad {n : Nat} {M : Mx} (h : gF n M = false) : gOk n M n = false := gOk_no (Nat.zero_le n) h
attribute [local irreducible] QRun LexD AWp TCall TMut fop fint fcmp fconv flatA colB gI gP gE gS gEr gErc gSc gT gB gOk gF gV gZ gN solF sz3 absF dotN gM
theorem l03Fit_c (C : List (List Nat)) (y : List Nat) (N : Nat) (hC : ColsV C N) (hy : y.length = N) :
    TCall Try.prog 108 [.ffl C, .fl y] (.tup [.own 0 (solF C.length (gM C y)).1.length, .t (.v (.bool (solF C.length (gM C y)).2))]) [(0, .sl 30 (.fl (solF C.length (gM C y)).1))] := by
  have hM := gM_FM C y
  have hN := hC.n96
  have hg1 := fun i k => @gM_in C y N i k hC
  have hg2 := fun i => @gM_y C y N i hC
  have hlo := hC.lo
  have hhi := hC.hi
  have hlen := hC.len
  clear hC
  generalize hn : C.length = n at *
  generalize hMd : gM C y = M at *
  have hnn : n * n ≤ 36 := Nat.mul_le_mul hhi hhi
  have hal := flatA_len n M
  have hbl := colB_len n M
  refine tcall_of Try.func108 rfl (by kernel_rfl) (Nat.le_of_ble_eq_true rfl) rfl ?_
  simp only [argsL, argAV, argCs, argS]
  refine V5 ?_
  refine awp_loop (X := Nat) (fun i => i ≤ n) (fun i => [(0, .arg 0 (.ffl C)), (1, .arg 1 (.fl y)), (6, .own 14 0 (i * n)), (7, .own 15 0 i), (17, .t (.v (.int .i64 (n : Nat)))), (18, .t (.v (.int .i64 (i : Nat))))])
    (fun i => [(14, .sl 30 (.fl ((flatA n M).take (i * n)))), (15, .sl 30 (.fl ((colB n M).take i)))]) (fun i => n - i)
    0 ⟨by omega, fun i => i, ⟨rfl, rfl, own_eq (by rw [Nat.zero_mul]), rfl, iE9' (by show ((C.length : Nat) : Int) = _; rw [hn]), rfl, trivial⟩, ⟨sl_eq (by rw [Nat.zero_mul]; rfl), rfl, trivial⟩, injOn_id _⟩ (fun i hi => ?_)
  refine V5 ?_
  refine awp_if rfl (fun h => ?_) (fun h => ?_)
  · simp only [icmp, decide_eq_true_eq] at h
    have hin : i < n := by omega
    have hli := hlen i hin
    have hfr := flat_row hin
    have him : (i + 1) * n ≤ n * n := Nat.mul_le_mul_right n hin
    have hz2 : ((colB n M).take i).length = i := by rw [List.length_take, hbl]; omega
    refine V5 ?_
    refine awp_loop (X := Nat) (fun k => k ≤ n) (fun k => [(0, .arg 0 (.ffl C)), (1, .arg 1 (.fl y)), (6, .own 14 0 (i * n + k)), (7, .own 15 0 i), (8, .t (.v (.int .i64 (i : Nat)))), (17, .t (.v (.int .i64 (n : Nat)))), (18, .t (.v (.int .i64 (i : Nat)))), (22, .t (.v (.int .i64 (n : Nat)))), (23, .t (.v (.int .i64 (k : Nat))))])
      (fun k => [(14, .sl 30 (.fl ((flatA n M).take (i * n + k)))), (15, .sl 30 (.fl ((colB n M).take i)))]) (fun k => n - k)
      0 ⟨by omega, fun i => i, ⟨rfl, rfl, rfl, rfl, rfl, rfl, rfl, iE9' (by show ((C.length : Nat) : Int) = _; rw [hn]), rfl, trivial⟩, ⟨rfl, rfl, trivial⟩, injOn_id _⟩ (fun k hk => ?_)
    have hz1 : ((flatA n M).take (i * n + k)).length = i * n + k := by rw [List.length_take, hal]; omega
    refine V5 ?_
    refine awp_if rfl (fun h2 => ?_) (fun h2 => ?_)
    · simp only [icmp, decide_eq_true_eq] at h2
      have hkn : k < n := by omega
      have hlk := hlen k hkn
      have hgk := hg1 i k hin hkn
      have hfl := flatA_get (M := M) hin hkn
      have hfb := flat_lt hin hkn
      refine V5 ?_
      refine awp_loop (X := Nat) (fun j => j ≤ N) (fun j => [(0, .arg 0 (.ffl C)), (1, .arg 1 (.fl y)), (6, .own 14 0 (i * n + k)), (7, .own 15 0 i), (8, .t (.v (.int .i64 (i : Nat)))), (9, .t (.v (.int .i64 (k : Nat)))), (10, .t (.f .f32 (dotN (C.getD i []) (C.getD k []) j))), (17, .t (.v (.int .i64 (n : Nat)))), (18, .t (.v (.int .i64 (i : Nat)))), (22, .t (.v (.int .i64 (n : Nat)))), (23, .t (.v (.int .i64 (k : Nat)))), (27, .t (.v (.int .i64 (N : Nat)))), (28, .t (.v (.int .i64 (j : Nat))))])
        (fun j => [(14, .sl 30 (.fl ((flatA n M).take (i * n + k)))), (15, .sl 30 (.fl ((colB n M).take i)))]) (fun j => N - j)
        0 ⟨by omega, fun i => i, ⟨rfl, rfl, rfl, rfl, rfl, rfl, fE2 (dotN_0 _ _).symm, rfl, rfl, rfl, rfl, iE9' (by show ((y.length : Nat) : Int) = _; rw [hy]), rfl, trivial⟩, ⟨rfl, rfl, trivial⟩, injOn_id _⟩ (fun j hj => ?_)
      refine V5 ?_
      refine awp_if rfl (fun h3 => ?_) (fun h3 => ?_)
      · simp only [icmp, decide_eq_true_eq] at h3
        refine V5 ?_
        exact ⟨j + 1, by omega, by omega, fun i => i, ⟨rfl, rfl, rfl, rfl, rfl, rfl, fE2 (dotN_S _ _ _).symm, rfl, rfl, rfl, rfl, rfl, iE9' (by omega), trivial⟩, ⟨rfl, rfl, trivial⟩, injOn_id _⟩
      simp only [icmp, decide_eq_false_iff_not] at h3
      obtain rfl : N = j := by omega
      rw [← hgk]
      refine V5 ?_
      (first | refine a_s (hn := by exact hz1) (h := ?_) | refine b_s (hn := by exact hz1) (h := ?_))
      refine V5 ?_
      exact ⟨k + 1, by omega, by omega, fun i => i, ⟨rfl, rfl, own_eq (by simp only [T.app, T.len, List.length_append, hz1]; rfl), rfl, rfl, rfl, rfl, rfl, iE9' (by omega), trivial⟩, ⟨sl_eq (congrArg T.fl (take_snoc2 (by omega) hfl)), rfl, trivial⟩, injOn_id _⟩
    simp only [icmp, decide_eq_false_iff_not] at h2
    obtain rfl : n = k := by omega
    have hgi := hg2 i hin
    have hbg := colB_get (M := M) hin
    refine V5 ?_
    refine awp_loop (X := Nat) (fun j => j ≤ N) (fun j => [(0, .arg 0 (.ffl C)), (1, .arg 1 (.fl y)), (6, .own 14 0 (i * n + n)), (7, .own 15 0 i), (8, .t (.v (.int .i64 (i : Nat)))), (12, .t (.f .f32 (dotN (C.getD i []) y j))), (17, .t (.v (.int .i64 (n : Nat)))), (18, .t (.v (.int .i64 (i : Nat)))), (55, .t (.v (.int .i64 (N : Nat)))), (56, .t (.v (.int .i64 (j : Nat))))])
      (fun j => [(14, .sl 30 (.fl ((flatA n M).take (i * n + n)))), (15, .sl 30 (.fl ((colB n M).take i)))]) (fun j => N - j)
      0 ⟨by omega, fun i => i, ⟨rfl, rfl, rfl, rfl, rfl, fE2 (dotN_0 _ _).symm, rfl, rfl, iE9' (by show ((y.length : Nat) : Int) = _; rw [hy]), rfl, trivial⟩, ⟨rfl, rfl, trivial⟩, injOn_id _⟩ (fun j hj => ?_)
    refine V5 ?_
    refine awp_if rfl (fun h3 => ?_) (fun h3 => ?_)
    · simp only [icmp, decide_eq_true_eq] at h3
      refine V5 ?_
      exact ⟨j + 1, by omega, by omega, fun i => i, ⟨rfl, rfl, rfl, rfl, rfl, fE2 (dotN_S _ _ _).symm, rfl, rfl, rfl, iE9' (by omega), trivial⟩, ⟨rfl, rfl, trivial⟩, injOn_id _⟩
    simp only [icmp, decide_eq_false_iff_not] at h3
    obtain rfl : N = j := by omega
    rw [← hgi]
    refine V5 ?_
    (first | refine a_s (hn := by exact hz2) (h := ?_) | refine b_s (hn := by exact hz2) (h := ?_))
    refine V5 ?_
    exact ⟨i + 1, by omega, by omega, fun i => i, ⟨rfl, rfl, own_eq hfr, own_eq (by simp only [T.app, T.len, List.length_append, hz2]; rfl), rfl, iE9' (by omega), trivial⟩, ⟨sl_eq (by rw [hfr]), sl_eq (congrArg T.fl (take_snoc2 (by omega) hbg)), trivial⟩, injOn_id _⟩
  simp only [icmp, decide_eq_false_iff_not] at h
  obtain rfl : n = i := by omega
  rw [List.take_of_length_le (by omega : (flatA n M).length ≤ n * n), List.take_of_length_le (by omega : (colB n M).length ≤ n)]
  have hF := flat_F n M
  refine V5 ?_
  (first | (refine c_q (l02Finite_c (flatA n M) (by omega)) (h := ?_)) | (refine z_q (l02Finite_c (flatA n M) (by omega)) (h := ?_)))
  refine V5 ?_
  refine lex_if rfl rfl rfl (fun h5 => ?_) (fun h5 => ?_)
  · simp only [Bool.not_eq_true'] at h5
    rw [h5, Bool.false_and] at hF
    rw [solF_no (gOk_bad hF.symm)]
    refine V5 ?_
    refine awp_ifT rfl rfl ?_
    refine V5 ?_
    (refine u_1 ?_; (repeat' (first | exact RetRelL.nil | refine RetRel.nil rfl ?_ | refine RetRelL.cons ?_ ?_ | refine rr_tup ?_ | refine rr_agg ?_ | refine rr_own rfl ?_ | exact RetRel.arg | exact RetRel.argc | refine rr_t ?_)); all_goals rfl)
  simp only [Bool.not_eq_false'] at h5
  rw [h5, Bool.true_and] at hF
  refine V5 ?_
  (first | (refine c_q (l02Finite_c (colB n M) (by omega)) (h := ?_)) | (refine z_q (l02Finite_c (colB n M) (by omega)) (h := ?_)))
  refine V5 ?_
  refine awp_if rfl (fun h6 => ?_) (fun h6 => ?_)
  · simp only [Bool.not_eq_true'] at h6
    rw [h6] at hF
    rw [solF_no (gOk_bad hF.symm)]
    refine V5 ?_
    (refine u_1 ?_; (repeat' (first | exact RetRelL.nil | refine RetRel.nil rfl ?_ | refine RetRelL.cons ?_ ?_ | refine rr_tup ?_ | refine rr_agg ?_ | refine rr_own rfl ?_ | exact RetRel.arg | exact RetRel.argc | refine rr_t ?_)); all_goals rfl)
  simp only [Bool.not_eq_false'] at h6
  rw [h6] at hF
  refine V5 ?_
  refine m_s [(900, 14), (901, 15)] (solve_c n M hlo hhi hM hF.symm) (hi := by exact injS_2 _ _ _ _ _ (by decide)) (hl := by exact ⟨⟨_, _, rfl, rfl, rfl, rfl, rfl⟩, ⟨_, _, rfl, rfl, rfl, rfl, rfl⟩, trivial⟩) (h := ?_)
  refine V4 ?_
  refine ret_ok tyOk (by first | exact .inr rfl | exact .inl rfl) (pi1 (cid 89 0)) rfl (by repeat (first | exact .nil | (apply ResAl.cons; first | exact .tmp | exact .cell rfl rfl rfl rfl rfl rfl | exact .cell1 rfl rfl rfl rfl rfl))) ?_ ⟨rfl, trivial⟩ (injO_1 _ _ _)
  repeat' (first | exact RetRelL.nil | refine RetRel.nil rfl ?_ | refine RetRelL.cons ?_ ?_ | refine rr_tup ?_ | refine rr_agg ?_ | refine rr_own rfl ?_ | exact RetRel.arg | exact RetRel.argc | refine rr_t ?_)
  all_goals rfl
end Go.Proofs.Ytpdnjcblkjjegaa

set_option linter.unusedVariables false
set_option linter.unusedSimpArgs false
set_option maxRecDepth 20000
set_option maxHeartbeats 8000000
namespace Go.Proofs.Ytpdnjcblkjjegaa
open Go.Aw

/-! ### columns, fitted: the reference's -/
def fdN (C : List (List Nat)) (t : List Nat) (j : Nat) : Nat → Nat
  | 0 => 0
  | i + 1 => fop .add .f32 (fdN C t j i) (fop .mul .f32 ((C.getD i []).getD j 0) (t.getD i 0))
def fdL (C : List (List Nat)) (t : List Nat) (N : Nat) : List Nat := (List.range N).map fun j => fdN C t j C.length
theorem fdL_len (C : List (List Nat)) (t : List Nat) (N : Nat) : (fdL C t N).length = N := by simp [fdL]
theorem fdL_get {C : List (List Nat)} {t : List Nat} {N j : Nat} (h : j < N) : (fdL C t N).getD j 0 = fdN C t j C.length := getD_mapR _ h
theorem fdN_0 (C : List (List Nat)) (t : List Nat) (j : Nat) : fdN C t j 0 = 0 := rfl
theorem fdN_S (C : List (List Nat)) (t : List Nat) (j i : Nat) : fdN C t j (i + 1) = fop .add .f32 (fdN C t j i) (fop .mul .f32 ((C.getD i []).getD j 0) (t.getD i 0)) := rfl
theorem zsub_get {a b : List Nat} {j : Nat} (h : j < a.length) : (zsub a b).getD j 0 = fop .sub .f32 (a.getD j 0) (b.getD j 0) := getD_mapR _ h
/-- what is left beside the fitted -/
def rfD (C : List (List Nat)) (y : List Nat) : List Nat := zsub y (fdL C (fitF C y).1 y.length)
def rfOk (C : List (List Nat)) (y : List Nat) : Bool := (fitF C y).2 && ((fdL C (fitF C y).1 y.length).all fin && ((rfD C y).all fin && fin (dotF (rfD C y) (rfD C y))))
def rfF (C : List (List Nat)) (y : List Nat) : OP := if rfOk C y then ⟨rfD C y, dotF (rfD C y) (rfD C y), true⟩ else ⟨[], 0, false⟩
theorem rfF_no {C : List (List Nat)} {y : List Nat} (h : rfOk C y = false) : rfF C y = ⟨[], 0, false⟩ := by unfold rfF; rw [h]; rfl
theorem rfF_yes {C : List (List Nat)} {y : List Nat} (h : rfOk C y = true) : rfF C y = ⟨rfD C y, dotF (rfD C y) (rfD C y), true⟩ := by unfold rfF; rw [h]; rfl
def orF (a : List Nat) (L : Int) : OP := if (colF a L).ok && (rfF (colF a L).c (colF a L).y).ok then ⟨(fitF (colF a L).c (colF a L).y).1, fop .quo .f32 (rfF (colF a L).c (colF a L).y).s (fint .f32 ((colF a L).y.length : Nat)), true⟩ else ⟨[], 0, false⟩
theorem fit_ok {C : List (List Nat)} {y : List Nat} (h : (fitF C y).2 = true) : (fitF C y).1.length = C.length ∧ (fitF C y).1.all fin = true := by
  cases hg : gOk C.length (gM C y) C.length with
  | false => rw [fit_no (Nat.le_refl _) hg] at h; cases h
  | true =>
    rw [fit_yes hg] at h ⊢
    unfold ifAllF at h ⊢
    split at h
    · rename_i hk
      rw [if_pos hk]
      exact ⟨gB_len _ _ _, hk⟩
    · cases h
theorem fit_sol {C : List (List Nat)} {y : List Nat} : fitF C y = if (solF C.length (gM C y)).2 then ((solF C.length (gM C y)).1, true) else ([], false) := by
  cases hg : gOk C.length (gM C y) C.length with
  | false => rw [fit_no (Nat.le_refl _) hg, solF_no hg]; rfl
  | true => rw [fit_yes hg, solF_yes hg]; unfold ifAllF; split <;> rfl
attribute [local irreducible] QRun LexD AWp TCall TMut fop fint fcmp fconv gM gOk gB gI fitF solF fdN fdL dotN dotF zsub

theorem specColumns_c (C : List (List Nat)) (N : Nat) (hC : ColsV C N) : TCall Try.prog 107 [.ffl C] (.t (.v (.bool true))) [] := by
  have hN := hC.n96
  have hlo := hC.lo
  have hhi := hC.hi
  have hlen := hC.len
  have hser := hC.ser
  have hl0 := hlen 0 (by omega)
  refine tcall_of Try.func107 rfl (by kernel_rfl) (Nat.le_of_ble_eq_true rfl) rfl ?_
  simp only [argsL, argAV, argCs, argS]
  refine V5 ?_
  refine lex_if rfl rfl rfl (fun h => ?_) (fun h => ?_)
  · simp only [icmp, decide_eq_true_eq] at h
    exfalso; omega
  refine V5 ?_
  refine awp_if rfl (fun h => ?_) (fun h => ?_)
  · simp only [icmp, decide_eq_true_eq] at h
    exfalso; omega
  refine V5 ?_
  refine awp_loop (X := Nat) (fun i => i ≤ C.length) (fun i => [(0, .arg 0 (.ffl C)), (13, .t (.v (.int .i64 (C.length : Nat)))), (14, .t (.v (.int .i64 (i : Nat))))])
    (fun i => []) (fun i => C.length - i)
    0 ⟨by omega, fun i => i, ⟨rfl, rfl, rfl, trivial⟩, trivial, injOn_id _⟩ (fun i hi => ?_)
  refine V5 ?_
  refine awp_if rfl (fun h2 => ?_) (fun h2 => ?_)
  · simp only [icmp, decide_eq_true_eq] at h2
    have hli := hlen i (by omega)
    have hsi := hser i (by omega)
    refine V5 ?_
    try (first | (refine w_r (q_idx_tree (0) tyOk rfl rfl rfl rfl rfl rfl rfl rfl (by omega) (by first | omega | (simp only [T.len]; omega) | assumption)) (h := ?_)) | (refine y_r (q_idx_tree (0) tyOk rfl rfl rfl rfl rfl rfl rfl rfl (by omega) (by first | omega | (simp only [T.len]; omega) | assumption)) (h := ?_)))
    refine V5 ?_
    (first | (refine c_q (specSer_c (C.getD i []) (by omega)) (h := ?_)) | (refine z_q (specSer_c (C.getD i []) (by omega)) (h := ?_)))
    rw [hsi]
    refine V5 ?_
    refine awp_if rfl (fun h3 => ?_) (fun h3 => ?_)
    · exfalso
      revert h3
      simp only [icmp, T.len, hli, hl0]
      simp
    refine V5 ?_
    exact ⟨i + 1, by omega, by omega, fun i => i, ⟨rfl, rfl, iE9' (by omega), trivial⟩, trivial, injOn_id _⟩
  refine V5 ?_
  (refine u_0 ?_; (repeat' (first | exact RetRelL.nil | refine RetRel.nil rfl ?_ | refine RetRelL.cons ?_ ?_ | refine rr_tup ?_ | refine rr_agg ?_ | refine rr_own rfl ?_ | exact RetRel.arg | exact RetRel.argc | refine rr_t ?_)); all_goals rfl)

theorem specColumnFit_c (C : List (List Nat)) (y : List Nat) (N : Nat) (hC : ColsV C N) (hy : y.length = N) (hs : isSer y = true) :
    TCall Try.prog 69 [.ffl C, .fl y] (.tup [.own 0 (fitF C y).1.length, .t (.v (.bool (fitF C y).2))]) [(0, .sl 30 (.fl (fitF C y).1))] := by
  have hN := hC.n96
  have hl0 := hC.len 0 hC.lo
  have hlo := hC.lo
  refine tcall_of Try.func69 rfl (by kernel_rfl) (Nat.le_of_ble_eq_true rfl) rfl ?_
  simp only [argsL, argAV, argCs, argS]
  refine V5 ?_
  (first | refine c_q (specColumns_c C N hC) (h := ?_) | refine z_q (specColumns_c C N hC) (h := ?_))
  refine V5 ?_
  (first | (refine c_q (specSer_c y (by omega)) (h := ?_)) | (refine z_q (specSer_c y (by omega)) (h := ?_)))
  rw [hs]
  refine V5 ?_
  try (first | (refine w_r (q_idx_tree (0) tyOk rfl rfl rfl rfl rfl rfl rfl rfl (by omega) (by first | omega | (simp only [T.len]; omega) | assumption)) (h := ?_)) | (refine y_r (q_idx_tree (0) tyOk rfl rfl rfl rfl rfl rfl rfl rfl (by omega) (by first | omega | (simp only [T.len]; omega) | assumption)) (h := ?_)))
  refine V5 ?_
  refine awp_if rfl (fun h3 => ?_) (fun h3 => ?_)
  · exfalso
    revert h3
    simp only [icmp, T.len, hl0, hy]
    simp
  refine V5 ?_
  (first | refine c_s (l03Fit_c C y N hC hy) (h := ?_) | refine z_s (l03Fit_c C y N hC hy) (h := ?_))
  refine V5 ?_
  refine awp_if rfl (fun h4 => ?_) (fun h4 => ?_)
  · simp only [Bool.not_eq_true'] at h4
    have hF : fitF C y = ([], false) := by rw [fit_sol, h4]; rfl
    rw [hF]
    refine V5 ?_
    (refine u_1 ?_; (repeat' (first | exact RetRelL.nil | refine RetRel.nil rfl ?_ | refine RetRelL.cons ?_ ?_ | refine rr_tup ?_ | refine rr_agg ?_ | refine rr_own rfl ?_ | exact RetRel.arg | exact RetRel.argc | refine rr_t ?_)); all_goals rfl)
  simp only [Bool.not_eq_false'] at h4
  have hF : fitF C y = ((solF C.length (gM C y)).1, true) := by rw [fit_sol, h4]; rfl
  rw [hF]
  refine V5 ?_
  refine ret_ok tyOk (by first | exact .inr rfl | exact .inl rfl) (pi1 (cid 28 0)) rfl (by repeat (first | exact .nil | (apply ResAl.cons; first | exact .tmp | exact .cell rfl rfl rfl rfl rfl rfl | exact .cell1 rfl rfl rfl rfl rfl))) ?_ ⟨rfl, trivial⟩ (injO_1 _ _ _)
  repeat' (first | exact RetRelL.nil | refine RetRel.nil rfl ?_ | refine RetRelL.cons ?_ ?_ | refine rr_tup ?_ | refine rr_agg ?_ | refine rr_own rfl ?_ | exact RetRel.arg | exact RetRel.argc | refine rr_t ?_)
  all_goals rfl

theorem l03Fitted_c (C : List (List Nat)) (t : List Nat) (N : Nat) (hC : ColsV C N) (ht : t.length = C.length) :
    TCall Try.prog 129 [.ffl C, .fl t] (.own 0 N) [(0, .sl 30 (.fl (fdL C t N)))] := by
  have hN := hC.n96
  have hlo := hC.lo
  have hhi := hC.hi
  have hlen := hC.len
  have hl0 := hlen 0 (by omega)
  have hfl := fdL_len C t N
  refine tcall_of Try.func129 rfl (by kernel_rfl) (Nat.le_of_ble_eq_true rfl) rfl ?_
  simp only [argsL, argAV, argCs, argS]
  refine V5 ?_
  try (first | (refine w_r (q_idx_tree (0) tyOk rfl rfl rfl rfl rfl rfl rfl rfl (by omega) (by first | omega | (simp only [T.len]; omega) | assumption)) (h := ?_)) | (refine y_r (q_idx_tree (0) tyOk rfl rfl rfl rfl rfl rfl rfl rfl (by omega) (by first | omega | (simp only [T.len]; omega) | assumption)) (h := ?_)))
  refine V5 ?_
  refine awp_loop (X := Nat) (fun j => j ≤ N) (fun j => [(0, .arg 0 (.ffl C)), (1, .arg 1 (.fl t)), (5, .own 9 0 j), (13, .t (.v (.int .i64 (N : Nat)))), (14, .t (.v (.int .i64 (j : Nat))))])
    (fun j => [(9, .sl 30 (.fl ((fdL C t N).take j)))]) (fun j => N - j)
    0 ⟨by omega, fun i => i, ⟨rfl, rfl, rfl, iE9' (by show (((C.getD 0 []).length : Nat) : Int) = _; rw [hl0]), rfl, trivial⟩, ⟨rfl, trivial⟩, injOn_id _⟩ (fun j hj => ?_)
  have hz : ((fdL C t N).take j).length = j := by rw [List.length_take, hfl]; omega
  refine V5 ?_
  refine awp_if rfl (fun h2 => ?_) (fun h2 => ?_)
  · simp only [icmp, decide_eq_true_eq] at h2
    have hg := fdL_get (C := C) (t := t) (show j < N by omega)
    refine V5 ?_
    refine awp_loop (X := Nat) (fun i => i ≤ C.length) (fun i => [(0, .arg 0 (.ffl C)), (1, .arg 1 (.fl t)), (5, .own 9 0 j), (6, .t (.v (.int .i64 (j : Nat)))), (7, .t (.f .f32 (fdN C t j i))), (13, .t (.v (.int .i64 (N : Nat)))), (14, .t (.v (.int .i64 (j : Nat)))), (18, .t (.v (.int .i64 (C.length : Nat)))), (19, .t (.v (.int .i64 (i : Nat))))])
      (fun i => [(9, .sl 30 (.fl ((fdL C t N).take j)))]) (fun i => C.length - i)
      0 ⟨by omega, fun i => i, ⟨rfl, rfl, rfl, rfl, fE2 (fdN_0 _ _ _).symm, rfl, rfl, rfl, rfl, trivial⟩, ⟨rfl, trivial⟩, injOn_id _⟩ (fun i hi => ?_)
    refine V5 ?_
    refine awp_if rfl (fun h3 => ?_) (fun h3 => ?_)
    · simp only [icmp, decide_eq_true_eq] at h3
      have hli := hlen i (by omega)
      refine V5 ?_
      exact ⟨i + 1, by omega, by omega, fun i => i, ⟨rfl, rfl, rfl, rfl, fE2 (fdN_S _ _ _ _).symm, rfl, rfl, rfl, iE9' (by omega), trivial⟩, ⟨rfl, trivial⟩, injOn_id _⟩
    simp only [icmp, decide_eq_false_iff_not] at h3
    obtain rfl : C.length = i := by omega
    rw [← hg]
    refine V5 ?_
    (first | refine a_s (hn := by exact hz) (h := ?_) | refine b_s (hn := by exact hz) (h := ?_))
    refine V5 ?_
    exact ⟨j + 1, by omega, by omega, fun i => i, ⟨rfl, rfl, own_eq (by simp only [T.app, T.len, List.length_append, hz]; rfl), rfl, iE9' (by omega), trivial⟩, ⟨sl_eq (congrArg T.fl (take_snoc2 (by omega) rfl)), trivial⟩, injOn_id _⟩
  simp only [icmp, decide_eq_false_iff_not] at h2
  obtain rfl : N = j := by omega
  refine V5 ?_
  refine ret_ok tyOk (by first | exact .inr rfl | exact .inl rfl) (pi1 9) rfl (by repeat (first | exact .nil | (apply ResAl.cons; first | exact .tmp | exact .cell rfl rfl rfl rfl rfl rfl | exact .cell1 rfl rfl rfl rfl rfl))) ?_ ⟨sl_eq (congrArg T.fl (List.take_of_length_le (by omega))), trivial⟩ (injO_1 _ _ _)
  repeat' (first | exact RetRelL.nil | refine RetRel.nil rfl ?_ | refine RetRelL.cons ?_ ?_ | refine rr_tup ?_ | refine rr_agg ?_ | refine rr_own rfl ?_ | exact RetRel.arg | exact RetRel.argc | refine rr_t ?_)
  all_goals rfl

theorem fittedOf_c (C : List (List Nat)) (t : List Nat) (N : Nat) (hC : ColsV C N) (ht : t.length = C.length) (hf : t.all fin = true) :
    TCall Try.prog 109 [.ffl C, .fl t] (.tup [.own 0 (ifAllF (fdL C t N)).1.length, .t (.v (.bool (ifAllF (fdL C t N)).2))]) [(0, .sl 30 (.fl (ifAllF (fdL C t N)).1))] := by
  have hN := hC.n96
  have hhi := hC.hi
  have hfl := fdL_len C t N
  refine tcall_of Try.func109 rfl (by kernel_rfl) (Nat.le_of_ble_eq_true rfl) rfl ?_
  simp only [argsL, argAV, argCs, argS]
  refine V5 ?_
  (first | refine c_q (specColumns_c C N hC) (h := ?_) | refine z_q (specColumns_c C N hC) (h := ?_))
  refine V5 ?_
  refine lex_if rfl rfl rfl (fun h => ?_) (fun h => ?_)
  · exfalso
    revert h
    simp only [icmp, T.len, ht]
    simp
  refine V5 ?_
  (first | (refine c_q (l02Finite_c t (by omega)) (h := ?_)) | (refine z_q (l02Finite_c t (by omega)) (h := ?_)))
  rw [hf]
  refine V5 ?_
  try refine awp_ifF rfl rfl ?_
  refine V5 ?_
  (first | refine c_s (l03Fitted_c C t N hC ht) (h := ?_) | refine z_s (l03Fitted_c C t N hC ht) (h := ?_))
  cases h5 : (fdL C t N).all fin with
  | false =>
    refine V5 ?_
    (first | (refine c_q (l03Given_f (fdL C t N) (by omega) h5) (h := ?_)) | (refine z_q (l03Given_f (fdL C t N) (by omega) h5) (h := ?_)))
    rw [show ifAllF (fdL C t N) = ([], false) by simp only [ifAllF, h5]; rfl]
    refine V5 ?_
    (refine u_1 ?_; (repeat' (first | exact RetRelL.nil | refine RetRel.nil rfl ?_ | refine RetRelL.cons ?_ ?_ | refine rr_tup ?_ | refine rr_agg ?_ | refine rr_own rfl ?_ | exact RetRel.arg | exact RetRel.argc | refine rr_t ?_)); all_goals rfl)
  | true =>
    refine V5 ?_
    (first | (refine c_q (l03Given_t (fdL C t N) (by omega) h5) (h := ?_)) | (refine z_q (l03Given_t (fdL C t N) (by omega) h5) (h := ?_)))
    rw [show ifAllF (fdL C t N) = (fdL C t N, true) by simp only [ifAllF, h5]; rfl]
    refine V5 ?_
    refine ret_ok tyOk (by first | exact .inr rfl | exact .inl rfl) (pi1 (cid 23 0)) rfl (by repeat (first | exact .nil | (apply ResAl.cons; first | exact .tmp | exact .cell rfl rfl rfl rfl rfl rfl | exact .cell1 rfl rfl rfl rfl rfl))) ?_ ⟨rfl, trivial⟩ (injO_1 _ _ _)
    repeat' (first | exact RetRelL.nil | refine RetRel.nil rfl ?_ | refine RetRelL.cons ?_ ?_ | refine rr_tup ?_ | refine rr_agg ?_ | refine rr_own rfl ?_ | exact RetRel.arg | exact RetRel.argc | refine rr_t ?_)
    all_goals first | rfl | exact hfl.symm
end Go.Proofs.Ytpdnjcblkjjegaa

