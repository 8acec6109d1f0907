import Derived.Test.YtpdnjcblkjjegaaVT148
set_option linter.unusedVariables false
set_option linter.unusedSimpArgs false
set_option maxRecDepth 20000
set_option maxHeartbeats 8000000
namespace Go.Proofs.Ytpdnjcblkjjegaa
open Go.Aw
attribute [local irreducible] QRun LexD AWp TCall TMut fop fint fcmp fconv gM gOk gB gI fitF solF fdN fdL dotN zsub

/-! ### what is left beside the fitted, rows of a series: the reference's -/
theorem specRest_c (C : List (List Nat)) (y : List Nat) (N : Nat) (hC : ColsV C N) (hy : y.length = N) (hs : isSer y = true) :
    TCall Try.prog 70 [.ffl C, .fl y] (opR (rfF C y)) (opH (rfF C y)) := by
  have hN := hC.n96
  have hhi := hC.hi
  refine tcall_of Try.func70 rfl (by kernel_rfl) (Nat.le_of_ble_eq_true rfl) rfl ?_
  simp only [argsL, argAV, argCs, argS]
  refine V5 ?_
  (first | refine c_s (specColumnFit_c C y N hC hy hs) (h := ?_) | refine z_s (specColumnFit_c C y N hC hy hs) (h := ?_))
  refine V5 ?_
  refine awp_if rfl (fun h1 => ?_) (fun h1 => ?_)
  · simp only [Bool.not_eq_true'] at h1
    rw [rfF_no (by unfold rfOk; rw [h1]; rfl)]
    refine V5 ?_
    (refine u_1 ?_; (repeat' (first | exact RetRelL.nil | refine RetRel.nil rfl ?_ | refine RetRelL.cons ?_ ?_ | refine rr_tup ?_ | refine rr_agg ?_ | refine rr_own rfl ?_ | exact RetRel.arg | exact RetRel.argc | refine rr_t ?_)); all_goals rfl)
  simp only [Bool.not_eq_false'] at h1
  obtain ⟨ht, hf⟩ := fit_ok h1
  have hOk : rfOk C y = ((fdL C (fitF C y).1 y.length).all fin && ((rfD C y).all fin && fin (dotF (rfD C y) (rfD C y)))) := by unfold rfOk; rw [h1]; rfl
  have hD : rfD C y = zsub y (fdL C (fitF C y).1 y.length) := rfl
  generalize htt : (fitF C y).1 = t at *
  rw [hy] at hOk hD
  have hfl := fdL_len C t N
  refine V5 ?_
  (first | refine c_s (fittedOf_c C t N hC ht hf) (h := ?_) | refine z_s (fittedOf_c C t N hC ht hf) (h := ?_))
  cases h5 : (fdL C t N).all fin with
  | false =>
    rw [show ifAllF (fdL C t N) = ([], false) by simp only [ifAllF, h5]; rfl]
    rw [rfF_no (by rw [hOk, h5]; rfl)]
    refine V5 ?_
    try refine awp_ifT rfl rfl ?_
    refine V5 ?_
    (refine u_1 ?_; (repeat' (first | exact RetRelL.nil | refine RetRel.nil rfl ?_ | refine RetRelL.cons ?_ ?_ | refine rr_tup ?_ | refine rr_agg ?_ | refine rr_own rfl ?_ | exact RetRel.arg | exact RetRel.argc | refine rr_t ?_)); all_goals rfl)
  | true =>
  rw [show ifAllF (fdL C t N) = (fdL C t N, true) by simp only [ifAllF, h5]; rfl]
  rw [h5, Bool.true_and] at hOk
  generalize hFf : fdL C t N = F at *
  have hdl : (rfD C y).length = N := by rw [hD, zsub_len, hy]
  have hdg : ∀ j, j < N → (rfD C y).getD j 0 = fop .sub .f32 (y.getD j 0) (F.getD (0 + j) 0) := fun j hj => by rw [hD, Nat.zero_add]; exact zsub_get (by omega)
  have hdd : dotF (rfD C y) (rfD C y) = dotN (rfD C y) (rfD C y) N := by unfold dotF; rw [hdl]
  have hno := @rfF_no C y
  have hyes := @rfF_yes C y
  rw [hdd] at hOk hyes
  generalize rfD C y = D at *
  refine V5 ?_
  try refine awp_ifF rfl rfl ?_
  refine V5 ?_
  refine awp_loop (X := Nat) (fun j => j ≤ N) (fun j => [(1, .arg 1 (.fl y)), (9, .own (cid 26 0) 0 N), (11, .own 31 0 j), (12, .t (.f .f32 (dotN D D j))), (33, .t (.v (.int .i64 (N : Nat)))), (34, .t (.v (.int .i64 (j : Nat))))])
    (fun j => [(cid 26 0, .sl 30 (.fl F)), (31, .sl 30 (.fl (D.take j)))]) (fun j => N - j)
    0 ⟨by omega, fun i => i, ⟨rfl, own_eq hfl, rfl, fE2 (dotN_0 _ _).symm, iE9' (by show ((y.length : Nat) : Int) = _; rw [hy]), rfl, trivial⟩, ⟨rfl, rfl, trivial⟩, injOn_id _⟩ (fun j hj => ?_)
  have hz : (D.take j).length = j := by rw [List.length_take, hdl]; omega
  refine V5 ?_
  refine awp_if rfl (fun h2 => ?_) (fun h2 => ?_)
  · simp only [icmp, decide_eq_true_eq] at h2
    have hg := hdg j (by omega)
    have hy' : j < y.length := by omega
    refine V5 ?_
    (first | refine a_s (hn := by exact hz) (h := ?_) | refine b_s (hn := by exact hz) (h := ?_))
    rw [← hg]
    refine V5 ?_
    exact ⟨j + 1, by omega, by omega, fun i => i, ⟨rfl, rfl, own_eq (by simp only [T.app, T.len, List.length_append, hz]; rfl), fE2 (dotN_S _ _ _).symm, rfl, iE9' (by omega), trivial⟩, ⟨rfl, sl_eq (congrArg T.fl (take_snoc2 (by omega) rfl)), trivial⟩, injOn_id _⟩
  simp only [icmp, decide_eq_false_iff_not] at h2
  obtain rfl : N = j := by omega
  rw [List.take_of_length_le (by omega : D.length ≤ N)]
  refine V5 ?_
  (first | (refine c_q (l02Finite_c D (by omega)) (h := ?_)) | (refine z_q (l02Finite_c D (by omega)) (h := ?_)))
  refine V5 ?_
  refine lex_if rfl rfl rfl (fun h6 => ?_) (fun h6 => ?_)
  · simp only [Bool.not_eq_true'] at h6
    rw [hno (by rw [hOk, h6]; rfl)]
    refine V5 ?_
    refine awp_ifT rfl rfl ?_
    refine V5 ?_
    (refine u_1 ?_; (repeat' (first | exact RetRelL.nil | refine RetRel.nil rfl ?_ | refine RetRelL.cons ?_ ?_ | refine rr_tup ?_ | refine rr_agg ?_ | refine rr_own rfl ?_ | exact RetRel.arg | exact RetRel.argc | refine rr_t ?_)); all_goals rfl)
  simp only [Bool.not_eq_false'] at h6
  rw [h6, Bool.true_and] at hOk
  refine V5 ?_
  (first | (refine c_q (l01Finite_c (dotN D D N)) (h := ?_)) | (refine z_q (l01Finite_c (dotN D D N)) (h := ?_)))
  refine V5 ?_
  refine awp_if rfl (fun h7 => ?_) (fun h7 => ?_)
  · simp only [Bool.not_eq_true'] at h7
    rw [hno (by rw [hOk, h7])]
    refine V5 ?_
    (refine u_1 ?_; (repeat' (first | exact RetRelL.nil | refine RetRel.nil rfl ?_ | refine RetRelL.cons ?_ ?_ | refine rr_tup ?_ | refine rr_agg ?_ | refine rr_own rfl ?_ | exact RetRel.arg | exact RetRel.argc | refine rr_t ?_)); all_goals rfl)
  simp only [Bool.not_eq_false'] at h7
  rw [hyes (by rw [hOk, h7])]
  refine V5 ?_
  refine ret_ok tyOk (by first | exact .inr rfl | exact .inl rfl) (pi1 31) rfl (by repeat (first | exact .nil | (apply ResAl.cons; first | exact .tmp | exact .cell rfl rfl rfl rfl rfl rfl | exact .cell1 rfl rfl rfl rfl rfl))) ?_ ⟨rfl, trivial⟩ (injO_1 _ _ _)
  repeat' (first | exact RetRelL.nil | refine RetRel.nil rfl ?_ | refine RetRelL.cons ?_ ?_ | refine rr_tup ?_ | refine rr_agg ?_ | refine rr_own rfl ?_ | exact RetRel.arg | exact RetRel.argc | refine rr_t ?_)
  all_goals first | rfl | exact hdl.symm

theorem take_all_fin {l : List Nat} (n : Nat) (h : l.all fin = true) : (l.take n).all fin = true := List.all_eq_true.2 fun x hx => List.all_eq_true.1 h x (List.mem_of_mem_take hx)
theorem drop_all_fin {l : List Nat} (n : Nat) (h : l.all fin = true) : (l.drop n).all fin = true := List.all_eq_true.2 fun x hx => List.all_eq_true.1 h x (List.mem_of_mem_drop hx)
theorem isSer_mk {l : List Nat} (h1 : 1 ≤ l.length) (h2 : l.length ≤ 96) (h3 : l.all fin = true) : isSer l = true := by
  unfold isSer; rw [h3]; simp; omega
theorem isSer_all {l : List Nat} (h : isSer l = true) : l.all fin = true := by simp only [isSer, Bool.and_eq_true] at h; exact h.2
theorem lagC_get0 (a : List Nat) (L : Nat) : (lagC a L).getD 0 [] = List.replicate (a.length - L) 1065353216 := by unfold lagC; rfl
theorem lagC_getS {a : List Nat} {L m : Nat} (h : m < L) : (lagC a L).getD (m + 1) [] = (a.take (a.length - (m + 1))).drop (L - (m + 1)) := by
  unfold lagC
  simp [List.getD_eq_getElem?_getD, h]
theorem lagC_cols {a : List Nat} {L : Nat} (ha : isSer a = true) (hL : 1 ≤ L ∧ L ≤ 5) (hLa : L < a.length) : ColsV (lagC a L) (a.length - L) := by
  have hl := isSer_len ha
  have hf := isSer_all ha
  have hlen : ∀ i, i < (lagC a L).length → ((lagC a L).getD i []).length = a.length - L := fun i hi => by
    rw [lagC_len] at hi
    cases i with
    | zero => rw [lagC_get0]; simp
    | succ m => rw [lagC_getS (by omega)]; simp; omega
  refine ⟨by rw [lagC_len]; omega, by rw [lagC_len]; omega, hlen, fun i hi => ?_, by omega⟩
  have hli := hlen i hi
  refine isSer_mk (by omega) (by omega) ?_
  rw [lagC_len] at hi
  cases i with
  | zero => rw [lagC_get0]; exact List.all_eq_true.2 fun x hx => by rw [(List.mem_replicate.1 hx).2]; decide +kernel
  | succ m => rw [lagC_getS (by omega)]; exact drop_all_fin _ (take_all_fin _ hf)
theorem drop_ser {a : List Nat} {L : Nat} (ha : isSer a = true) (hLa : L < a.length) : isSer (a.drop L) = true := by
  have hl := isSer_len ha
  exact isSer_mk (by rw [List.length_drop]; omega) (by rw [List.length_drop]; omega) (drop_all_fin _ (isSer_all ha))
/-- the columns of a series are columns -/
theorem colF_cases (a : List Nat) (L : Int) : (colF a L = ⟨[], [], false⟩) ∨ ((colF a L).ok = true ∧ ∃ N, ColsV (colF a L).c N ∧ (colF a L).y.length = N ∧ isSer (colF a L).y = true) := by
  by_cases h : isSer a = true ∧ inR L 1 5 = true ∧ L < (a.length : Nat)
  · right
    obtain ⟨h1, h2, h3⟩ := h
    have hr := inR_t.1 h2
    obtain ⟨n, rfl⟩ : ∃ n : Nat, L = (n : Int) := ⟨L.toNat, by omega⟩
    rw [colF_yes h1 h2 (by omega)]
    exact ⟨rfl, a.length - n, lagC_cols h1 (by omega) (by omega), by simp, drop_ser h1 (by omega)⟩
  · exact .inl (colF_no h)

theorem specOwnRows_c (a : List Nat) (L : Int) (ha : a.length ≤ 1048576) : TCall Try.prog 27 [.fl a, .v (.int .i64 L)] (opR (orF a L)) (opH (orF a L)) := by
  refine tcall_of Try.func27 rfl (by kernel_rfl) (Nat.le_of_ble_eq_true rfl) rfl ?_
  simp only [argsL, argAV, argCs, argS]
  refine V5 ?_
  (first | (refine c_s (specCols_c a L (by omega)) (h := ?_)) | (refine z_s (specCols_c a L (by omega)) (h := ?_)))
  refine V5 ?_
  rcases colF_cases a L with hc | ⟨hok, N, hC, hy, hs⟩
  · rw [show orF a L = ⟨[], 0, false⟩ by unfold orF; rw [hc]; rfl, hc]
    refine V5 ?_
    refine awp_ifT rfl rfl ?_
    refine V5 ?_
    (refine u_1 ?_; (repeat' (first | exact RetRelL.nil | refine RetRel.nil rfl ?_ | refine RetRelL.cons ?_ ?_ | refine rr_tup ?_ | refine rr_agg ?_ | refine rr_own rfl ?_ | exact RetRel.arg | exact RetRel.argc | refine rr_t ?_)); all_goals rfl)
  have hF : orF a L = if (rfF (colF a L).c (colF a L).y).ok then ⟨(fitF (colF a L).c (colF a L).y).1, fop .quo .f32 (rfF (colF a L).c (colF a L).y).s (fint .f32 ((colF a L).y.length : Nat)), true⟩ else ⟨[], 0, false⟩ := by unfold orF; rw [hok, Bool.true_and]
  generalize hr : colF a L = r at *
  have hN := hC.n96
  have hhi := hC.hi
  have hf16 := fitF_le r.c r.y
  have hbad : (fitF r.c r.y).2 = false → (rfF r.c r.y) = ⟨[], 0, false⟩ := fun h => rfF_no (by unfold rfOk; rw [h]; rfl)
  have hgood : (rfF r.c r.y).ok = true → (fitF r.c r.y).2 = true := fun h => by
    cases h2 : (fitF r.c r.y).2 with
    | true => rfl
    | false => rw [hbad h2] at h; cases h
  rw [hok]
  refine V5 ?_
  refine awp_ifF rfl rfl ?_
  refine V5 ?_
  (first | refine c_s (specColumnFit_c r.c r.y N hC hy hs) (h := ?_) | refine z_s (specColumnFit_c r.c r.y N hC hy hs) (h := ?_))
  refine V5 ?_
  (first | refine c_s (specRest_c r.c r.y N hC hy hs) (h := ?_) | refine z_s (specRest_c r.c r.y N hC hy hs) (h := ?_))
  refine V5 ?_
  cases h2 : (rfF r.c r.y).ok with
  | false =>
    rw [h2] at hF
    rw [hF, if_neg (by decide)]
    cases h3 : (fitF r.c r.y).2 with
    | false =>
      refine V5 ?_
      try refine awp_ifT rfl rfl ?_
      refine V5 ?_
      (refine u_1 ?_; (repeat' (first | exact RetRelL.nil | refine RetRel.nil rfl ?_ | refine RetRelL.cons ?_ ?_ | refine rr_tup ?_ | refine rr_agg ?_ | refine rr_own rfl ?_ | exact RetRel.arg | exact RetRel.argc | refine rr_t ?_)); all_goals rfl)
    | true =>
      refine V5 ?_
      try refine awp_ifT rfl rfl ?_
      refine V5 ?_
      (refine u_1 ?_; (repeat' (first | exact RetRelL.nil | refine RetRel.nil rfl ?_ | refine RetRelL.cons ?_ ?_ | refine rr_tup ?_ | refine rr_agg ?_ | refine rr_own rfl ?_ | exact RetRel.arg | exact RetRel.argc | refine rr_t ?_)); all_goals rfl)
  | true =>
    rw [h2] at hF
    rw [hF, if_pos rfl, hgood h2]
    refine V5 ?_
    try refine awp_ifF rfl rfl ?_
    refine V5 ?_
    refine ret_ok tyOk (by first | exact .inr rfl | exact .inl rfl) (pi1 (cid 27 0)) rfl (by repeat (first | exact .nil | (apply ResAl.cons; first | exact .tmp | exact .cell rfl rfl rfl rfl rfl rfl | exact .cell1 rfl rfl rfl rfl rfl))) ?_ ⟨rfl, trivial⟩ (injO_1 _ _ _)
    repeat' (first | exact RetRelL.nil | refine RetRel.nil rfl ?_ | refine RetRelL.cons ?_ ?_ | refine rr_tup ?_ | refine rr_agg ?_ | refine rr_own rfl ?_ | exact RetRel.arg | exact RetRel.argc | refine rr_t ?_)
    all_goals rfl
end Go.Proofs.Ytpdnjcblkjjegaa

set_option linter.unusedVariables false
set_option linter.unusedSimpArgs false
set_option maxRecDepth 20000
set_option maxHeartbeats 8000000
namespace Go.Proofs.Ytpdnjcblkjjegaa
open Go.Aw
attribute [local irreducible] QRun LexD AWp TCall TMut fop fint fcmp fconv

/-! ### columns of the program -/
def idxO (p : List Nat → Bool) (l : List (List Nat)) : Int := if l.any p then (l.findIdx p : Nat) else -1
theorem idxO_hit {p : List Nat → Bool} {l : List (List Nat)} {i : Nat} (hi : i < l.length) (h0 : ∀ j, j < i → p (l.getD j []) = false) (h : p (l.getD i []) = true) : idxO p l = i := by
  have e1 : l.getD i [] = l[i] := by simp [List.getD_eq_getElem?_getD, hi]
  have ha : l.any p = true := List.any_eq_true.2 ⟨l[i], List.getElem_mem hi, by rw [← e1]; exact h⟩
  have hf : l.findIdx p = i := by
    refine (List.findIdx_eq hi).2 ⟨by rw [← e1]; exact h, fun j hj => ?_⟩
    have hj' : j < l.length := by omega
    have := h0 j hj
    rw [show l.getD j [] = l[j] by simp [List.getD_eq_getElem?_getD, hj']] at this
    simpa using this
  unfold idxO; rw [ha, hf]; rfl
theorem idxO_miss {p : List Nat → Bool} {l : List (List Nat)} (h0 : ∀ j, j < l.length → p (l.getD j []) = false) : idxO p l = -1 := by
  have ha : l.any p = false := by
    cases h : l.any p with
    | false => rfl
    | true =>
      obtain ⟨c, hc, hp⟩ := List.any_eq_true.1 h
      obtain ⟨j, hj, rfl⟩ := List.getElem_of_mem hc
      have := h0 j hj
      rw [show l.getD j [] = l[j] by simp [List.getD_eq_getElem?_getD, hj]] at this
      rw [hp] at this; cases this
  unfold idxO; rw [ha]; rfl
theorem idxFuncO_c (g : Nat) (ts : List T) (p : List Nat → Bool) (l : List (List Nat)) (hl : l.length ≤ 9223372036854775807) (hg : ∀ i, i < l.length → TCall Try.prog g (.fl (l.getD i []) :: ts) (.t (.v (.bool (p (l.getD i []))))) []) :
    TCall Try.prog 133 [.ffl l, .fn g ts] (.t (.v (.int .i64 (idxO p l)))) [] := by
  refine tcall_of Try.func133 rfl (by kernel_rfl) (Nat.le_of_ble_eq_true rfl) rfl ?_
  simp only [argsL, argAV, argCs, argS]
  refine V3 ?_
  refine awp_loop (X := Nat) (fun i => i ≤ l.length ∧ ∀ j, j < i → p (l.getD j []) = false) (fun i => [(0, .arg 0 (.ffl l)), (1, .arg 1 (.fn g ts)), (7, .t (.v (.int .i64 l.length))), (8, .t (.v (.int .i64 i)))]) (fun _ => []) (fun i => l.length - i)
    0 ⟨⟨by omega, fun j hj => by omega⟩, fun i => i, ⟨rfl, rfl, rfl, rfl, trivial⟩, trivial, injOn_id _⟩ (fun i hi => ?_)
  refine V3 ?_
  refine awp_if rfl (fun h => ?_) (fun h => ?_)
  · simp only [icmp, decide_eq_true_eq] at h
    refine V3 ?_
    refine c_q (hg i (by omega)) (h := ?_)
    refine V3 ?_
    refine awp_if rfl (fun h1 => ?_) (fun h1 => ?_)
    · refine V3 ?_
      refine u_0 ?_
      repeat' (first | exact RetRelL.nil | refine RetRel.nil rfl ?_ | refine RetRelL.cons ?_ ?_ | refine rr_tup ?_ | refine rr_agg ?_ | refine rr_own rfl ?_ | exact RetRel.arg | exact RetRel.argc | refine rr_t ?_)
      rw [idxO_hit (by omega) hi.2 h1]
    · refine V3 ?_
      exact ⟨i + 1, by omega, ⟨by omega, fun j hj => (Nat.lt_or_eq_of_le (Nat.le_of_lt_succ hj)).elim (fun hj' => hi.2 j hj') (fun hj' => by rw [hj']; exact h1)⟩, fun i => i, ⟨rfl, rfl, rfl, rfl, trivial⟩, trivial, injOn_id _⟩
  · simp only [icmp, decide_eq_false_iff_not] at h
    refine V3 ?_
    refine u_0 ?_
    repeat' (first | exact RetRelL.nil | refine RetRel.nil rfl ?_ | refine RetRelL.cons ?_ ?_ | refine rr_tup ?_ | refine rr_agg ?_ | refine rr_own rfl ?_ | exact RetRel.arg | exact RetRel.argc | refine rr_t ?_)
    rw [idxO_miss (fun j hj => hi.2 j (by omega))]
theorem containsFuncO_c (g : Nat) (ts : List T) (p : List Nat → Bool) (l : List (List Nat)) (hl : l.length ≤ 9223372036854775807) (hg : ∀ i, i < l.length → TCall Try.prog g (.fl (l.getD i []) :: ts) (.t (.v (.bool (p (l.getD i []))))) []) :
    TCall Try.prog 125 [.ffl l, .fn g ts] (.t (.v (.bool (l.any p)))) [] := by
  refine tcall_of Try.func125 rfl (by kernel_rfl) (Nat.le_of_ble_eq_true rfl) rfl ?_
  simp only [argsL, argAV, argCs, argS]
  refine V3 ?_
  refine c_q (idxFuncO_c g ts p l hl hg) (h := ?_)
  refine V3 ?_
  refine u_0 ?_
  repeat' (first | exact RetRelL.nil | refine RetRel.nil rfl ?_ | refine RetRelL.cons ?_ ?_ | refine rr_tup ?_ | refine rr_agg ?_ | refine rr_own rfl ?_ | exact RetRel.arg | exact RetRel.argc | refine rr_t ?_)
  unfold idxO
  cases l.any p <;> simp [icmp]

def cpF (N : Nat) (l : List Nat) : Bool := !isSer l || decide (l.length ≠ N)
theorem cols_any {C : List (List Nat)} {N : Nat} (hC : ColsV C N) : C.any (cpF N) = false := by
  cases h : C.any (cpF N) with
  | false => rfl
  | true =>
    obtain ⟨l, hl, hp⟩ := List.any_eq_true.1 h
    obtain ⟨i, hi, rfl⟩ := List.getElem_of_mem hl
    have h1 := hC.len i hi
    have h2 := hC.ser i hi
    rw [List.getD_eq_getElem?_getD, List.getElem?_eq_getElem hi, Option.getD_some] at h1 h2
    unfold cpF at hp
    rw [h2, h1] at hp
    simp at hp
theorem areColumns1_c (l : List Nat) (n : Nat) (hs : isSer l = true) (hn : l.length = n) :
    TCall Try.prog 126 [.fl l, .ref [.v (.int .i64 (n : Nat))]] (.t (.v (.bool (cpF n l)))) [] := by
  have hl := isSer_len hs
  have hc : cpF n l = false := by unfold cpF; rw [hs, hn]; simp
  refine tcall_of Try.func126 rfl (by kernel_rfl) (Nat.le_of_ble_eq_true rfl) rfl ?_
  simp only [argsL, argAV, argCs, argS]
  refine V1 ?_
  (first | (refine c_q (implSer_c l (by omega)) (h := ?_)) | (refine z_q (implSer_c l (by omega)) (h := ?_)))
  rw [hs, hc]
  refine V1 ?_
  refine u_0 ?_
  repeat' (first | exact RetRelL.nil | refine RetRel.nil rfl ?_ | refine RetRelL.cons ?_ ?_ | refine rr_tup ?_ | refine rr_agg ?_ | refine rr_own rfl ?_ | exact RetRel.arg | exact RetRel.argc | refine rr_t ?_)
  simp [icmp, T.len, hn]
theorem areColumns_c (C : List (List Nat)) (N : Nat) (hC : ColsV C N) : TCall Try.prog 102 [.ffl C, .v (.int .i64 (N : Nat))] (.t (.v (.bool true))) [] := by
  have hlo := hC.lo
  have hhi := hC.hi
  have hN := hC.n96
  refine tcall_of Try.func102 rfl (by kernel_rfl) (Nat.le_of_ble_eq_true rfl) rfl ?_
  simp only [argsL, argAV, argCs, argS]
  refine V1 ?_
  refine lex_if rfl rfl rfl (fun h1 => ?_) (fun h1 => ?_)
  · simp only [icmp, decide_eq_true_eq] at h1
    refine V1 ?_
    refine lex_if rfl rfl rfl (fun h2 => ?_) (fun h2 => ?_)
    · simp only [icmp, decide_eq_true_eq] at h2
      refine V1 ?_
      (first | (refine c_q (containsFuncO_c _ [.ref [.v (.int .i64 (N : Nat))]] (cpF N) C (by omega) (fun i hi => areColumns1_c (C.getD i []) N (hC.ser i hi) (hC.len i hi))) (h := ?_)) | (refine z_q (containsFuncO_c _ [.ref [.v (.int .i64 (N : Nat))]] (cpF N) C (by omega) (fun i hi => areColumns1_c (C.getD i []) N (hC.ser i hi) (hC.len i hi))) (h := ?_)))
      rw [cols_any hC]
      refine V1 ?_
      (refine u_0 ?_; (repeat' (first | exact RetRelL.nil | refine RetRel.nil rfl ?_ | refine RetRelL.cons ?_ ?_ | refine rr_tup ?_ | refine rr_agg ?_ | refine rr_own rfl ?_ | exact RetRel.arg | exact RetRel.argc | refine rr_t ?_)); all_goals rfl)
    · simp only [icmp, decide_eq_false_iff_not] at h2
      exfalso; omega
  · simp only [icmp, decide_eq_false_iff_not] at h1
    exfalso; omega

/-! the fitted -/
def fdP (C : List (List Nat)) (t : List Nat) (N i : Nat) : List Nat := (List.range N).map fun j => fdN C t j i
theorem fdP_len (C : List (List Nat)) (t : List Nat) (N i : Nat) : (fdP C t N i).length = N := by simp [fdP]
theorem fdP_get {C : List (List Nat)} {t : List Nat} {N i j : Nat} (h : j < N) : (fdP C t N i).getD j 0 = fdN C t j i := getD_mapR _ h
theorem fdP_0 (C : List (List Nat)) (t : List Nat) (N : Nat) : fdP C t N 0 = List.replicate N 0 := by
  refine list_ext (by simp [fdP]) fun j hj => ?_
  rw [fdP_len] at hj
  rw [fdP_get hj]
  simp [fdN, List.getD_eq_getElem?_getD, hj]
/-- the first j are a step on -/
def fdQ (C : List (List Nat)) (t : List Nat) (N i j : Nat) : List Nat := (List.range N).map fun x => if x < j then fdN C t x (i + 1) else fdN C t x i
theorem fdQ_len (C : List (List Nat)) (t : List Nat) (N i j : Nat) : (fdQ C t N i j).length = N := by simp [fdQ]
theorem fdQ_get {C : List (List Nat)} {t : List Nat} {N i j x : Nat} (h : x < N) : (fdQ C t N i j).getD x 0 = if x < j then fdN C t x (i + 1) else fdN C t x i := getD_mapR _ h
theorem fdQ_0 (C : List (List Nat)) (t : List Nat) (N i : Nat) : fdQ C t N i 0 = fdP C t N i := rfl
theorem fdQ_N (C : List (List Nat)) (t : List Nat) (N i : Nat) : fdQ C t N i N = fdP C t N (i + 1) := by
  refine list_ext (by simp [fdP, fdQ]) fun j hj => ?_
  rw [fdQ_len] at hj
  rw [fdQ_get hj, fdP_get hj, if_pos hj]
theorem fdQ_S {C : List (List Nat)} {t : List Nat} {N i j : Nat} (h : j < N) : (fdQ C t N i j).set j (fop .add .f32 ((fdQ C t N i j).getD j 0) (fop .mul .f32 ((C.getD i []).getD j 0) (t.getD i 0))) = fdQ C t N i (j + 1) := by
  refine list_ext (by simp [fdQ]) fun x hx => ?_
  rw [List.length_set, fdQ_len] at hx
  rw [fdQ_get hx, fdQ_get h, if_neg (Nat.lt_irrefl j), ← fdN_S, List.getD_eq_getElem?_getD, List.getElem?_set]
  by_cases hxj : j = x
  · subst hxj
    rw [if_pos rfl, if_pos (by rw [fdQ_len]; exact h), if_pos (Nat.lt_succ_self j)]; rfl
  · rw [if_neg hxj, ← List.getD_eq_getElem?_getD, fdQ_get hx]
    by_cases hlt : x < j
    · rw [if_pos hlt, if_pos (by omega)]
    · rw [if_neg hlt, if_neg (by omega)]
theorem fdP_n (C : List (List Nat)) (t : List Nat) (N : Nat) : fdP C t N C.length = fdL C t N := rfl
end Go.Proofs.Ytpdnjcblkjjegaa

set_option linter.unusedVariables false
set_option linter.unusedSimpArgs false
set_option maxRecDepth 20000
set_option maxHeartbeats 8000000
namespace Go.Proofs.Ytpdnjcblkjjegaa
open Go.Aw
attribute [local irreducible] QRun LexD AWp TCall TMut fop fint fcmp fconv gM gOk gB gI fitF solF fdN fdL dotN dotF zsub fdP fdQ

theorem fitted_c (C : List (List Nat)) (t : List Nat) (N : Nat) (hC : ColsV C N) (ht : t.length = C.length) :
    TCall Try.prog 105 [.ffl C, .fl t] (.own 0 N) [(0, .sl 30 (.fl (fdL C t N)))] := by
  have hN := hC.n96
  have hlo := hC.lo
  have hhi := hC.hi
  have hlen := hC.len
  have hl0 := hlen 0 (by omega)
  refine tcall_of Try.func105 rfl (by kernel_rfl) (Nat.le_of_ble_eq_true rfl) rfl ?_
  simp only [argsL, argAV, argCs, argS]
  refine V1 ?_
  try (first | (refine w_r (q_idx_tree (0) tyOk rfl rfl rfl rfl rfl rfl rfl rfl (by omega) (by first | omega | (simp only [T.len]; omega) | assumption)) (h := ?_)) | (refine y_r (q_idx_tree (0) tyOk rfl rfl rfl rfl rfl rfl rfl rfl (by omega) (by first | omega | (simp only [T.len]; omega) | assumption)) (h := ?_)))
  refine V1 ?_
  refine w_rs (q_make N tyOk rfl rfl rfl rfl rfl rfl rfl rfl rfl (by show (((C.getD 0 []).length : Nat) : Int) = _; rw [hl0]) rfl (by simp only []; omega) (by omega)) (h := ?_)
  refine V1 ?_
  refine awp_loop (X := Nat) (fun i => i ≤ C.length) (fun i => [(1, .arg 1 (.fl t)), (5, .own 14 0 N), (15, .arg 0 (.ffl C)), (16, .t (.v (.int .i64 (C.length : Nat)))), (17, .t (.v (.int .i64 (i : Nat))))])
    (fun i => [(14, .sl 30 (.fl (fdP C t N i)))]) (fun i => C.length - i)
    0 ⟨by omega, fun i => i, ⟨rfl, rfl, rfl, rfl, rfl, trivial⟩, ⟨sl_eq (congrArg T.fl (fdP_0 C t N).symm), trivial⟩, injOn_id _⟩ (fun i hi => ?_)
  have hpl := fdP_len C t N i
  refine V1 ?_
  refine awp_if rfl (fun h2 => ?_) (fun h2 => ?_)
  · simp only [icmp, decide_eq_true_eq] at h2
    have hic : i < C.length := by omega
    have hli := hlen i hic
    refine V1 ?_
    refine awp_loop (X := Nat) (fun j => j ≤ N) (fun j => [(1, .arg 1 (.fl t)), (5, .own 14 0 N), (6, .t (.v (.int .i64 (i : Nat)))), (15, .arg 0 (.ffl C)), (16, .t (.v (.int .i64 (C.length : Nat)))), (17, .t (.v (.int .i64 (i : Nat)))), (22, .old (.fl (C.getD i []))), (23, .t (.v (.int .i64 (N : Nat)))), (24, .t (.v (.int .i64 (j : Nat))))])
      (fun j => [(14, .sl 30 (.fl (fdQ C t N i j)))]) (fun j => N - j)
      0 ⟨by omega, fun i => i, ⟨rfl, rfl, rfl, rfl, rfl, rfl, rfl, iE9' (by show (((C.getD i []).length : Nat) : Int) = _; rw [hli]), rfl, trivial⟩, ⟨sl_eq (congrArg T.fl (fdQ_0 C t N i).symm), trivial⟩, injOn_id _⟩ (fun j hj => ?_)
    have hql := fdQ_len C t N i j
    refine V1 ?_
    refine awp_if rfl (fun h3 => ?_) (fun h3 => ?_)
    · simp only [icmp, decide_eq_true_eq] at h3
      have hjN : j < N := by omega
      have hS := fdQ_S (C := C) (t := t) (i := i) hjN
      refine V1 ?_
      exact ⟨j + 1, by omega, by omega, fun i => i, ⟨rfl, rfl, rfl, rfl, rfl, rfl, rfl, rfl, iE9' (by omega), trivial⟩, ⟨sl_eq (congrArg T.fl (by rw [← hS, Nat.zero_add])), trivial⟩, injOn_id _⟩
    simp only [icmp, decide_eq_false_iff_not] at h3
    obtain rfl : N = j := by omega
    rw [fdQ_N]
    refine V1 ?_
    exact ⟨i + 1, by omega, by omega, fun i => i, ⟨rfl, rfl, rfl, rfl, iE9' (by omega), trivial⟩, ⟨rfl, trivial⟩, injOn_id _⟩
  simp only [icmp, decide_eq_false_iff_not] at h2
  obtain rfl : C.length = i := by omega
  rw [fdP_n]
  refine V1 ?_
  refine ret_ok tyOk (by first | exact .inr rfl | exact .inl rfl) (pi1 14) rfl (by repeat (first | exact .nil | (apply ResAl.cons; first | exact .tmp | exact .cell rfl rfl rfl rfl rfl rfl | exact .cell1 rfl rfl rfl rfl rfl))) ?_ ⟨rfl, trivial⟩ (injO_1 _ _ _)
  repeat' (first | exact RetRelL.nil | refine RetRel.nil rfl ?_ | refine RetRelL.cons ?_ ?_ | refine rr_tup ?_ | refine rr_agg ?_ | refine rr_own rfl ?_ | exact RetRel.arg | exact RetRel.argc | refine rr_t ?_)
  all_goals rfl
end Go.Proofs.Ytpdnjcblkjjegaa

