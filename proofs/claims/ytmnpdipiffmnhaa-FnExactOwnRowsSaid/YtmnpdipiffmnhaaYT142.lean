import Derived.Test.YtmnpdipiffmnhaaYT141
import Derived.Test.YtmnpdipiffmnhaaZAwN
set_option linter.unusedVariables false
set_option linter.unusedSimpArgs false
set_option maxRecDepth 20000
set_option maxHeartbeats 8000000
namespace Go.Proofs.Ytmnpdipiffmnhaa
open Go.Aw

/-! ### rows that are data, and one that is not yet -/
def NL (R : List (List Nat)) : List AV := R.map fun r => .t (.fl r)
theorem NL_len (R : List (List Nat)) : (NL R).length = R.length := by simp [NL]
theorem NL_good (R : List (List Nat)) : GoodN [] (NL R) := fun v hv j hj => by
  obtain ⟨t, _, rfl⟩ := List.mem_map.1 hv
  simp [AV.ids] at hj
theorem own1_good (i n : Nat) : GoodN [i] [.own i 0 n] := fun v hv j hj => by
  simp only [List.mem_singleton] at hv
  subst hv
  simp only [AV.ids, List.mem_singleton] at hj
  subst hj; exact .inr (by simp)
theorem NL_ren (R : List (List Nat)) {k : Nat} {v : AV} (hv : (NL R)[k]? = some v) : v = ren (fun i => i) v := by
  obtain ⟨r, _, rfl⟩ := List.mem_map.1 (List.mem_of_getElem? hv); rfl
theorem NL_same {η η' : Hp} {R : List (List Nat)} {i : Nat} {e : TypeId} (h1 : η i = some (.nest e (NL R) [] noRem)) : BTo (fun i => i) η η' i (.nest e (NL R) [] noRem) :=
  .inl ⟨_, _, h1, NL_good R, rfl, fun k v hv => ⟨v, hv, .inl (NL_ren R hv)⟩⟩
theorem NL_bto {η η' : Hp} {R : List (List Nat)} {r : List Nat} {i len id : Nat} {e ef : TypeId} {vis : List Nat} (h1 : η i = some (.nest e (NL R ++ [.own id 0 len]) vis noRem)) (hv : vis = [id]) (h2 : η id = some (.sl ef (.fl r))) (hl : len = r.length) (h3 : (η' id).isSome = false) :
    BTo (fun i => i) η η' i (.nest e (NL (R ++ [r])) [] noRem) := by
  subst hv; subst hl
  refine .inl ⟨_, _, h1, good_app (NL_good R) (own1_good id _), by rw [NL_len, List.length_append, List.length_append, NL_len]; rfl, fun k v hv => ?_⟩
  have e1 : NL (R ++ [r]) = NL R ++ [.t (.fl r)] := by unfold NL; rw [List.map_append]; rfl
  rw [e1] at hv
  rcases Nat.lt_or_ge k (NL R).length with hk | hk
  · rw [List.getElem?_append_left hk] at hv ⊢
    exact ⟨v, hv, .inl (NL_ren R hv)⟩
  · rw [List.getElem?_append_right hk] at hv ⊢
    have h0 : k - (NL R).length = 0 := by
      cases hn : k - (NL R).length with
      | zero => rfl
      | succ n => rw [hn] at hv; simp at hv
    rw [h0] at hv ⊢
    simp only [List.getElem?_cons_zero, Option.some.injEq] at hv ⊢
    subst hv
    exact ⟨_, rfl, .inr ⟨.fl r, id, ef, rfl, rfl, h2, fun j hj e => by simp only at e; subst e; rw [h3] at hj; cases hj⟩⟩
theorem NL_one {η η' : Hp} {r : List Nat} {i len id : Nat} {e ef : TypeId} {vis : List Nat} (h1 : η i = some (.nest e [.own id 0 len] vis noRem)) (hv : vis = [id]) (h2 : η id = some (.sl ef (.fl r))) (hl : len = r.length) (h3 : (η' id).isSome = false) :
    BTo (fun i => i) η η' i (.nest e (NL [r]) [] noRem) := NL_bto (R := []) h1 hv h2 hl h3
/-- all rows are data: the slice is one of slices of floats -/
theorem NL_ffl {η η' : Hp} {R : List (List Nat)} {i : Nat} {e : TypeId} (h1 : η i = some (.nest e (NL R) [] noRem)) : BTo (fun i => i) η η' i (.sl e (.ffl R)) := by
  refine .inr ⟨_, _, h1, NL_good R, rfl, by rw [NL_len]; rfl, fun k v hv => ?_⟩
  unfold NL at hv
  rw [List.getElem?_map, Option.map_eq_some_iff] at hv
  obtain ⟨r, hr, rfl⟩ := hv
  refine ⟨.fl r, ?_, .inl rfl⟩
  show (R.map T.fl)[k]? = _
  rw [List.getElem?_map, hr]; rfl

/-! ### columns of a series and what was ahead of it -/
def lagC (a : List Nat) (L : Nat) : List (List Nat) := List.replicate (a.length - L) 1065353216 :: (List.range L).map fun l => (a.take (a.length - (l + 1))).drop (L - (l + 1))
theorem lagC_len (a : List Nat) (L : Nat) : (lagC a L).length = L + 1 := by simp [lagC]
theorem lagC_take (a : List Nat) {L m : Nat} (h : m < L) : (lagC a L).take (m + 1) ++ [(a.take (a.length - (m + 1))).drop (L - (m + 1))] = (lagC a L).take (m + 1 + 1) := by
  unfold lagC
  rw [List.take_succ_cons, List.take_succ_cons, List.cons_append, ← List.map_take, ← List.map_take, List.take_range, List.take_range, Nat.min_eq_left (by omega), Nat.min_eq_left (by omega), List.range_succ, List.map_append]
  rfl
theorem lagC_one (a : List Nat) (L : Nat) : (lagC a L).take 1 = [List.replicate (a.length - L) 1065353216] := by simp [lagC]
attribute [local irreducible] QRun LexD AWp TCall TMut fop fint fcmp fconv NL lagC
theorem lagCols_c (a : List Nat) (L : Nat) (hl : 1 ≤ a.length ∧ a.length ≤ 96) (hL : 1 ≤ L ∧ L ≤ 5) (hLa : L < a.length) :
    TCall Try.prog 184 [.fl a, .v (.int .i64 (L : Nat))] (.tup [.own 0 (L + 1), .own 1 (a.length - L)]) [(0, .sl 24 (.ffl (lagC a L))), (1, .sl 30 (.fl (a.drop L)))] := by
  have hfm := famOk_no
  have hcl := lagC_len a L
  have hsub : ((a.length : Int) - (L : Int)) = ((a.length - L : Nat) : Int) := by omega
  refine tcall_of Try.func184 rfl (by kernel_rfl) (Nat.le_of_ble_eq_true rfl) rfl ?_
  simp only [argsL, argAV, argCs, argS]
  repeat (first | (refine w_q (h := ?_)) | (refine w_s (h := ?_)) | (refine w_t (h := ?_)) | (refine w_k (h := ?_)) | (refine y_q (h := ?_)) | (refine y_s (h := ?_)) | (refine y_t (h := ?_)) | (refine y_k (h := ?_)) | (refine lex_nil (by kernel_rfl) ?_) | (refine awp_sq ?_) | (refine awp_rg ?_) | (refine awp_rd (by kernel_rfl) (by kernel_rfl) ?_) | (refine awp_block ?_) | (refine awp_exit ?_) | (refine awp_ret ?_) | (refine awp_skip ?_))
  rw [hsub]
  (first | (refine c_s (ones_c (a.length - L) (by omega) (by omega)) (h := ?_)) | (refine z_s (ones_c (a.length - L) (by omega) (by omega)) (h := ?_)))
  repeat (first | (refine w_q (h := ?_)) | (refine w_s (h := ?_)) | (refine w_t (h := ?_)) | (refine w_k (h := ?_)) | (refine y_q (h := ?_)) | (refine y_s (h := ?_)) | (refine y_t (h := ?_)) | (refine y_k (h := ?_)) | (refine lex_nil (by kernel_rfl) ?_) | (refine awp_sq ?_) | (refine awp_rg ?_) | (refine awp_rd (by kernel_rfl) (by kernel_rfl) ?_) | (refine awp_block ?_) | (refine awp_exit ?_) | (refine awp_ret ?_) | (refine awp_skip ?_))
  refine w_rs (q_bslice_nest (L := [.own (cid 14 0) 0 (a.length - L)]) [cid 14 0] tyOk rfl rfl rfl rfl rfl rfl rfl rfl rfl rfl rfl rfl rfl) (h := ?_)
  first | (refine w_q (h := ?_)) | (refine w_s (h := ?_)) | (refine w_t (h := ?_)) | (refine w_k (h := ?_))
  refine lex_nil (by kernel_rfl) ?_
  refine awp_wk0 [(0, .arg 0 (.fl a)), (1, .t (.v (.int .i64 (L : Nat)))), (6, .t (.v (.int .i64 (a.length : Nat)))), (7, .own 15 0 1)] [(15, .nest 24 (NL ((lagC a L).take 1)) [] noRem)]
    ⟨rfl, rfl, rfl, rfl, trivial⟩ ⟨by rw [lagC_one]; exact NL_one rfl rfl rfl (by simp) rfl, trivial⟩ ?_
  repeat (first | (refine kx_q (h := ?_)) | (refine kxd_q (h := ?_)) | (refine kw_s (h := ?_)) | (refine kw_t (h := ?_)) | (refine kw_k (h := ?_)) | (refine ky_s (h := ?_)) | (refine ky_t (h := ?_)) | (refine ky_k (h := ?_)) | (refine lex_nil (by kernel_rfl) ?_) | (refine awp_sq ?_) | (refine awp_rg ?_) | (refine awp_rd (by kernel_rfl) (by kernel_rfl) ?_) | (refine awp_block ?_) | (refine awp_exit ?_) | (refine awp_ret ?_) | (refine awp_skip ?_))
  refine awp_loopN (X := Nat) (fun m => m ≤ L) (fun m => [(0, .arg 0 (.fl a)), (1, .t (.v (.int .i64 (L : Nat)))), (6, .t (.v (.int .i64 (a.length : Nat)))), (7, .own 15 0 (m + 1)), (8, .t (.v (.int .i64 (m + 1 : Nat))))]) (fun m => ovH (lkH [(15, .nest 24 (NL ((lagC a L).take (m + 1))) [] noRem)]) noFam) (fun m => L - m)
    0 (famN_0 (H := fun m => [(15, .nest 24 (NL ((lagC a L).take (m + 1))) [] noRem)]) 0 (by omega) ⟨rfl, rfl, rfl, rfl, rfl, trivial⟩ ⟨NL_same rfl, trivial⟩) (fun m hm => ?_)
  have hnl : (NL ((lagC a L).take (m + 1))).length = m + 1 := by rw [NL_len, List.length_take, hcl]; omega
  repeat (first | (refine kx_q (h := ?_)) | (refine kxd_q (h := ?_)) | (refine kw_s (h := ?_)) | (refine kw_t (h := ?_)) | (refine kw_k (h := ?_)) | (refine ky_s (h := ?_)) | (refine ky_t (h := ?_)) | (refine ky_k (h := ?_)) | (refine lex_nil (by kernel_rfl) ?_) | (refine awp_sq ?_) | (refine awp_rg ?_) | (refine awp_rd (by kernel_rfl) (by kernel_rfl) ?_) | (refine awp_block ?_) | (refine awp_exit ?_) | (refine awp_ret ?_) | (refine awp_skip ?_))
  refine awp_cond (b := _) rfl (fun h => ?_) (fun h => ?_)
  · simp only [icmp, decide_eq_true_eq] at h
    have hmL : m < L := by omega
    have hcut : ((a.take (a.length - (m + 1))).drop (L - (m + 1))).length = a.length - L := by simp; omega
    repeat (first | (refine kx_q (h := ?_)) | (refine kxd_q (h := ?_)) | (refine kw_s (h := ?_)) | (refine kw_t (h := ?_)) | (refine kw_k (h := ?_)) | (refine ky_s (h := ?_)) | (refine ky_t (h := ?_)) | (refine ky_k (h := ?_)) | (refine lex_nil (by kernel_rfl) ?_) | (refine awp_sq ?_) | (refine awp_rg ?_) | (refine awp_rd (by kernel_rfl) (by kernel_rfl) ?_) | (refine awp_block ?_) | (refine awp_exit ?_) | (refine awp_ret ?_) | (refine awp_skip ?_))
    (first | (refine kw_r (q_slice_tree (L - (m + 1)) (a.length - (m + 1)) tyOk rfl rfl rfl rfl rfl rfl rfl (by exact ⟨_, _, rfl, by omega⟩) (by exact ⟨_, _, rfl, by omega⟩) (by omega) (by simp only [T.len]; omega)) (h := ?_)) | (refine ky_r (q_slice_tree (L - (m + 1)) (a.length - (m + 1)) tyOk rfl rfl rfl rfl rfl rfl rfl (by exact ⟨_, _, rfl, by omega⟩) (by exact ⟨_, _, rfl, by omega⟩) (by omega) (by simp only [T.len]; omega)) (h := ?_)))
    repeat (first | (refine kx_q (h := ?_)) | (refine kxd_q (h := ?_)) | (refine kw_s (h := ?_)) | (refine kw_t (h := ?_)) | (refine kw_k (h := ?_)) | (refine ky_s (h := ?_)) | (refine ky_t (h := ?_)) | (refine ky_k (h := ?_)) | (refine lex_nil (by kernel_rfl) ?_) | (refine awp_sq ?_) | (refine awp_rg ?_) | (refine awp_rd (by kernel_rfl) (by kernel_rfl) ?_) | (refine awp_block ?_) | (refine awp_exit ?_) | (refine awp_ret ?_) | (refine awp_skip ?_))
    (first | (refine kc_s (cloneF_c ((a.take (a.length - (m + 1))).drop (L - (m + 1))) (by omega)) (h := ?_)) | (refine kz_s (cloneF_c ((a.take (a.length - (m + 1))).drop (L - (m + 1))) (by omega)) (h := ?_)))
    repeat (first | (refine kx_q (h := ?_)) | (refine kxd_q (h := ?_)) | (refine kw_s (h := ?_)) | (refine kw_t (h := ?_)) | (refine kw_k (h := ?_)) | (refine ky_s (h := ?_)) | (refine ky_t (h := ?_)) | (refine ky_k (h := ?_)) | (refine lex_nil (by kernel_rfl) ?_) | (refine awp_sq ?_) | (refine awp_rg ?_) | (refine awp_rd (by kernel_rfl) (by kernel_rfl) ?_) | (refine awp_block ?_) | (refine awp_exit ?_) | (refine awp_ret ?_) | (refine awp_skip ?_))
    rw [hcut]
    (refine kw_rs (q_bslice_nest (L := [.own (cid 30 0) 0 (a.length - L)]) [cid 30 0] tyOk rfl rfl rfl rfl rfl rfl rfl rfl rfl rfl rfl rfl rfl) (h := ?_))
    repeat (first | (refine kx_q (h := ?_)) | (refine kxd_q (h := ?_)) | (refine kw_s (h := ?_)) | (refine kw_t (h := ?_)) | (refine kw_k (h := ?_)) | (refine ky_s (h := ?_)) | (refine ky_t (h := ?_)) | (refine ky_k (h := ?_)) | (refine lex_nil (by kernel_rfl) ?_) | (refine awp_sq ?_) | (refine awp_rg ?_) | (refine awp_rd (by kernel_rfl) (by kernel_rfl) ?_) | (refine awp_block ?_) | (refine awp_exit ?_) | (refine awp_ret ?_) | (refine awp_skip ?_))
    (refine kw_rs (q_app_nest (m := 1) (NL_good _) (own1_good _ _) hnl rfl tyOk rfl rfl rfl rfl rfl rfl rfl rfl rfl rfl rfl rfl rfl rfl rfl (by simp only []; omega) (by omega)) (h := ?_))
    repeat (first | (refine kx_q (h := ?_)) | (refine kxd_q (h := ?_)) | (refine kw_s (h := ?_)) | (refine kw_t (h := ?_)) | (refine kw_k (h := ?_)) | (refine ky_s (h := ?_)) | (refine ky_t (h := ?_)) | (refine ky_k (h := ?_)) | (refine lex_nil (by kernel_rfl) ?_) | (refine awp_sq ?_) | (refine awp_rg ?_) | (refine awp_rd (by kernel_rfl) (by kernel_rfl) ?_) | (refine awp_block ?_) | (refine awp_exit ?_) | (refine awp_ret ?_) | (refine awp_skip ?_))
    exact ⟨m + 1, by omega, famN_0 (H := fun m => [(15, .nest 24 (NL ((lagC a L).take (m + 1))) [] noRem)]) (m + 1) (by omega) ⟨rfl, rfl, rfl, rfl, iE9' (by omega), trivial⟩ ⟨by rw [← lagC_take a hmL]; exact NL_bto rfl rfl rfl hcut.symm rfl, trivial⟩⟩
  simp only [icmp, decide_eq_false_iff_not] at h
  obtain rfl : m = L := by omega
  rw [List.take_of_length_le (by omega)]
  have hdr : (a.drop m).length = a.length - m := List.length_drop ..
  have hdr2 : (a.take a.length).drop m = a.drop m := by rw [List.take_length]
  refine awp_exit ?_
  refine awp_sq ?_
  refine awp_rg ?_
  repeat (first | (refine kx_q (h := ?_)) | (refine kxd_q (h := ?_)) | (refine kw_s (h := ?_)) | (refine kw_t (h := ?_)) | (refine kw_k (h := ?_)) | (refine ky_s (h := ?_)) | (refine ky_t (h := ?_)) | (refine ky_k (h := ?_)))
  (first | (refine kw_r (q_slice_tree m a.length tyOk rfl rfl rfl rfl rfl rfl rfl (by exact ⟨_, _, rfl, rfl⟩) (by exact rfl) (by omega) (by simp only [T.len]; omega)) (h := ?_)) | (refine ky_r (q_slice_tree m a.length tyOk rfl rfl rfl rfl rfl rfl rfl (by exact ⟨_, _, rfl, rfl⟩) (by exact rfl) (by omega) (by simp only [T.len]; omega)) (h := ?_)))
  rw [hdr2]
  repeat (first | (refine kx_q (h := ?_)) | (refine kxd_q (h := ?_)) | (refine kw_s (h := ?_)) | (refine kw_t (h := ?_)) | (refine kw_k (h := ?_)) | (refine ky_s (h := ?_)) | (refine ky_t (h := ?_)) | (refine ky_k (h := ?_)))
  (first | (refine kc_s (cloneF_c (a.drop m) (by omega)) (h := ?_)) | (refine kz_s (cloneF_c (a.drop m) (by omega)) (h := ?_)))
  rw [hdr]
  repeat (first | (refine kx_q (h := ?_)) | (refine kxd_q (h := ?_)) | (refine kw_s (h := ?_)) | (refine kw_t (h := ?_)) | (refine kw_k (h := ?_)) | (refine ky_s (h := ?_)) | (refine ky_t (h := ?_)) | (refine ky_k (h := ?_)))
  refine lex_nil (by kernel_rfl) ?_
  refine awp_off [(4, .own 15 0 (m + 1)), (5, .own (cid 37 0) 0 (a.length - m))] [(15, .sl 24 (.ffl (lagC a m))), (cid 37 0, .sl 30 (.fl (a.drop m)))]
    ⟨rfl, rfl, trivial⟩ ⟨NL_ffl rfl, .inl rfl, trivial⟩ ?_
  refine awp_ret ?_
  refine ret_ok tyOk (by first | exact .inr rfl | exact .inl rfl) (pi2 15 (cid 37 0)) rfl (by first | exact .cons (by first | exact .tmp | exact .cell rfl rfl rfl rfl rfl rfl | exact .cell1 rfl rfl rfl rfl rfl) .nil | exact .cons (by first | exact .tmp | exact .cell rfl rfl rfl rfl rfl rfl | exact .cell1 rfl rfl rfl rfl rfl) (.cons (by first | exact .tmp | exact .cell rfl rfl rfl rfl rfl rfl | exact .cell1 rfl rfl rfl rfl rfl) .nil) | exact .cons (by first | exact .tmp | exact .cell rfl rfl rfl rfl rfl rfl | exact .cell1 rfl rfl rfl rfl rfl) (.cons (by first | exact .tmp | exact .cell rfl rfl rfl rfl rfl rfl | exact .cell1 rfl rfl rfl rfl rfl) (.cons (by first | exact .tmp | exact .cell rfl rfl rfl rfl rfl rfl | exact .cell1 rfl rfl rfl rfl rfl) .nil)) | exact .cons (by first | exact .tmp | exact .cell rfl rfl rfl rfl rfl rfl | exact .cell1 rfl rfl rfl rfl rfl) (.cons (by first | exact .tmp | exact .cell rfl rfl rfl rfl rfl rfl | exact .cell1 rfl rfl rfl rfl rfl) (.cons (by first | exact .tmp | exact .cell rfl rfl rfl rfl rfl rfl | exact .cell1 rfl rfl rfl rfl rfl) (.cons (by first | exact .tmp | exact .cell rfl rfl rfl rfl rfl rfl | exact .cell1 rfl rfl rfl rfl rfl) .nil)))) ?_ ⟨rfl, rfl, trivial⟩ (injO_pi2 _ _ (by decide) _ _)
  repeat' (first | exact RetRelL.nil | (refine RetRel.nil rfl ?_) | refine RetRelL.cons ?_ ?_ | refine rr_tup ?_ | refine rr_agg ?_ | refine rr_own rfl ?_ | exact RetRel.arg | exact RetRel.argc | refine rr_t ?_)
  all_goals rfl
end Go.Proofs.Ytmnpdipiffmnhaa
