import Derived.Test.YtmnpdipiffmnhaaYT134
set_option linter.unusedVariables false
set_option linter.unusedSimpArgs false
set_option maxRecDepth 20000
set_option maxHeartbeats 16000000
namespace Go.Proofs.Ytmnpdipiffmnhaa
open Go.Aw

/-! ### the walk of FnPast, its first parts -/
theorem drawn_ok {t : List Nat} {m w n : Nat} {s : Int} (h1 : isTerms t = true) (h2 : fin m = true) (h3 : fin w = true) (h4 : 0 ≤ s ∧ s ≤ 4294967295) (h5 : 1 ≤ n ∧ n ≤ 96) (hf : (dsL t m w s n).all fin = true) :
    drawn t m w s (n : Int) = ⟨dsL t m w s n, dsS s n, true⟩ := by
  unfold drawn dsOk
  rw [Int.toNat_natCast, h1, h2, h3, inR_t.2 h4, inR_t.2 (show (1 : Int) ≤ (n : Int) ∧ (n : Int) ≤ 96 by omega), hf]
  rfl
theorem pa_ok {a t : List Nat} {m n : Nat} (h0 : isSer a = true) (h1 : isTerms t = true) (h2 : fin m = true) (h3 : t.length ≤ a.length) (h5 : n ≤ 32) (hf : (paO a t m n).all fin = true) : (paF a t m (n : Int)).2 = true := by
  unfold paF paOk ifAllF
  rw [Int.toNat_natCast, h0, h1, h2, decide_eq_true h3, inR_t.2 (show (0 : Int) ≤ (n : Int) ∧ (n : Int) ≤ 32 by omega), show (true && true && true && true && true) = true from rfl, if_pos rfl, if_pos hf]
theorem pa_all {a o : List Nat} (ha : a.length = 20) (ho : o.length = 8) (hb : ∀ i, i < 28 → Bd ((a ++ o).getD i 0) 24) (i : Nat) (hi : i < o.length) : Fnt .f32 (o.getD i 0) := by
  have h1 := hb (a.length + i) (by omega)
  have h2 : (a ++ o).getD (a.length + i) 0 = o.getD i 0 := by
    simp only [List.getD_eq_getElem?_getD]
    rw [List.getElem?_append_right (by omega), show a.length + i - a.length = i by omega]
  rw [h2] at h1
  exact h1.1
attribute [local irreducible] dsL dsS paO pastL QRun LexD AWp TCall TMut fop fint fcmp fconv hw fmx dvD e8 b10F gapD pwW
/-- behind the first loop: rests are not great -/
theorem past_1 {more t a o r1 r2 : List Nat} {x2 m : Nat} {sp : List Nat} {pw : Nat} (hspl : sp.length = 8) (hsps : ∀ i, i + 1 < 8 → fcmp .lss .f32 (sp.getD (i + 1) 0) (sp.getD i 0) = false)
    (t2 : TCall Try.prog 12 [BY more, .v (.int .i64 2), .v (.int .i64 17)] (.t (.v (.int .i64 x2))) [])
    (tPw : TCall Try.prog 41 [.fl t, .f .f32 1056964608, .f .f32 (turnW x2)] (.tup [.t (.f .f32 pw), .t (.v (.bool true))]) []) (hPw : fcmp .gtr .f32 pw 0 = true)
    (tSp : TCall Try.prog 39 [.fl t, .f .f32 1056964608, .v (.int .i64 8)] (.tup [.t (.fl sp), .t (.v (.bool true))]) []) (hsp0 : sp.getD 0 0 = 1056964608)
    (tC : TCall Try.prog 40 [.fl t] (.tup [.t (.v (.bool true)), .t (.v (.bool true))]) []) (tW : TCall Try.prog 40 [.fl [1069547520]] (.tup [.t (.v (.bool false)), .t (.v (.bool true))]) [])
    (hl2 : t.length ≤ 2) (hr2 : r2.length = 28 - t.length) (hp2 : ∀ k, k < 8 → r2.getD (20 - t.length + k) 0 = 0) (hr1 : r1.length = 20 - t.length) (ha : a.length = 20) (ho : o.length = 8)
    (tP2 : TCall Try.prog 37 [.fl (a ++ o), .fl t, .f .f32 m] (.tup [.t (.fl r2), .t (.v (.bool true))]) []) (hp1 : ∀ i, i < 20 - t.length → Bd (r1.getD i 0) (20005 / 10000)) :
    AWp Try.prog Try.f5.ntmps (tlF Try.f5 11) (RetQ Try.prog Try.f5 (.t (.v (.bool true))) []) (lkF [(1, .arg 1 (BY more)), (5, .t (.fl t)), (6, .t (.f .f32 m)), (7, .t (.v (.int .i64 8))), (8, .t (.fl a)), (14, .t (.fl r1)), (16, .t (.fl o))]) (lkH []) := by
  repeat (first | (refine x_q (h := ?_)) | (refine xd_q (h := ?_)) | (refine w_q (h := ?_)) | (refine w_s (h := ?_)) | (refine w_t (h := ?_)) | (refine w_k (h := ?_)) | (refine y_q (h := ?_)) | (refine y_s (h := ?_)) | (refine y_t (h := ?_)) | (refine y_k (h := ?_)) | (refine lex_nil (by kernel_rfl) ?_) | (refine awp_sq ?_) | (refine awp_rg ?_) | (refine awp_rd (by kernel_rfl) (by kernel_rfl) ?_) | (refine awp_block ?_) | (refine awp_exit ?_) | (refine awp_ret ?_) | (refine awp_skip ?_))
  refine awp_loop (X := Nat) (fun i => i ≤ r1.length) (fun i => [(1, .arg 1 (BY more)), (5, .t (.fl t)), (6, .t (.f .f32 m)), (7, .t (.v (.int .i64 8))), (8, .t (.fl a)), (14, .t (.fl r1)), (16, .t (.fl o)), (115, .t (.v (.int .i64 r1.length))), (116, .t (.v (.int .i64 i)))])
    (fun i => []) (fun i => r1.length - i)
    0 ⟨by omega, fun i => i, ⟨rfl, rfl, rfl, rfl, rfl, rfl, rfl, rfl, rfl, trivial⟩, trivial, injOn_id _⟩ (fun i hi => ?_)
  repeat (first | (refine x_q (h := ?_)) | (refine xd_q (h := ?_)) | (refine w_q (h := ?_)) | (refine w_s (h := ?_)) | (refine w_t (h := ?_)) | (refine w_k (h := ?_)) | (refine y_q (h := ?_)) | (refine y_s (h := ?_)) | (refine y_t (h := ?_)) | (refine y_k (h := ?_)) | (refine lex_nil (by kernel_rfl) ?_) | (refine awp_sq ?_) | (refine awp_rg ?_) | (refine awp_rd (by kernel_rfl) (by kernel_rfl) ?_) | (refine awp_block ?_) | (refine awp_exit ?_) | (refine awp_ret ?_) | (refine awp_skip ?_))
  refine awp_if rfl (fun h => ?_) (fun h => ?_)
  · simp only [icmp, decide_eq_true_eq] at h
    have cg := gap2_ok (hp1 i (by omega))
    repeat (first | (refine x_q (h := ?_)) | (refine xd_q (h := ?_)) | (refine w_q (h := ?_)) | (refine w_s (h := ?_)) | (refine w_t (h := ?_)) | (refine w_k (h := ?_)) | (refine y_q (h := ?_)) | (refine y_s (h := ?_)) | (refine y_t (h := ?_)) | (refine y_k (h := ?_)) | (refine lex_nil (by kernel_rfl) ?_) | (refine awp_sq ?_) | (refine awp_rg ?_) | (refine awp_rd (by kernel_rfl) (by kernel_rfl) ?_) | (refine awp_block ?_) | (refine awp_exit ?_) | (refine awp_ret ?_) | (refine awp_skip ?_))
    (first | (refine c_q (b10Gap_c _ _) (h := ?_)) | (refine z_q (b10Gap_c _ _) (h := ?_)))
    repeat (first | (refine x_q (h := ?_)) | (refine xd_q (h := ?_)) | (refine w_q (h := ?_)) | (refine w_s (h := ?_)) | (refine w_t (h := ?_)) | (refine w_k (h := ?_)) | (refine y_q (h := ?_)) | (refine y_s (h := ?_)) | (refine y_t (h := ?_)) | (refine y_k (h := ?_)) | (refine lex_nil (by kernel_rfl) ?_) | (refine awp_sq ?_) | (refine awp_rg ?_) | (refine awp_rd (by kernel_rfl) (by kernel_rfl) ?_) | (refine awp_block ?_) | (refine awp_exit ?_) | (refine awp_ret ?_) | (refine awp_skip ?_))
    refine awp_ifF rfl cg ?_
    repeat (first | (refine x_q (h := ?_)) | (refine xd_q (h := ?_)) | (refine w_q (h := ?_)) | (refine w_s (h := ?_)) | (refine w_t (h := ?_)) | (refine w_k (h := ?_)) | (refine y_q (h := ?_)) | (refine y_s (h := ?_)) | (refine y_t (h := ?_)) | (refine y_k (h := ?_)) | (refine lex_nil (by kernel_rfl) ?_) | (refine awp_sq ?_) | (refine awp_rg ?_) | (refine awp_rd (by kernel_rfl) (by kernel_rfl) ?_) | (refine awp_block ?_) | (refine awp_exit ?_) | (refine awp_ret ?_) | (refine awp_skip ?_))
    exact ⟨i + 1, by omega, by omega, fun i => i, ⟨rfl, rfl, rfl, rfl, rfl, rfl, rfl, rfl, rfl, trivial⟩, trivial, injOn_id _⟩
  refine awp_exit ?_
  refine awp_weak (fun i => i)  [(1, .arg 1 (BY more)), (5, .t (.fl t)), (6, .t (.f .f32 m)), (7, .t (.v (.int .i64 8))), (8, .t (.fl a)), (14, .t (.fl r1)), (16, .t (.fl o))] []  (by repeat (first | exact trivial | refine ⟨rfl, ?_⟩)) (by repeat (first | exact trivial | refine ⟨rfl, ?_⟩)) (injOn_id _) ?_
  exact past_2 hspl hsps t2 tPw hPw tSp hsp0 tC tW hl2 hr2 hp2 hr1 ha ho tP2
theorem lawPast_c (code more : List Nat) (hc : code.length ≤ 9223372036854775807) (hm : more.length ≤ 9223372036854775807) (bc : ∀ i, i < code.length → code.getD i 0 < 256) (bm : ∀ i, i < more.length → more.getD i 0 < 256) :
    TCall Try.prog 5 [BY code, BY more] (.t (.v (.bool true))) [] := by
  by_cases hLg : b10Lg code more = true
  · refine tcall_of Try.func5 rfl (by kernel_rfl) (Nat.le_of_ble_eq_true rfl) rfl ?_
    simp only [argsL, argAV, argCs, argS]
    repeat (first | (refine x_q (h := ?_)) | (refine xd_q (h := ?_)) | (refine w_q (h := ?_)) | (refine w_s (h := ?_)) | (refine w_t (h := ?_)) | (refine w_k (h := ?_)) | (refine y_q (h := ?_)) | (refine y_s (h := ?_)) | (refine y_t (h := ?_)) | (refine y_k (h := ?_)) | (refine lex_nil (by kernel_rfl) ?_) | (refine awp_sq ?_) | (refine awp_rg ?_) | (refine awp_rd (by kernel_rfl) (by kernel_rfl) ?_) | (refine awp_block ?_) | (refine awp_exit ?_) | (refine awp_ret ?_) | (refine awp_skip ?_))
    (first | (refine c_q (b10Long_c code more hc hm) (h := ?_)) | (refine z_q (b10Long_c code more hc hm) (h := ?_)))
    repeat (first | (refine x_q (h := ?_)) | (refine xd_q (h := ?_)) | (refine w_q (h := ?_)) | (refine w_s (h := ?_)) | (refine w_t (h := ?_)) | (refine w_k (h := ?_)) | (refine y_q (h := ?_)) | (refine y_s (h := ?_)) | (refine y_t (h := ?_)) | (refine y_k (h := ?_)) | (refine lex_nil (by kernel_rfl) ?_) | (refine awp_sq ?_) | (refine awp_rg ?_) | (refine awp_rd (by kernel_rfl) (by kernel_rfl) ?_) | (refine awp_block ?_) | (refine awp_exit ?_) | (refine awp_ret ?_) | (refine awp_skip ?_))
    refine awp_ifT rfl hLg ?_
    repeat (first | (refine x_q (h := ?_)) | (refine xd_q (h := ?_)) | (refine w_q (h := ?_)) | (refine w_s (h := ?_)) | (refine w_t (h := ?_)) | (refine w_k (h := ?_)) | (refine y_q (h := ?_)) | (refine y_s (h := ?_)) | (refine y_t (h := ?_)) | (refine y_k (h := ?_)) | (refine lex_nil (by kernel_rfl) ?_) | (refine awp_sq ?_) | (refine awp_rg ?_) | (refine awp_rd (by kernel_rfl) (by kernel_rfl) ?_) | (refine awp_block ?_) | (refine awp_exit ?_) | (refine awp_ret ?_) | (refine awp_skip ?_))
    (refine ret_ok tyOk (by first | exact .inr rfl | exact .inl rfl) pi0 rfl (by first | exact .cons (by first | exact .tmp | exact .cell rfl rfl rfl rfl rfl rfl | exact .cell1 rfl rfl rfl rfl rfl) .nil | exact .cons (by first | exact .tmp | exact .cell rfl rfl rfl rfl rfl rfl | exact .cell1 rfl rfl rfl rfl rfl) (.cons (by first | exact .tmp | exact .cell rfl rfl rfl rfl rfl rfl | exact .cell1 rfl rfl rfl rfl rfl) .nil) | exact .cons (by first | exact .tmp | exact .cell rfl rfl rfl rfl rfl rfl | exact .cell1 rfl rfl rfl rfl rfl) (.cons (by first | exact .tmp | exact .cell rfl rfl rfl rfl rfl rfl | exact .cell1 rfl rfl rfl rfl rfl) (.cons (by first | exact .tmp | exact .cell rfl rfl rfl rfl rfl rfl | exact .cell1 rfl rfl rfl rfl rfl) .nil)) | exact .cons (by first | exact .tmp | exact .cell rfl rfl rfl rfl rfl rfl | exact .cell1 rfl rfl rfl rfl rfl) (.cons (by first | exact .tmp | exact .cell rfl rfl rfl rfl rfl rfl | exact .cell1 rfl rfl rfl rfl rfl) (.cons (by first | exact .tmp | exact .cell rfl rfl rfl rfl rfl rfl | exact .cell1 rfl rfl rfl rfl rfl) (.cons (by first | exact .tmp | exact .cell rfl rfl rfl rfl rfl rfl | exact .cell1 rfl rfl rfl rfl rfl) .nil)))) ?_ trivial (injO_0 _); (repeat' (first | exact RetRelL.nil | (refine RetRel.nil rfl ?_) | refine RetRelL.cons ?_ ?_ | refine rr_tup ?_ | refine rr_agg ?_ | refine rr_own rfl ?_ | exact RetRel.arg | exact RetRel.argc | refine rr_t ?_)); all_goals rfl)
  have hLg' : code.length ≤ 1048576 ∧ more.length ≤ 1048576 := by
    unfold b10Lg at hLg
    simp only [Bool.or_eq_true, decide_eq_true_eq] at hLg
    omega
  have hBc : Byt code := ⟨by omega, bc⟩
  obtain ⟨x0, e0, l0⟩ := b10N (l := more) (k := 0) (n := 17) (by omega)
  obtain ⟨x1, e1, l1⟩ := b10N (l := more) (k := 1) (n := 256) (by omega)
  obtain ⟨x2, e2, l2⟩ := b10N (l := more) (k := 2) (n := 17) (by omega)
  have t0 := b10At_c more 0 17 hm bm (by omega) (by omega)
  have t1 := b10At_c more 1 256 hm bm (by omega) (by omega)
  have t2 := b10At_c more 2 17 hm bm (by omega) (by omega)
  rw [e0] at t0; rw [e1] at t1; rw [e2] at t2
  have tT := b10Terms_c hBc
  have hTw := tmD_twI hBc
  generalize tmD code = t at *
  have hq : fop .quo .f32 (fint .f32 ((x0 : Int) - 8)) 1082130432 = q4 ((x0 : Int) - 8) := rfl
  have hmb := q4_8 (x := x0) (by omega)
  generalize q4 ((x0 : Int) - 8) = m at *
  have hI : TmI t m := ⟨hTw.ft, hTw.l2, hmb⟩
  have hl2 := hTw.l2
  obtain ⟨s, hs⟩ : ∃ s : Int, s = 1000 * (x1 : Int) := ⟨_, rfl⟩
  have hsr : 0 ≤ s ∧ s ≤ 4294967295 := by omega
  have hmr : -9223372036854775808 ≤ 1000 * (x1 : Int) ∧ 1000 * (x1 : Int) ≤ 9223372036854775807 := mul_rng l1
  -- what is drawn
  have hab := ds_bd hI hsr 20
  have hal := dsL_len t m 1065353216 s 20
  have hrb := fun i (hi : i < 20) => rest_bd hI hsr hi
  have hD := drawn_ok (w := 1065353216) (n := 20) hI.terms (finB_Fn hmb.1) (by decide +kernel) hsr (by omega) (all_fin3 fun i hi => (hab i hi).1)
  rw [show ((20 : Nat) : Int) = 20 from rfl] at hD
  have tD1 := implDrawn_c t m 1065353216 s 20 (by omega)
  have tD2 := specDrawn_c t m 1065353216 s 20 (by omega)
  rw [hD] at tD1 tD2
  replace tD1 := tcall_fl3 tD1 rfl
  replace tD2 := tcall_fl3 tD2 rfl
  dsimp only at tD1 tD2
  clear hD
  generalize dsL t m 1065353216 s 20 = a at *
  generalize dsS s 20 = S at *
  have tBL := b10List_self a (by omega)
  -- rests
  have hP1 := past_ok hI hab (by omega) (by omega)
  have tP1 := implPast_c a t m (by omega) (by omega)
  rw [hP1] at tP1
  replace tP1 := tcall_fl2 tP1 rfl
  dsimp only at tP1
  have hp1l := pastL_len a t m
  have hp1g : ∀ i, i < 20 - t.length → Bd ((pastL a t m).getD i 0) (20005 / 10000) := fun i hi => by
    have := pastL_get (a := a) (terms := t) (m := m) (i := t.length + i) (by omega) (by omega)
    rw [show t.length + i - t.length = i by omega] at this
    rw [this]; exact hrb _ (by omega)
  -- ahead
  have hob := pa_bd hI hab 8
  have hol := paO_len a t m 8
  have hlen : (a ++ paO a t m 8).length = 28 := by rw [List.length_append, hal, hol]
  have hA := pa_ok (n := 8) (isSer_of hab (by omega) (by omega)) hI.terms (finB_Fn hmb.1) (by omega) (by omega) (all_fin3 (pa_all hal hol fun i hi => hob i (by rw [hlen]; exact hi)))
  have tA := implPA_t a t m 8 (by omega) (by omega) hA (by omega)
  replace tA := tcall_flc tA (by omega)
  have hcut : ((a ++ paO a t m 8).take (a.length + 8)).drop a.length = paO a t m 8 := by
    have := cut_tail a (paO a t m 8)
    rw [hol] at this
    exact this
  rw [hcut] at tA
  have hP2 := past_ok hI hob (by omega) (by omega)
  have tP2 := implPast_c (a ++ paO a t m 8) t m (by omega) (by omega)
  rw [hP2] at tP2
  replace tP2 := tcall_fl2 tP2 rfl
  dsimp only at tP2
  have hp2l := pastL_len (a ++ paO a t m 8) t m
  have hp2g : ∀ k, k < 8 → (pastL (a ++ paO a t m 8) t m).getD (20 - t.length + k) 0 = 0 := fun k hk => by
    have := pastL_get (a := a ++ paO a t m 8) (terms := t) (m := m) (i := a.length + k) (by omega) (by omega)
    rw [show a.length + k - t.length = 20 - t.length + k by omega] at this
    rw [this]; exact later_0 hI hab hk
  rw [hlen] at hp2l
  -- spreads, calm, power
  have tSp := implSpreads_c t 1056964608 8 (by omega)
  rw [sp_ok hTw] at tSp
  replace tSp := tcall_fl2 tSp rfl
  dsimp only at tSp
  have hspl := spL_len t 1056964608 8
  have hsp0 := sp_0 t
  have hsps := fun i (hi : i + 1 < 8) => sp_lss hTw hi
  have tC := isCalm_c hTw.ft hl2
  have tW := isCalm_w (l := [1069547520]) rfl wild_15.1 wild_15.2
  obtain ⟨tPw, hPw⟩ := pastPower_c (k := x2) (by omega) hTw.ft hl2
  have hgap0 := gap0_ok
  have hgapH := gapH_ok
  generalize pastL (a ++ paO a t m 8) t m = r2 at *
  generalize hoE : paO a t m 8 = o at *
  generalize pastL a t m = r1 at *
  generalize spL t 1056964608 8 = sp at *
  generalize pwW t x2 = pw at *
  clear hP1 hP2 hA hcut hob hab hrb hI hTw
  have hr2 : r2.length = 28 - t.length := hp2l
  have hr1 : r1.length = 20 - t.length := by omega
  have hlen2 : o.length = 8 := hol
  have last := past_1 hspl hsps t2 tPw hPw tSp hsp0 tC tW hl2 hr2 hp2g hr1 hal hlen2 tP2 hp1g
  clear tSp tPw tC tW tP2 hp2g hp1g hsps hspl hsp0 hPw hgap0 hgapH
  have hcl : o.length = 8 := hlen2
  try clear hrb hab hob
  refine tcall_of Try.func5 rfl (by kernel_rfl) (Nat.le_of_ble_eq_true rfl) rfl ?_
  simp only [argsL, argAV, argCs, argS]
  repeat (first | (refine x_q (h := ?_)) | (refine xd_q (h := ?_)) | (refine w_q (h := ?_)) | (refine w_s (h := ?_)) | (refine w_t (h := ?_)) | (refine w_k (h := ?_)) | (refine y_q (h := ?_)) | (refine y_s (h := ?_)) | (refine y_t (h := ?_)) | (refine y_k (h := ?_)) | (refine lex_nil (by kernel_rfl) ?_) | (refine awp_sq ?_) | (refine awp_rg ?_) | (refine awp_rd (by kernel_rfl) (by kernel_rfl) ?_) | (refine awp_block ?_) | (refine awp_exit ?_) | (refine awp_ret ?_) | (refine awp_skip ?_))
  (first | (refine c_q (b10Long_c code more hc hm) (h := ?_)) | (refine z_q (b10Long_c code more hc hm) (h := ?_)))
  repeat (first | (refine x_q (h := ?_)) | (refine xd_q (h := ?_)) | (refine w_q (h := ?_)) | (refine w_s (h := ?_)) | (refine w_t (h := ?_)) | (refine w_k (h := ?_)) | (refine y_q (h := ?_)) | (refine y_s (h := ?_)) | (refine y_t (h := ?_)) | (refine y_k (h := ?_)) | (refine lex_nil (by kernel_rfl) ?_) | (refine awp_sq ?_) | (refine awp_rg ?_) | (refine awp_rd (by kernel_rfl) (by kernel_rfl) ?_) | (refine awp_block ?_) | (refine awp_exit ?_) | (refine awp_ret ?_) | (refine awp_skip ?_))
  refine awp_ifF rfl (by simpa using hLg) ?_
  repeat (first | (refine x_q (h := ?_)) | (refine xd_q (h := ?_)) | (refine w_q (h := ?_)) | (refine w_s (h := ?_)) | (refine w_t (h := ?_)) | (refine w_k (h := ?_)) | (refine y_q (h := ?_)) | (refine y_s (h := ?_)) | (refine y_t (h := ?_)) | (refine y_k (h := ?_)) | (refine lex_nil (by kernel_rfl) ?_) | (refine awp_sq ?_) | (refine awp_rg ?_) | (refine awp_rd (by kernel_rfl) (by kernel_rfl) ?_) | (refine awp_block ?_) | (refine awp_exit ?_) | (refine awp_ret ?_) | (refine awp_skip ?_))
  (first | (refine c_q (tT) (h := ?_)) | (refine z_q (tT) (h := ?_)))
  repeat (first | (refine x_q (h := ?_)) | (refine xd_q (h := ?_)) | (refine w_q (h := ?_)) | (refine w_s (h := ?_)) | (refine w_t (h := ?_)) | (refine w_k (h := ?_)) | (refine y_q (h := ?_)) | (refine y_s (h := ?_)) | (refine y_t (h := ?_)) | (refine y_k (h := ?_)) | (refine lex_nil (by kernel_rfl) ?_) | (refine awp_sq ?_) | (refine awp_rg ?_) | (refine awp_rd (by kernel_rfl) (by kernel_rfl) ?_) | (refine awp_block ?_) | (refine awp_exit ?_) | (refine awp_ret ?_) | (refine awp_skip ?_))
  (first | (refine c_q (t0) (h := ?_)) | (refine z_q (t0) (h := ?_)))
  repeat (first | (refine x_q (h := ?_)) | (refine xd_q (h := ?_)) | (refine w_q (h := ?_)) | (refine w_s (h := ?_)) | (refine w_t (h := ?_)) | (refine w_k (h := ?_)) | (refine y_q (h := ?_)) | (refine y_s (h := ?_)) | (refine y_t (h := ?_)) | (refine y_k (h := ?_)) | (refine lex_nil (by kernel_rfl) ?_) | (refine awp_sq ?_) | (refine awp_rg ?_) | (refine awp_rd (by kernel_rfl) (by kernel_rfl) ?_) | (refine awp_block ?_) | (refine awp_exit ?_) | (refine awp_ret ?_) | (refine awp_skip ?_))
  rw [hq]
  repeat (first | (refine x_q (h := ?_)) | (refine xd_q (h := ?_)) | (refine w_q (h := ?_)) | (refine w_s (h := ?_)) | (refine w_t (h := ?_)) | (refine w_k (h := ?_)) | (refine y_q (h := ?_)) | (refine y_s (h := ?_)) | (refine y_t (h := ?_)) | (refine y_k (h := ?_)) | (refine lex_nil (by kernel_rfl) ?_) | (refine awp_sq ?_) | (refine awp_rg ?_) | (refine awp_rd (by kernel_rfl) (by kernel_rfl) ?_) | (refine awp_block ?_) | (refine awp_exit ?_) | (refine awp_ret ?_) | (refine awp_skip ?_))
  (first | (refine c_q (t1) (h := ?_)) | (refine z_q (t1) (h := ?_)))
  repeat (first | (refine x_q (h := ?_)) | (refine xd_q (h := ?_)) | (refine w_q (h := ?_)) | (refine w_s (h := ?_)) | (refine w_t (h := ?_)) | (refine w_k (h := ?_)) | (refine y_q (h := ?_)) | (refine y_s (h := ?_)) | (refine y_t (h := ?_)) | (refine y_k (h := ?_)) | (refine lex_nil (by kernel_rfl) ?_) | (refine awp_sq ?_) | (refine awp_rg ?_) | (refine awp_rd (by kernel_rfl) (by kernel_rfl) ?_) | (refine awp_block ?_) | (refine awp_exit ?_) | (refine awp_ret ?_) | (refine awp_skip ?_))
  (first | (refine w_r (q_mul rfl rfl rfl hmr) (h := ?_)) | (refine y_r (q_mul rfl rfl rfl hmr) (h := ?_)))
  rw [← hs]
  repeat (first | (refine x_q (h := ?_)) | (refine xd_q (h := ?_)) | (refine w_q (h := ?_)) | (refine w_s (h := ?_)) | (refine w_t (h := ?_)) | (refine w_k (h := ?_)) | (refine y_q (h := ?_)) | (refine y_s (h := ?_)) | (refine y_t (h := ?_)) | (refine y_k (h := ?_)) | (refine lex_nil (by kernel_rfl) ?_) | (refine awp_sq ?_) | (refine awp_rg ?_) | (refine awp_rd (by kernel_rfl) (by kernel_rfl) ?_) | (refine awp_block ?_) | (refine awp_exit ?_) | (refine awp_ret ?_) | (refine awp_skip ?_))
  (first | (refine c_q (tD1) (h := ?_)) | (refine z_q (tD1) (h := ?_)))
  repeat (first | (refine x_q (h := ?_)) | (refine xd_q (h := ?_)) | (refine w_q (h := ?_)) | (refine w_s (h := ?_)) | (refine w_t (h := ?_)) | (refine w_k (h := ?_)) | (refine y_q (h := ?_)) | (refine y_s (h := ?_)) | (refine y_t (h := ?_)) | (refine y_k (h := ?_)) | (refine lex_nil (by kernel_rfl) ?_) | (refine awp_sq ?_) | (refine awp_rg ?_) | (refine awp_rd (by kernel_rfl) (by kernel_rfl) ?_) | (refine awp_block ?_) | (refine awp_exit ?_) | (refine awp_ret ?_) | (refine awp_skip ?_))
  (first | (refine c_q (t1) (h := ?_)) | (refine z_q (t1) (h := ?_)))
  repeat (first | (refine x_q (h := ?_)) | (refine xd_q (h := ?_)) | (refine w_q (h := ?_)) | (refine w_s (h := ?_)) | (refine w_t (h := ?_)) | (refine w_k (h := ?_)) | (refine y_q (h := ?_)) | (refine y_s (h := ?_)) | (refine y_t (h := ?_)) | (refine y_k (h := ?_)) | (refine lex_nil (by kernel_rfl) ?_) | (refine awp_sq ?_) | (refine awp_rg ?_) | (refine awp_rd (by kernel_rfl) (by kernel_rfl) ?_) | (refine awp_block ?_) | (refine awp_exit ?_) | (refine awp_ret ?_) | (refine awp_skip ?_))
  (first | (refine w_r (q_mul rfl rfl rfl hmr) (h := ?_)) | (refine y_r (q_mul rfl rfl rfl hmr) (h := ?_)))
  rw [← hs]
  repeat (first | (refine x_q (h := ?_)) | (refine xd_q (h := ?_)) | (refine w_q (h := ?_)) | (refine w_s (h := ?_)) | (refine w_t (h := ?_)) | (refine w_k (h := ?_)) | (refine y_q (h := ?_)) | (refine y_s (h := ?_)) | (refine y_t (h := ?_)) | (refine y_k (h := ?_)) | (refine lex_nil (by kernel_rfl) ?_) | (refine awp_sq ?_) | (refine awp_rg ?_) | (refine awp_rd (by kernel_rfl) (by kernel_rfl) ?_) | (refine awp_block ?_) | (refine awp_exit ?_) | (refine awp_ret ?_) | (refine awp_skip ?_))
  (first | (refine c_q (tD2) (h := ?_)) | (refine z_q (tD2) (h := ?_)))
  repeat (first | (refine x_q (h := ?_)) | (refine xd_q (h := ?_)) | (refine w_q (h := ?_)) | (refine w_s (h := ?_)) | (refine w_t (h := ?_)) | (refine w_k (h := ?_)) | (refine y_q (h := ?_)) | (refine y_s (h := ?_)) | (refine y_t (h := ?_)) | (refine y_k (h := ?_)) | (refine lex_nil (by kernel_rfl) ?_) | (refine awp_sq ?_) | (refine awp_rg ?_) | (refine awp_rd (by kernel_rfl) (by kernel_rfl) ?_) | (refine awp_block ?_) | (refine awp_exit ?_) | (refine awp_ret ?_) | (refine awp_skip ?_))
  (first | (refine c_q (tBL) (h := ?_)) | (refine z_q (tBL) (h := ?_)))
  repeat (first | (refine x_q (h := ?_)) | (refine xd_q (h := ?_)) | (refine w_q (h := ?_)) | (refine w_s (h := ?_)) | (refine w_t (h := ?_)) | (refine w_k (h := ?_)) | (refine y_q (h := ?_)) | (refine y_s (h := ?_)) | (refine y_t (h := ?_)) | (refine y_k (h := ?_)) | (refine lex_nil (by kernel_rfl) ?_) | (refine awp_sq ?_) | (refine awp_rg ?_) | (refine awp_rd (by kernel_rfl) (by kernel_rfl) ?_) | (refine awp_block ?_) | (refine awp_exit ?_) | (refine awp_ret ?_) | (refine awp_skip ?_))
  refine awp_ifF rfl rfl ?_
  repeat (first | (refine x_q (h := ?_)) | (refine xd_q (h := ?_)) | (refine w_q (h := ?_)) | (refine w_s (h := ?_)) | (refine w_t (h := ?_)) | (refine w_k (h := ?_)) | (refine y_q (h := ?_)) | (refine y_s (h := ?_)) | (refine y_t (h := ?_)) | (refine y_k (h := ?_)) | (refine lex_nil (by kernel_rfl) ?_) | (refine awp_sq ?_) | (refine awp_rg ?_) | (refine awp_rd (by kernel_rfl) (by kernel_rfl) ?_) | (refine awp_block ?_) | (refine awp_exit ?_) | (refine awp_ret ?_) | (refine awp_skip ?_))
  (first | (refine c_q (tP1) (h := ?_)) | (refine z_q (tP1) (h := ?_)))
  repeat (first | (refine x_q (h := ?_)) | (refine xd_q (h := ?_)) | (refine w_q (h := ?_)) | (refine w_s (h := ?_)) | (refine w_t (h := ?_)) | (refine w_k (h := ?_)) | (refine y_q (h := ?_)) | (refine y_s (h := ?_)) | (refine y_t (h := ?_)) | (refine y_k (h := ?_)) | (refine lex_nil (by kernel_rfl) ?_) | (refine awp_sq ?_) | (refine awp_rg ?_) | (refine awp_rd (by kernel_rfl) (by kernel_rfl) ?_) | (refine awp_block ?_) | (refine awp_exit ?_) | (refine awp_ret ?_) | (refine awp_skip ?_))
  (first | (refine c_q (tA) (h := ?_)) | (refine z_q (tA) (h := ?_)))
  repeat (first | (refine x_q (h := ?_)) | (refine xd_q (h := ?_)) | (refine w_q (h := ?_)) | (refine w_s (h := ?_)) | (refine w_t (h := ?_)) | (refine w_k (h := ?_)) | (refine y_q (h := ?_)) | (refine y_s (h := ?_)) | (refine y_t (h := ?_)) | (refine y_k (h := ?_)) | (refine lex_nil (by kernel_rfl) ?_) | (refine awp_sq ?_) | (refine awp_rg ?_) | (refine awp_rd (by kernel_rfl) (by kernel_rfl) ?_) | (refine awp_block ?_) | (refine awp_exit ?_) | (refine awp_ret ?_) | (refine awp_skip ?_))
  refine awp_ifF rfl rfl ?_
  refine awp_skip ?_
  refine awp_weak (fun i => i)  [(1, .arg 1 (BY more)), (5, .t (.fl t)), (6, .t (.f .f32 m)), (7, .t (.v (.int .i64 8))), (8, .t (.fl a)), (14, .t (.fl r1)), (16, .t (.fl o))] []  (by repeat (first | exact trivial | refine ⟨rfl, ?_⟩)) (by repeat (first | exact trivial | refine ⟨rfl, ?_⟩)) (injOn_id _) ?_
  exact last
end Go.Proofs.Ytmnpdipiffmnhaa
