import Derived.Test.YtjjpjnhjnpplcaaZT1c
import Derived.Test.YtjjpjnhjnpplcaaZT107
import Derived.Test.YtjjpjnhjnpplcaaZT98
import Derived.Test.YtjjpjnhjnpplcaaZT51
set_option linter.unusedVariables false
set_option linter.unusedSimpArgs false
set_option maxRecDepth 20000
set_option maxHeartbeats 16000000
namespace Go.Proofs.Ytjjpjnhjnpplcaa
open Go.Aw

theorem r8N' {l : List Nat} {k n : Int} (hn : 1 ≤ n) : ∃ x : Nat, r8F l k n = (x : Int) ∧ (x : Int) < n := by
  have := r8F_lt (l := l) (k := k) hn
  exact ⟨(r8F l k n).toNat, by omega, by omega⟩
theorem int_hw_tab : (List.range 65).all (fun n => fint .f32 (n : Int) == hw .f32 (2 * (n : Int))) = true := by decide +kernel
theorem int_hw {n : Nat} (h : n ≤ 64) : fint .f32 (n : Int) = hw .f32 (2 * (n : Int)) := by
  have := List.all_eq_true.1 int_hw_tab n (List.mem_range.2 (by omega))
  simpa using this
/-- what repeats: the numbers of a law's round -/
def rndL (code : List Nat) (per n : Nat) : List Nat := (List.range n).map fun i : Nat => hw .f32 (2 * r8F code ((i % per : Nat) : Int) 9)
theorem rndL_len (code : List Nat) (per n : Nat) : (rndL code per n).length = n := by simp [rndL]
theorem rndL_get {code : List Nat} {per n i : Nat} (h : i < n) : (rndL code per n).getD i 0 = hw .f32 (2 * r8F code ((i % per : Nat) : Int) 9) := getD_mapR _ h
theorem rndL_B (code : List Nat) {per n : Nat} (hn : 1 ≤ n ∧ n ≤ 96) : SerB (rndL code per n) := serB_of _ hn fun i hi => by
  have := r8F_lt (l := code) (k := ((i % per : Nat) : Int)) (n := 9) (by omega)
  omega
theorem zero_all {l : List Nat} (h : ∀ i, i < l.length → l.getD i 0 = 0) : l.all fin = true := List.all_eq_true.2 fun c hc => by
  obtain ⟨i, hi, rfl⟩ := List.getElem_of_mem hc
  have := h i hi
  rw [List.getD_eq_getElem?_getD, List.getElem?_eq_getElem hi] at this
  simp only [Option.getD_some] at this
  rw [this]; decide +kernel
theorem hw8 : (1082130432 : Nat) = hw .f32 8 := by decide +kernel
theorem gap_00 : fmx .f64 (fop .sub .f64 (fconv .f32 .f64 0) (fconv .f32 .f64 0)) (fop .sub .f64 (fconv .f32 .f64 0) (fconv .f32 .f64 0)) = 0 := by decide +kernel
theorem neq_00 : fcmp .neq .f32 0 0 = false := by decide +kernel
theorem gtr_00 : fcmp .gtr .f64 0 4576918229304087675 = false := by decide +kernel
attribute [local irreducible] QRun LexD AWp TCall TMut fop fint fcmp fconv hw fmx r8F
theorem r8Series_c {l : List Nat} (h : Byt l) (n : Nat) (hn : n ≤ 96) : TCall Try.prog 48 [BY l, .v (.int .i64 n)] (.own 0 (serL l n).length) [(0, .sl 29 (.fl (serL l n)))] := by
  refine tcall_of Try.func48 rfl (by kernel_rfl) (Nat.le_of_ble_eq_true rfl) rfl ?_
  simp only [argsL, argAV, argCs, argS]
  repeat (first | (refine w_q (h := ?_)) | (refine w_s (h := ?_)) | (refine w_t (h := ?_)) | (refine w_k (h := ?_)) | (refine y_q (h := ?_)) | (refine y_s (h := ?_)) | (refine y_t (h := ?_)) | (refine y_k (h := ?_)) | (refine lex_nil (by kernel_rfl) ?_) | (refine awp_sq ?_) | (refine awp_rg ?_) | (refine awp_rd (by kernel_rfl) (by kernel_rfl) ?_) | (refine awp_block ?_) | (refine awp_exit ?_) | (refine awp_ret ?_) | (refine awp_skip ?_))
  (refine w_rs (q_from (from_n) rfl rfl rfl rfl) (hH := by first | (simp only [scrubF, scrubHL, scrub, scrubL, scrubB, cB, List.map, cblk, cids, cid, relab, sg, List.contains_cons, List.contains_nil, Nat.reduceBEq, Bool.or_false, Bool.or_true, cond_true, cond_false, List.cons_append, List.nil_append, Nat.reduceMul, Nat.reduceAdd, List.set, List.take, List.drop, List.length, List.append_nil]; rfl) | rfl) (h := ?_))
  repeat (first | (refine w_q (h := ?_)) | (refine w_s (h := ?_)) | (refine w_t (h := ?_)) | (refine w_k (h := ?_)) | (refine y_q (h := ?_)) | (refine y_s (h := ?_)) | (refine y_t (h := ?_)) | (refine y_k (h := ?_)) | (refine lex_nil (by kernel_rfl) ?_) | (refine awp_sq ?_) | (refine awp_rg ?_) | (refine awp_rd (by kernel_rfl) (by kernel_rfl) ?_) | (refine awp_block ?_) | (refine awp_exit ?_) | (refine awp_ret ?_) | (refine awp_skip ?_))
  (refine w_rs (q_dev (l02Draw_c h n hn) rfl rfl rfl rfl rfl rfl rfl rfl rfl rfl rfl) (hH := by first | (simp only [scrubF, scrubHL, scrub, scrubL, scrubB, cB, List.map, cblk, cids, cid, relab, sg, List.contains_cons, List.contains_nil, Nat.reduceBEq, Bool.or_false, Bool.or_true, cond_true, cond_false, List.cons_append, List.nil_append, Nat.reduceMul, Nat.reduceAdd, List.set, List.take, List.drop, List.length, List.append_nil]; rfl) | rfl) (h := ?_))
  repeat (first | (refine w_q (h := ?_)) | (refine w_s (h := ?_)) | (refine w_t (h := ?_)) | (refine w_k (h := ?_)) | (refine y_q (h := ?_)) | (refine y_s (h := ?_)) | (refine y_t (h := ?_)) | (refine y_k (h := ?_)) | (refine lex_nil (by kernel_rfl) ?_) | (refine awp_sq ?_) | (refine awp_rg ?_) | (refine awp_rd (by kernel_rfl) (by kernel_rfl) ?_) | (refine awp_block ?_) | (refine awp_exit ?_) | (refine awp_ret ?_) | (refine awp_skip ?_))
  refine ret_ok tyOk (by first | exact .inr rfl | exact .inl rfl) (pi1 10) rfl (by first | exact .cons (by first | exact .tmp | exact .cell rfl rfl rfl rfl rfl rfl | exact .cell1 rfl rfl rfl rfl rfl) .nil | exact .cons (by first | exact .tmp | exact .cell rfl rfl rfl rfl rfl rfl | exact .cell1 rfl rfl rfl rfl rfl) (.cons (by first | exact .tmp | exact .cell rfl rfl rfl rfl rfl rfl | exact .cell1 rfl rfl rfl rfl rfl) .nil) | exact .cons (by first | exact .tmp | exact .cell rfl rfl rfl rfl rfl rfl | exact .cell1 rfl rfl rfl rfl rfl) (.cons (by first | exact .tmp | exact .cell rfl rfl rfl rfl rfl rfl | exact .cell1 rfl rfl rfl rfl rfl) (.cons (by first | exact .tmp | exact .cell rfl rfl rfl rfl rfl rfl | exact .cell1 rfl rfl rfl rfl rfl) .nil)) | exact .cons (by first | exact .tmp | exact .cell rfl rfl rfl rfl rfl rfl | exact .cell1 rfl rfl rfl rfl rfl) (.cons (by first | exact .tmp | exact .cell rfl rfl rfl rfl rfl rfl | exact .cell1 rfl rfl rfl rfl rfl) (.cons (by first | exact .tmp | exact .cell rfl rfl rfl rfl rfl rfl | exact .cell1 rfl rfl rfl rfl rfl) (.cons (by first | exact .tmp | exact .cell rfl rfl rfl rfl rfl rfl | exact .cell1 rfl rfl rfl rfl rfl) .nil)))) ?_ ⟨rfl, trivial⟩ (injO_1 _ _ _)
  repeat' (first | exact RetRelL.nil | (refine RetRel.nil rfl ?_) | refine RetRelL.cons ?_ ?_ | refine rr_tup ?_ | refine rr_agg ?_ | refine rr_own rfl ?_ | exact RetRel.arg | exact RetRel.argc | refine rr_t ?_)
  all_goals rfl
theorem r8Series_t {l : List Nat} (h : Byt l) (n : Nat) (hn : n ≤ 96) : TCall Try.prog 48 [BY l, .v (.int .i64 n)] (.t (.fl (serL l n))) [] := tcall_fl (r8Series_c h n hn) rfl
theorem rd_eq {a : List Nat} {kd per f k : Nat} (h : SerB a) (hkd : kd ≤ 4) (hk : 1 ≤ k ∧ k ≤ 32) (hp : 1 ≤ per ∧ per ≤ f) (hf : f + k ≤ a.length) {i : Nat} (hi : i < rmN a f k) :
    fcmp .neq .f32 ((rmL a (kd : Nat) (per : Nat) f k).getD i 0) (fop .sub .f32 (a.getD (f + i + k - 1) 0) ((fcL (a.take (f + i)) kd per k).getD (k - 1) 0)) = false := by
  unfold rmL
  rw [getD_mapR _ hi]
  unfold rmN at hi
  have hr := rmA_bd h hkd (k := k) (per := per) (at_ := f + i) hk (by omega) (by omega)
  rw [fcL_get (by omega), show k - 1 + 1 = k by omega, ← hr.2.1]
  exact neq_same hr.2.2.1
theorem rs_one {a : List Nat} {kd per f k : Nat} {w : Int} (h : SerB a) (hkd : kd ≤ 4) (hk : 1 ≤ k ∧ k ≤ 32) (hp : 1 ≤ per ∧ per ≤ f) (hf : f + k ≤ a.length) (hw : 1 ≤ w ∧ w ≤ 8) :
    rollsS [a] (kd : Nat) (per : Nat) (f : Nat) (k : Nat) w = ([(rolledF a (kd : Nat) (per : Nat) (f : Nat) (k : Nat)).1], true) := by
  unfold rollsS
  rw [if_pos (by simp [inR, hw, (rolled_bd h hkd hk hp hf).1])]
  rfl
theorem rs_two {a : List Nat} {kd per f k : Nat} {w : Int} (h : SerB a) (hkd : kd ≤ 4) (hk : 1 ≤ k ∧ k ≤ 32) (hp : 1 ≤ per ∧ per ≤ f) (hf : f + k ≤ a.length) (hw : 1 ≤ w ∧ w ≤ 8) :
    rollsS [a, a] (kd : Nat) (per : Nat) (f : Nat) (k : Nat) w = ([(rolledF a (kd : Nat) (per : Nat) (f : Nat) (k : Nat)).1, (rolledF a (kd : Nat) (per : Nat) (f : Nat) (k : Nat)).1], true) := by
  unfold rollsS
  rw [if_pos (by simp [inR, hw, (rolled_bd h hkd hk hp hf).1])]
  rfl
theorem lawRolled_c (code more : List Nat) (hc : code.length ≤ 9223372036854775807) (hm : more.length ≤ 9223372036854775807) (bc : ∀ i, i < code.length → code.getD i 0 < 256) (bm : ∀ i, i < more.length → more.getD i 0 < 256) :
    TCall Try.prog 6 [BY code, BY more] (.t (.v (.bool true))) [] := by
  by_cases hLg : r8Lg code more = true
  · refine tcall_of Try.func6 rfl (by kernel_rfl) (Nat.le_of_ble_eq_true rfl) rfl ?_
    simp only [argsL, argAV, argCs, argS]
    repeat (first | (refine x_q (h := ?_)) | (refine xd_q (h := ?_)) | (refine w_q (h := ?_)) | (refine w_s (h := ?_)) | (refine w_t (h := ?_)) | (refine w_k (h := ?_)) | (refine y_q (h := ?_)) | (refine y_s (h := ?_)) | (refine y_t (h := ?_)) | (refine y_k (h := ?_)) | (refine lex_nil (by kernel_rfl) ?_) | (refine awp_sq ?_) | (refine awp_rg ?_) | (refine awp_rd (by kernel_rfl) (by kernel_rfl) ?_) | (refine awp_block ?_) | (refine awp_exit ?_) | (refine awp_ret ?_) | (refine awp_skip ?_))
    (first | (refine c_q (r8Long_c code more hc hm) (h := ?_)) | (refine z_q (r8Long_c code more hc hm) (h := ?_)))
    repeat (first | (refine x_q (h := ?_)) | (refine xd_q (h := ?_)) | (refine w_q (h := ?_)) | (refine w_s (h := ?_)) | (refine w_t (h := ?_)) | (refine w_k (h := ?_)) | (refine y_q (h := ?_)) | (refine y_s (h := ?_)) | (refine y_t (h := ?_)) | (refine y_k (h := ?_)) | (refine lex_nil (by kernel_rfl) ?_) | (refine awp_sq ?_) | (refine awp_rg ?_) | (refine awp_rd (by kernel_rfl) (by kernel_rfl) ?_) | (refine awp_block ?_) | (refine awp_exit ?_) | (refine awp_ret ?_) | (refine awp_skip ?_))
    refine awp_ifT rfl hLg ?_
    repeat (first | (refine x_q (h := ?_)) | (refine xd_q (h := ?_)) | (refine w_q (h := ?_)) | (refine w_s (h := ?_)) | (refine w_t (h := ?_)) | (refine w_k (h := ?_)) | (refine y_q (h := ?_)) | (refine y_s (h := ?_)) | (refine y_t (h := ?_)) | (refine y_k (h := ?_)) | (refine lex_nil (by kernel_rfl) ?_) | (refine awp_sq ?_) | (refine awp_rg ?_) | (refine awp_rd (by kernel_rfl) (by kernel_rfl) ?_) | (refine awp_block ?_) | (refine awp_exit ?_) | (refine awp_ret ?_) | (refine awp_skip ?_))
    (refine ret_ok tyOk (by first | exact .inr rfl | exact .inl rfl) pi0 rfl (by first | exact .cons (by first | exact .tmp | exact .cell rfl rfl rfl rfl rfl rfl | exact .cell1 rfl rfl rfl rfl rfl) .nil | exact .cons (by first | exact .tmp | exact .cell rfl rfl rfl rfl rfl rfl | exact .cell1 rfl rfl rfl rfl rfl) (.cons (by first | exact .tmp | exact .cell rfl rfl rfl rfl rfl rfl | exact .cell1 rfl rfl rfl rfl rfl) .nil) | exact .cons (by first | exact .tmp | exact .cell rfl rfl rfl rfl rfl rfl | exact .cell1 rfl rfl rfl rfl rfl) (.cons (by first | exact .tmp | exact .cell rfl rfl rfl rfl rfl rfl | exact .cell1 rfl rfl rfl rfl rfl) (.cons (by first | exact .tmp | exact .cell rfl rfl rfl rfl rfl rfl | exact .cell1 rfl rfl rfl rfl rfl) .nil)) | exact .cons (by first | exact .tmp | exact .cell rfl rfl rfl rfl rfl rfl | exact .cell1 rfl rfl rfl rfl rfl) (.cons (by first | exact .tmp | exact .cell rfl rfl rfl rfl rfl rfl | exact .cell1 rfl rfl rfl rfl rfl) (.cons (by first | exact .tmp | exact .cell rfl rfl rfl rfl rfl rfl | exact .cell1 rfl rfl rfl rfl rfl) (.cons (by first | exact .tmp | exact .cell rfl rfl rfl rfl rfl rfl | exact .cell1 rfl rfl rfl rfl rfl) .nil)))) ?_ trivial (injO_0 _); (repeat' (first | exact RetRelL.nil | (refine RetRel.nil rfl ?_) | refine RetRelL.cons ?_ ?_ | refine rr_tup ?_ | refine rr_agg ?_ | refine rr_own rfl ?_ | exact RetRel.arg | exact RetRel.argc | refine rr_t ?_)); all_goals rfl)
  have hLg' : code.length ≤ 48 ∧ more.length ≤ 48 := by
    unfold r8Lg at hLg
    simp only [Bool.or_eq_true, decide_eq_true_eq] at hLg
    omega
  have hB : Byt code := ⟨by omega, bc⟩
  obtain ⟨n0, e40, l40⟩ := r8N' (l := more) (k := 40) (n := 12) (by omega)
  obtain ⟨kd, e41, l41⟩ := r8N' (l := more) (k := 41) (n := 5) (by omega)
  obtain ⟨p0, e42, l42⟩ := r8N' (l := more) (k := 42) (n := 3) (by omega)
  obtain ⟨f0, e43, l43⟩ := r8N' (l := more) (k := 43) (n := 3) (by omega)
  obtain ⟨a0, e44, l44⟩ := r8N' (l := more) (k := 44) (n := 2) (by omega)
  obtain ⟨v0, e45, l45⟩ := r8N' (l := more) (k := 45) (n := 8) (by omega)
  have t40 := r8At_c more 40 12 hm bm (by omega) (by omega)
  have t41 := r8At_c more 41 5 hm bm (by omega) (by omega)
  have t42 := r8At_c more 42 3 hm bm (by omega) (by omega)
  have t43 := r8At_c more 43 3 hm bm (by omega) (by omega)
  have t44 := r8At_c more 44 2 hm bm (by omega) (by omega)
  have t45 := r8At_c more 45 8 hm bm (by omega) (by omega)
  rw [e40] at t40; rw [e41] at t41; rw [e42] at t42; rw [e43] at t43; rw [e44] at t44; rw [e45] at t45
  obtain ⟨n, hn⟩ : ∃ n, n = n0 + 8 := ⟨_, rfl⟩
  obtain ⟨per, hper⟩ : ∃ n, n = p0 + 1 := ⟨_, rfl⟩
  obtain ⟨f, hf⟩ : ∃ n, n = per + f0 := ⟨_, rfl⟩
  obtain ⟨ah, hah⟩ : ∃ n, n = a0 + 1 := ⟨_, rfl⟩
  obtain ⟨wk, hwk⟩ : ∃ n, n = v0 + 1 := ⟨_, rfl⟩
  have w40 : (8 : Int) + (n0 : Int) = (n : Int) := by omega
  have w42 : (1 : Int) + (p0 : Int) = (per : Int) := by omega
  have w43 : (per : Int) + (f0 : Int) = (f : Int) := by omega
  have w44 : (1 : Int) + (a0 : Int) = (ah : Int) := by omega
  have w45 : (1 : Int) + (v0 : Int) = (wk : Int) := by omega
  have rn : 8 ≤ n ∧ n ≤ 19 := by omega
  have rk : kd ≤ 4 := by omega
  have rp : 1 ≤ per ∧ per ≤ f := by omega
  have rp3 : per ≤ 3 ∧ f ≤ 5 := by omega
  have ra : 1 ≤ ah ∧ ah ≤ 2 := by omega
  have rw1 : 1 ≤ (wk : Int) ∧ (wk : Int) ≤ 8 := by omega
  obtain ⟨a, ha⟩ : ∃ a, a = serL code n := ⟨_, rfl⟩
  have hal : a.length = n := by rw [ha]; exact serL_len code n
  have hS : SerB a := by rw [ha]; exact serL_B hB (by omega)
  have tS := r8Series_t hB n (by omega)
  rw [← ha] at tS
  have tR := implRm_c a kd per f ah (by omega) (by omega)
  rw [rollM_bd hS rk (by omega) rp (by omega)] at tR
  have hNe : ∀ i, i < rmN a f ah → _ := fun i hi => rd_eq hS rk (k := ah) (by omega) rp (by omega) hi
  obtain ⟨ms, hms⟩ : ∃ ms, ms = rmL a (kd : Nat) (per : Nat) f ah := ⟨_, rfl⟩
  have hml : ms.length = n + 1 - (f + ah) := by rw [hms, rmL_len]; unfold rmN; omega
  have hN : rmN a f ah = n + 1 - (f + ah) := by unfold rmN; omega
  rw [← hms] at tR hNe
  obtain ⟨b, hb4, hbk, hbest⟩ := best_ok hS (per := per) (f := f) (k := ah) (by omega) rp (by omega)
  have tB := implBk_c a per f ah (by omega) (by omega)
  rw [hbk] at tB
  have hls1 : ∀ i, i < [a].length → ([a].getD i []).length ≤ 9223372036854775807 := fun i hi => by
    have : i = 0 := by simp at hi; omega
    subst this
    show a.length ≤ _; omega
  have hls2 : ∀ i, i < [a, a].length → ([a, a].getD i []).length ≤ 9223372036854775807 := fun i hi => by
    have : i = 0 ∨ i = 1 := by simp at hi; omega
    rcases this with rfl | rfl <;> (show a.length ≤ _; omega)
  have tG := tcall_ffl (implRs_c [a] (b : Nat) (per : Nat) (f : Nat) (ah : Nat) (wk : Nat) (by simp) hls1 (by omega))
  rw [rs_one hS hb4 (by omega) rp (by omega) rw1] at tG
  have tO := tcall_ffl (implRs_c [a, a] (kd : Nat) (per : Nat) (f : Nat) (ah : Nat) 1 (by simp) hls2 (by omega))
  rw [rs_two hS rk (by omega) rp (by omega) (by omega)] at tO
  have hGO := hbest kd rk
  have hOO := neq_same (rolled_bd hS (kd := kd) rk (k := ah) (by omega) rp (by omega)).2
  have tF : ∀ i, i < ms.length → TCall Try.prog 50 [.fl ((a.take (f + i)).drop 0), .v (.int .i64 kd), .v (.int .i64 per), .v (.int .i64 ah)] (.tup [.own 0 (fcL (a.take (f + i)) kd per ah).length, .t (.v (.bool true))]) [(0, .sl 29 (.fl (fcL (a.take (f + i)) kd per ah)))] := fun i hi => by
    have ht := hS.take (n := f + i) (by omega) (by omega)
    have := implFc_c (a.take (f + i)) kd per ah (by omega)
    rw [fcBy_bd ht.1 rk (by omega) (by omega)] at this
    rw [List.drop_zero]
    exact this
  generalize (rolledF a (b : Nat) (per : Nat) (f : Nat) (ah : Nat)).1 = G at *
  generalize (rolledF a (kd : Nat) (per : Nat) (f : Nat) (ah : Nat)).1 = O at *
  -- what repeats, and lines
  obtain ⟨rd, hrd⟩ : ∃ rd, rd = rndL code per n := ⟨_, rfl⟩
  have hrl : rd.length = n := by rw [hrd]; exact rndL_len code per n
  have hRB : SerB rd := by rw [hrd]; exact rndL_B code (by omega)
  have hrg : ∀ i, i < n → rd.getD i 0 = hw .f32 (2 * r8F code ((i % per : Nat) : Int) 9) := fun i hi => by rw [hrd]; exact rndL_get hi
  have hlg : ∀ i, i < n → (lineL n).getD i 0 = hw .f32 (3 * (i : Int) - 8) := fun i hi => lineL_get hi
  have hLB := lineL_B (n := n) (by omega)
  have hll := lineL_len n
  have tN := implRm_c rd 1 per f ah (by omega) (by omega)
  rw [show (1 : Int) = ((1 : Nat) : Int) from rfl, rollM_bd hRB (by omega) (by omega) rp (by omega)] at tN
  have hz1 := none_zero hRB (per := per) (f := f) (k := ah) (by omega) rp (by omega) (fun i j hi hj he => by rw [hrg i (by omega), hrg j (by omega), he])
  obtain ⟨m2, hm2⟩ : ∃ m : Nat, m = max f 2 := ⟨_, rfl⟩
  have em2 : (if (2 : Int) > (f : Int) then (2 : Int) else (f : Int)) = (m2 : Int) := by split <;> omega
  have tL := implRm_c (lineL n) 3 per m2 ah (by omega) (by omega)
  rw [show (3 : Int) = ((3 : Nat) : Int) from rfl, rollM_bd hLB (by omega) (by omega) (by omega) (by omega)] at tL
  have hz2 := line_zero (n := n) (f := m2) (k := ah) (by omega) (per := per) ra (by omega) (by omega) (by omega)
  have hnl := rmL_len rd ((1 : Nat) : Int) (per : Nat) f ah
  have hsl := rmL_len (lineL n) ((3 : Nat) : Int) (per : Nat) m2 ah
  have hnN : rmN rd f ah = n + 1 - (f + ah) := by unfold rmN; omega
  have hsN : rmN (lineL n) m2 ah = n + 1 - (m2 + ah) := by unfold rmN; omega
  rw [hnN] at hz1 hnl
  rw [hsN] at hz2 hsl
  generalize rmL rd ((1 : Nat) : Int) (per : Nat) f ah = ns at *
  generalize rmL (lineL n) ((3 : Nat) : Int) (per : Nat) m2 ah = ss at *
  dsimp only [flR, flH] at tR tG tO tN tL
  simp only [List.map_cons, List.map_nil] at tG tO
  obtain ⟨gl, hgl⟩ : ∃ gl, gl = [G] := ⟨_, rfl⟩
  obtain ⟨ol, hol⟩ : ∃ ol, ol = [O, O] := ⟨_, rfl⟩
  rw [← hgl] at tG
  rw [← hol] at tO
  have hgl1 : gl.length = 1 := by rw [hgl]; rfl
  have hol1 : ol.length = 2 := by rw [hol]; rfl
  have hGO' : fcmp .gtr .f32 (gl.getD (0 + 0) 0) (ol.getD (0 + 0) 0) = false := by rw [hgl, hol]; exact hGO
  have hOO' : fcmp .neq .f32 (ol.getD (0 + 0) 0) (ol.getD (0 + 1) 0) = false := by rw [hol]; exact hOO
  clear hgl hol hGO hOO
  have g00 := r8Gap_c 0 0
  rw [gap_00] at g00
  clear hms hrd ha hbest hbk hn hper hf hah hwk
  refine tcall_of Try.func6 rfl (by kernel_rfl) (Nat.le_of_ble_eq_true rfl) rfl ?_
  simp only [argsL, argAV, argCs, argS]
  repeat (first | (refine x_q (h := ?_)) | (refine xd_q (h := ?_)) | (refine w_q (h := ?_)) | (refine w_s (h := ?_)) | (refine w_t (h := ?_)) | (refine w_k (h := ?_)) | (refine y_q (h := ?_)) | (refine y_s (h := ?_)) | (refine y_t (h := ?_)) | (refine y_k (h := ?_)) | (refine lex_nil (by kernel_rfl) ?_) | (refine awp_sq ?_) | (refine awp_rg ?_) | (refine awp_rd (by kernel_rfl) (by kernel_rfl) ?_) | (refine awp_block ?_) | (refine awp_exit ?_) | (refine awp_ret ?_) | (refine awp_skip ?_))
  (first | (refine c_q (r8Long_c code more hc hm) (h := ?_)) | (refine z_q (r8Long_c code more hc hm) (h := ?_)))
  repeat (first | (refine x_q (h := ?_)) | (refine xd_q (h := ?_)) | (refine w_q (h := ?_)) | (refine w_s (h := ?_)) | (refine w_t (h := ?_)) | (refine w_k (h := ?_)) | (refine y_q (h := ?_)) | (refine y_s (h := ?_)) | (refine y_t (h := ?_)) | (refine y_k (h := ?_)) | (refine lex_nil (by kernel_rfl) ?_) | (refine awp_sq ?_) | (refine awp_rg ?_) | (refine awp_rd (by kernel_rfl) (by kernel_rfl) ?_) | (refine awp_block ?_) | (refine awp_exit ?_) | (refine awp_ret ?_) | (refine awp_skip ?_))
  refine awp_ifF rfl (by simpa using hLg) ?_
  repeat (first | (refine x_q (h := ?_)) | (refine xd_q (h := ?_)) | (refine w_q (h := ?_)) | (refine w_s (h := ?_)) | (refine w_t (h := ?_)) | (refine w_k (h := ?_)) | (refine y_q (h := ?_)) | (refine y_s (h := ?_)) | (refine y_t (h := ?_)) | (refine y_k (h := ?_)) | (refine lex_nil (by kernel_rfl) ?_) | (refine awp_sq ?_) | (refine awp_rg ?_) | (refine awp_rd (by kernel_rfl) (by kernel_rfl) ?_) | (refine awp_block ?_) | (refine awp_exit ?_) | (refine awp_ret ?_) | (refine awp_skip ?_))
  (first | (refine c_q (t40) (h := ?_)) | (refine z_q (t40) (h := ?_)))
  repeat (first | (refine x_q (h := ?_)) | (refine xd_q (h := ?_)) | (refine w_q (h := ?_)) | (refine w_s (h := ?_)) | (refine w_t (h := ?_)) | (refine w_k (h := ?_)) | (refine y_q (h := ?_)) | (refine y_s (h := ?_)) | (refine y_t (h := ?_)) | (refine y_k (h := ?_)) | (refine lex_nil (by kernel_rfl) ?_) | (refine awp_sq ?_) | (refine awp_rg ?_) | (refine awp_rd (by kernel_rfl) (by kernel_rfl) ?_) | (refine awp_block ?_) | (refine awp_exit ?_) | (refine awp_ret ?_) | (refine awp_skip ?_))
  rw [w40]
  repeat (first | (refine x_q (h := ?_)) | (refine xd_q (h := ?_)) | (refine w_q (h := ?_)) | (refine w_s (h := ?_)) | (refine w_t (h := ?_)) | (refine w_k (h := ?_)) | (refine y_q (h := ?_)) | (refine y_s (h := ?_)) | (refine y_t (h := ?_)) | (refine y_k (h := ?_)) | (refine lex_nil (by kernel_rfl) ?_) | (refine awp_sq ?_) | (refine awp_rg ?_) | (refine awp_rd (by kernel_rfl) (by kernel_rfl) ?_) | (refine awp_block ?_) | (refine awp_exit ?_) | (refine awp_ret ?_) | (refine awp_skip ?_))
  (first | (refine c_q (tS) (h := ?_)) | (refine z_q (tS) (h := ?_)))
  repeat (first | (refine x_q (h := ?_)) | (refine xd_q (h := ?_)) | (refine w_q (h := ?_)) | (refine w_s (h := ?_)) | (refine w_t (h := ?_)) | (refine w_k (h := ?_)) | (refine y_q (h := ?_)) | (refine y_s (h := ?_)) | (refine y_t (h := ?_)) | (refine y_k (h := ?_)) | (refine lex_nil (by kernel_rfl) ?_) | (refine awp_sq ?_) | (refine awp_rg ?_) | (refine awp_rd (by kernel_rfl) (by kernel_rfl) ?_) | (refine awp_block ?_) | (refine awp_exit ?_) | (refine awp_ret ?_) | (refine awp_skip ?_))
  (first | (refine c_q (t41) (h := ?_)) | (refine z_q (t41) (h := ?_)))
  repeat (first | (refine x_q (h := ?_)) | (refine xd_q (h := ?_)) | (refine w_q (h := ?_)) | (refine w_s (h := ?_)) | (refine w_t (h := ?_)) | (refine w_k (h := ?_)) | (refine y_q (h := ?_)) | (refine y_s (h := ?_)) | (refine y_t (h := ?_)) | (refine y_k (h := ?_)) | (refine lex_nil (by kernel_rfl) ?_) | (refine awp_sq ?_) | (refine awp_rg ?_) | (refine awp_rd (by kernel_rfl) (by kernel_rfl) ?_) | (refine awp_block ?_) | (refine awp_exit ?_) | (refine awp_ret ?_) | (refine awp_skip ?_))
  (first | (refine c_q (t42) (h := ?_)) | (refine z_q (t42) (h := ?_)))
  repeat (first | (refine x_q (h := ?_)) | (refine xd_q (h := ?_)) | (refine w_q (h := ?_)) | (refine w_s (h := ?_)) | (refine w_t (h := ?_)) | (refine w_k (h := ?_)) | (refine y_q (h := ?_)) | (refine y_s (h := ?_)) | (refine y_t (h := ?_)) | (refine y_k (h := ?_)) | (refine lex_nil (by kernel_rfl) ?_) | (refine awp_sq ?_) | (refine awp_rg ?_) | (refine awp_rd (by kernel_rfl) (by kernel_rfl) ?_) | (refine awp_block ?_) | (refine awp_exit ?_) | (refine awp_ret ?_) | (refine awp_skip ?_))
  rw [w42]
  repeat (first | (refine x_q (h := ?_)) | (refine xd_q (h := ?_)) | (refine w_q (h := ?_)) | (refine w_s (h := ?_)) | (refine w_t (h := ?_)) | (refine w_k (h := ?_)) | (refine y_q (h := ?_)) | (refine y_s (h := ?_)) | (refine y_t (h := ?_)) | (refine y_k (h := ?_)) | (refine lex_nil (by kernel_rfl) ?_) | (refine awp_sq ?_) | (refine awp_rg ?_) | (refine awp_rd (by kernel_rfl) (by kernel_rfl) ?_) | (refine awp_block ?_) | (refine awp_exit ?_) | (refine awp_ret ?_) | (refine awp_skip ?_))
  (first | (refine c_q (t43) (h := ?_)) | (refine z_q (t43) (h := ?_)))
  repeat (first | (refine x_q (h := ?_)) | (refine xd_q (h := ?_)) | (refine w_q (h := ?_)) | (refine w_s (h := ?_)) | (refine w_t (h := ?_)) | (refine w_k (h := ?_)) | (refine y_q (h := ?_)) | (refine y_s (h := ?_)) | (refine y_t (h := ?_)) | (refine y_k (h := ?_)) | (refine lex_nil (by kernel_rfl) ?_) | (refine awp_sq ?_) | (refine awp_rg ?_) | (refine awp_rd (by kernel_rfl) (by kernel_rfl) ?_) | (refine awp_block ?_) | (refine awp_exit ?_) | (refine awp_ret ?_) | (refine awp_skip ?_))
  rw [w43]
  repeat (first | (refine x_q (h := ?_)) | (refine xd_q (h := ?_)) | (refine w_q (h := ?_)) | (refine w_s (h := ?_)) | (refine w_t (h := ?_)) | (refine w_k (h := ?_)) | (refine y_q (h := ?_)) | (refine y_s (h := ?_)) | (refine y_t (h := ?_)) | (refine y_k (h := ?_)) | (refine lex_nil (by kernel_rfl) ?_) | (refine awp_sq ?_) | (refine awp_rg ?_) | (refine awp_rd (by kernel_rfl) (by kernel_rfl) ?_) | (refine awp_block ?_) | (refine awp_exit ?_) | (refine awp_ret ?_) | (refine awp_skip ?_))
  (first | (refine c_q (t44) (h := ?_)) | (refine z_q (t44) (h := ?_)))
  repeat (first | (refine x_q (h := ?_)) | (refine xd_q (h := ?_)) | (refine w_q (h := ?_)) | (refine w_s (h := ?_)) | (refine w_t (h := ?_)) | (refine w_k (h := ?_)) | (refine y_q (h := ?_)) | (refine y_s (h := ?_)) | (refine y_t (h := ?_)) | (refine y_k (h := ?_)) | (refine lex_nil (by kernel_rfl) ?_) | (refine awp_sq ?_) | (refine awp_rg ?_) | (refine awp_rd (by kernel_rfl) (by kernel_rfl) ?_) | (refine awp_block ?_) | (refine awp_exit ?_) | (refine awp_ret ?_) | (refine awp_skip ?_))
  rw [w44]
  repeat (first | (refine x_q (h := ?_)) | (refine xd_q (h := ?_)) | (refine w_q (h := ?_)) | (refine w_s (h := ?_)) | (refine w_t (h := ?_)) | (refine w_k (h := ?_)) | (refine y_q (h := ?_)) | (refine y_s (h := ?_)) | (refine y_t (h := ?_)) | (refine y_k (h := ?_)) | (refine lex_nil (by kernel_rfl) ?_) | (refine awp_sq ?_) | (refine awp_rg ?_) | (refine awp_rd (by kernel_rfl) (by kernel_rfl) ?_) | (refine awp_block ?_) | (refine awp_exit ?_) | (refine awp_ret ?_) | (refine awp_skip ?_))
  (first | (refine c_s (tR) (h := ?_)) | (refine z_s (tR) (h := ?_)))
  repeat (first | (refine x_q (h := ?_)) | (refine xd_q (h := ?_)) | (refine w_q (h := ?_)) | (refine w_s (h := ?_)) | (refine w_t (h := ?_)) | (refine w_k (h := ?_)) | (refine y_q (h := ?_)) | (refine y_s (h := ?_)) | (refine y_t (h := ?_)) | (refine y_k (h := ?_)) | (refine lex_nil (by kernel_rfl) ?_) | (refine awp_sq ?_) | (refine awp_rg ?_) | (refine awp_rd (by kernel_rfl) (by kernel_rfl) ?_) | (refine awp_block ?_) | (refine awp_exit ?_) | (refine awp_ret ?_) | (refine awp_skip ?_))
  refine awp_ifF rfl rfl ?_
  repeat (first | (refine x_q (h := ?_)) | (refine xd_q (h := ?_)) | (refine w_q (h := ?_)) | (refine w_s (h := ?_)) | (refine w_t (h := ?_)) | (refine w_k (h := ?_)) | (refine y_q (h := ?_)) | (refine y_s (h := ?_)) | (refine y_t (h := ?_)) | (refine y_k (h := ?_)) | (refine lex_nil (by kernel_rfl) ?_) | (refine awp_sq ?_) | (refine awp_rg ?_) | (refine awp_rd (by kernel_rfl) (by kernel_rfl) ?_) | (refine awp_block ?_) | (refine awp_exit ?_) | (refine awp_ret ?_) | (refine awp_skip ?_))
  refine awp_loop (X := Nat) (fun i => i ≤ ms.length) (fun i => [(0, .arg 0 (BY code)), (1, .arg 1 (BY more)), (5, .t (.v (.int .i64 n))), (6, .t (.fl a)), (7, .t (.v (.int .i64 kd))), (8, .t (.v (.int .i64 per))), (9, .t (.v (.int .i64 f))), (10, .t (.v (.int .i64 ah))), (11, .own 58 0 ms.length), (13, .t (.v (.int .i64 i)))])
    (fun _ => [(58, .sl 29 (.fl ms))]) (fun i => ms.length - i)
    0 ⟨by omega, fun i => i, ⟨rfl, rfl, rfl, rfl, rfl, rfl, rfl, rfl, rfl, rfl, trivial⟩, ⟨rfl, trivial⟩, injOn_id _⟩ (fun i hi => ?_)
  repeat (first | (refine x_q (h := ?_)) | (refine xd_q (h := ?_)) | (refine w_q (h := ?_)) | (refine w_s (h := ?_)) | (refine w_t (h := ?_)) | (refine w_k (h := ?_)) | (refine y_q (h := ?_)) | (refine y_s (h := ?_)) | (refine y_t (h := ?_)) | (refine y_k (h := ?_)) | (refine lex_nil (by kernel_rfl) ?_) | (refine awp_sq ?_) | (refine awp_rg ?_) | (refine awp_rd (by kernel_rfl) (by kernel_rfl) ?_) | (refine awp_block ?_) | (refine awp_exit ?_) | (refine awp_ret ?_) | (refine awp_skip ?_))
  refine awp_if rfl (fun h => ?_) (fun h => ?_)
  · -- [[
    simp only [icmp, decide_eq_true_eq] at h
    have hne := hNe i (by omega)
    have tFi := tF i (by omega)
    have hfl := fcL_len (a.take (f + i)) kd per ah
    generalize fcL (a.take (f + i)) kd per ah = gs at *
    have hne' : fcmp .neq .f32 (ms.getD (0 + i) 0) (fop .sub .f32 (a.getD (f + i + ah - 1) 0) (gs.getD (0 + (ah - 1)) 0)) = false := by rw [Nat.zero_add, Nat.zero_add]; exact hne
    repeat (first | (refine x_q (h := ?_)) | (refine xd_q (h := ?_)) | (refine w_q (h := ?_)) | (refine w_s (h := ?_)) | (refine w_t (h := ?_)) | (refine w_k (h := ?_)) | (refine y_q (h := ?_)) | (refine y_s (h := ?_)) | (refine y_t (h := ?_)) | (refine y_k (h := ?_)) | (refine lex_nil (by kernel_rfl) ?_) | (refine awp_sq ?_) | (refine awp_rg ?_) | (refine awp_rd (by kernel_rfl) (by kernel_rfl) ?_) | (refine awp_block ?_) | (refine awp_exit ?_) | (refine awp_ret ?_) | (refine awp_skip ?_))
    (first | (refine w_r (q_slice_tree 0 (f + i) tyOk rfl rfl rfl rfl rfl rfl rfl (by exact rfl) (by exact ⟨_, _, rfl, rfl⟩) (by omega) (by simp only [T.len]; omega)) (h := ?_)) | (refine y_r (q_slice_tree 0 (f + i) tyOk rfl rfl rfl rfl rfl rfl rfl (by exact rfl) (by exact ⟨_, _, rfl, rfl⟩) (by omega) (by simp only [T.len]; omega)) (h := ?_)))
    repeat (first | (refine x_q (h := ?_)) | (refine xd_q (h := ?_)) | (refine w_q (h := ?_)) | (refine w_s (h := ?_)) | (refine w_t (h := ?_)) | (refine w_k (h := ?_)) | (refine y_q (h := ?_)) | (refine y_s (h := ?_)) | (refine y_t (h := ?_)) | (refine y_k (h := ?_)) | (refine lex_nil (by kernel_rfl) ?_) | (refine awp_sq ?_) | (refine awp_rg ?_) | (refine awp_rd (by kernel_rfl) (by kernel_rfl) ?_) | (refine awp_block ?_) | (refine awp_exit ?_) | (refine awp_ret ?_) | (refine awp_skip ?_))
    (first | (refine c_s (tFi) (h := ?_)) | (refine z_s (tFi) (h := ?_)))
    repeat (first | (refine x_q (h := ?_)) | (refine xd_q (h := ?_)) | (refine w_q (h := ?_)) | (refine w_s (h := ?_)) | (refine w_t (h := ?_)) | (refine w_k (h := ?_)) | (refine y_q (h := ?_)) | (refine y_s (h := ?_)) | (refine y_t (h := ?_)) | (refine y_k (h := ?_)) | (refine lex_nil (by kernel_rfl) ?_) | (refine awp_sq ?_) | (refine awp_rg ?_) | (refine awp_rd (by kernel_rfl) (by kernel_rfl) ?_) | (refine awp_block ?_) | (refine awp_exit ?_) | (refine awp_ret ?_) | (refine awp_skip ?_))
    (first | (refine w_r (q_idx_tree (f + i + ah - 1) tyOk rfl rfl rfl rfl rfl rfl rfl rfl (by omega) (by first | omega | (simp only [T.len]; omega) | assumption)) (h := ?_)) | (refine y_r (q_idx_tree (f + i + ah - 1) tyOk rfl rfl rfl rfl rfl rfl rfl rfl (by omega) (by first | omega | (simp only [T.len]; omega) | assumption)) (h := ?_)))
    repeat (first | (refine x_q (h := ?_)) | (refine xd_q (h := ?_)) | (refine w_q (h := ?_)) | (refine w_s (h := ?_)) | (refine w_t (h := ?_)) | (refine w_k (h := ?_)) | (refine y_q (h := ?_)) | (refine y_s (h := ?_)) | (refine y_t (h := ?_)) | (refine y_k (h := ?_)) | (refine lex_nil (by kernel_rfl) ?_) | (refine awp_sq ?_) | (refine awp_rg ?_) | (refine awp_rd (by kernel_rfl) (by kernel_rfl) ?_) | (refine awp_block ?_) | (refine awp_exit ?_) | (refine awp_ret ?_) | (refine awp_skip ?_))
    (first | (refine w_r (q_idx_own (ah - 1) tyOk rfl rfl rfl rfl rfl rfl rfl (by omega) (by first | omega | (simp only [T.len]; omega) | assumption)) (h := ?_)) | (refine y_r (q_idx_own (ah - 1) tyOk rfl rfl rfl rfl rfl rfl rfl (by omega) (by first | omega | (simp only [T.len]; omega) | assumption)) (h := ?_)))
    repeat (first | (refine x_q (h := ?_)) | (refine xd_q (h := ?_)) | (refine w_q (h := ?_)) | (refine w_s (h := ?_)) | (refine w_t (h := ?_)) | (refine w_k (h := ?_)) | (refine y_q (h := ?_)) | (refine y_s (h := ?_)) | (refine y_t (h := ?_)) | (refine y_k (h := ?_)) | (refine lex_nil (by kernel_rfl) ?_) | (refine awp_sq ?_) | (refine awp_rg ?_) | (refine awp_rd (by kernel_rfl) (by kernel_rfl) ?_) | (refine awp_block ?_) | (refine awp_exit ?_) | (refine awp_ret ?_) | (refine awp_skip ?_))
    rw [hne']
    repeat (first | (refine x_q (h := ?_)) | (refine xd_q (h := ?_)) | (refine w_q (h := ?_)) | (refine w_s (h := ?_)) | (refine w_t (h := ?_)) | (refine w_k (h := ?_)) | (refine y_q (h := ?_)) | (refine y_s (h := ?_)) | (refine y_t (h := ?_)) | (refine y_k (h := ?_)) | (refine lex_nil (by kernel_rfl) ?_) | (refine awp_sq ?_) | (refine awp_rg ?_) | (refine awp_rd (by kernel_rfl) (by kernel_rfl) ?_) | (refine awp_block ?_) | (refine awp_exit ?_) | (refine awp_ret ?_) | (refine awp_skip ?_))
    refine awp_ifF rfl rfl ?_
    repeat (first | (refine x_q (h := ?_)) | (refine xd_q (h := ?_)) | (refine w_q (h := ?_)) | (refine w_s (h := ?_)) | (refine w_t (h := ?_)) | (refine w_k (h := ?_)) | (refine y_q (h := ?_)) | (refine y_s (h := ?_)) | (refine y_t (h := ?_)) | (refine y_k (h := ?_)) | (refine lex_nil (by kernel_rfl) ?_) | (refine awp_sq ?_) | (refine awp_rg ?_) | (refine awp_rd (by kernel_rfl) (by kernel_rfl) ?_) | (refine awp_block ?_) | (refine awp_exit ?_) | (refine awp_ret ?_) | (refine awp_skip ?_))
    exact ⟨i + 1, by omega, by omega, fun i => i, ⟨rfl, rfl, rfl, rfl, rfl, rfl, rfl, rfl, rfl, rfl, trivial⟩, ⟨rfl, trivial⟩, injOn_id _⟩
    -- ]]
  repeat (first | (refine x_q (h := ?_)) | (refine xd_q (h := ?_)) | (refine w_q (h := ?_)) | (refine w_s (h := ?_)) | (refine w_t (h := ?_)) | (refine w_k (h := ?_)) | (refine y_q (h := ?_)) | (refine y_s (h := ?_)) | (refine y_t (h := ?_)) | (refine y_k (h := ?_)) | (refine lex_nil (by kernel_rfl) ?_) | (refine awp_sq ?_) | (refine awp_rg ?_) | (refine awp_rd (by kernel_rfl) (by kernel_rfl) ?_) | (refine awp_block ?_) | (refine awp_exit ?_) | (refine awp_ret ?_) | (refine awp_skip ?_))
  (first | (refine c_q (tB) (h := ?_)) | (refine z_q (tB) (h := ?_)))
  repeat (first | (refine x_q (h := ?_)) | (refine xd_q (h := ?_)) | (refine w_q (h := ?_)) | (refine w_s (h := ?_)) | (refine w_t (h := ?_)) | (refine w_k (h := ?_)) | (refine y_q (h := ?_)) | (refine y_s (h := ?_)) | (refine y_t (h := ?_)) | (refine y_k (h := ?_)) | (refine lex_nil (by kernel_rfl) ?_) | (refine awp_sq ?_) | (refine awp_rg ?_) | (refine awp_rd (by kernel_rfl) (by kernel_rfl) ?_) | (refine awp_block ?_) | (refine awp_exit ?_) | (refine awp_ret ?_) | (refine awp_skip ?_))
  refine awp_ifF rfl rfl ?_
  refine awp_skip ?_
  refine awp_weak (fun i => i) [(0, .arg 0 (BY code)), (1, .arg 1 (BY more)), (5, .t (.v (.int .i64 n))), (6, .t (.fl a)), (7, .t (.v (.int .i64 kd))), (8, .t (.v (.int .i64 per))), (9, .t (.v (.int .i64 f))), (10, .t (.v (.int .i64 ah))), (16, .t (.v (.int .i64 b)))] [] (by repeat (first | exact trivial | refine ⟨rfl, ?_⟩)) (by repeat (first | exact trivial | refine ⟨rfl, ?_⟩)) (injOn_id _) ?_
  repeat (first | (refine x_q (h := ?_)) | (refine xd_q (h := ?_)) | (refine w_q (h := ?_)) | (refine w_s (h := ?_)) | (refine w_t (h := ?_)) | (refine w_k (h := ?_)) | (refine y_q (h := ?_)) | (refine y_s (h := ?_)) | (refine y_t (h := ?_)) | (refine y_k (h := ?_)) | (refine lex_nil (by kernel_rfl) ?_) | (refine awp_sq ?_) | (refine awp_rg ?_) | (refine awp_rd (by kernel_rfl) (by kernel_rfl) ?_) | (refine awp_block ?_) | (refine awp_exit ?_) | (refine awp_ret ?_) | (refine awp_skip ?_))
  (first | (refine c_q (t45) (h := ?_)) | (refine z_q (t45) (h := ?_)))
  repeat (first | (refine x_q (h := ?_)) | (refine xd_q (h := ?_)) | (refine w_q (h := ?_)) | (refine w_s (h := ?_)) | (refine w_t (h := ?_)) | (refine w_k (h := ?_)) | (refine y_q (h := ?_)) | (refine y_s (h := ?_)) | (refine y_t (h := ?_)) | (refine y_k (h := ?_)) | (refine lex_nil (by kernel_rfl) ?_) | (refine awp_sq ?_) | (refine awp_rg ?_) | (refine awp_rd (by kernel_rfl) (by kernel_rfl) ?_) | (refine awp_block ?_) | (refine awp_exit ?_) | (refine awp_ret ?_) | (refine awp_skip ?_))
  rw [w45]
  repeat (first | (refine x_q (h := ?_)) | (refine xd_q (h := ?_)) | (refine w_q (h := ?_)) | (refine w_s (h := ?_)) | (refine w_t (h := ?_)) | (refine w_k (h := ?_)) | (refine y_q (h := ?_)) | (refine y_s (h := ?_)) | (refine y_t (h := ?_)) | (refine y_k (h := ?_)) | (refine lex_nil (by kernel_rfl) ?_) | (refine awp_sq ?_) | (refine awp_rg ?_) | (refine awp_rd (by kernel_rfl) (by kernel_rfl) ?_) | (refine awp_block ?_) | (refine awp_exit ?_) | (refine awp_ret ?_) | (refine awp_skip ?_))
  (first | (refine c_s (tG) (h := ?_)) | (refine z_s (tG) (h := ?_)))
  repeat (first | (refine x_q (h := ?_)) | (refine xd_q (h := ?_)) | (refine w_q (h := ?_)) | (refine w_s (h := ?_)) | (refine w_t (h := ?_)) | (refine w_k (h := ?_)) | (refine y_q (h := ?_)) | (refine y_s (h := ?_)) | (refine y_t (h := ?_)) | (refine y_k (h := ?_)) | (refine lex_nil (by kernel_rfl) ?_) | (refine awp_sq ?_) | (refine awp_rg ?_) | (refine awp_rd (by kernel_rfl) (by kernel_rfl) ?_) | (refine awp_block ?_) | (refine awp_exit ?_) | (refine awp_ret ?_) | (refine awp_skip ?_))
  (first | (refine c_s (tO) (h := ?_)) | (refine z_s (tO) (h := ?_)))
  repeat (first | (refine x_q (h := ?_)) | (refine xd_q (h := ?_)) | (refine w_q (h := ?_)) | (refine w_s (h := ?_)) | (refine w_t (h := ?_)) | (refine w_k (h := ?_)) | (refine y_q (h := ?_)) | (refine y_s (h := ?_)) | (refine y_t (h := ?_)) | (refine y_k (h := ?_)) | (refine lex_nil (by kernel_rfl) ?_) | (refine awp_sq ?_) | (refine awp_rg ?_) | (refine awp_rd (by kernel_rfl) (by kernel_rfl) ?_) | (refine awp_block ?_) | (refine awp_exit ?_) | (refine awp_ret ?_) | (refine awp_skip ?_))
  rw [hGO']
  repeat (first | (refine x_q (h := ?_)) | (refine xd_q (h := ?_)) | (refine w_q (h := ?_)) | (refine w_s (h := ?_)) | (refine w_t (h := ?_)) | (refine w_k (h := ?_)) | (refine y_q (h := ?_)) | (refine y_s (h := ?_)) | (refine y_t (h := ?_)) | (refine y_k (h := ?_)) | (refine lex_nil (by kernel_rfl) ?_) | (refine awp_sq ?_) | (refine awp_rg ?_) | (refine awp_rd (by kernel_rfl) (by kernel_rfl) ?_) | (refine awp_block ?_) | (refine awp_exit ?_) | (refine awp_ret ?_) | (refine awp_skip ?_))
  rw [hOO']
  repeat (first | (refine x_q (h := ?_)) | (refine xd_q (h := ?_)) | (refine w_q (h := ?_)) | (refine w_s (h := ?_)) | (refine w_t (h := ?_)) | (refine w_k (h := ?_)) | (refine y_q (h := ?_)) | (refine y_s (h := ?_)) | (refine y_t (h := ?_)) | (refine y_k (h := ?_)) | (refine lex_nil (by kernel_rfl) ?_) | (refine awp_sq ?_) | (refine awp_rg ?_) | (refine awp_rd (by kernel_rfl) (by kernel_rfl) ?_) | (refine awp_block ?_) | (refine awp_exit ?_) | (refine awp_ret ?_) | (refine awp_skip ?_))
  refine awp_ifF rfl rfl ?_
  refine awp_skip ?_
  refine awp_weak (fun i => i) [(0, .arg 0 (BY code)), (5, .t (.v (.int .i64 n))), (8, .t (.v (.int .i64 per))), (9, .t (.v (.int .i64 f))), (10, .t (.v (.int .i64 ah)))] [] (by repeat (first | exact trivial | refine ⟨rfl, ?_⟩)) (by repeat (first | exact trivial | refine ⟨rfl, ?_⟩)) (injOn_id _) ?_
  repeat (first | (refine x_q (h := ?_)) | (refine xd_q (h := ?_)) | (refine w_q (h := ?_)) | (refine w_s (h := ?_)) | (refine w_t (h := ?_)) | (refine w_k (h := ?_)) | (refine y_q (h := ?_)) | (refine y_s (h := ?_)) | (refine y_t (h := ?_)) | (refine y_k (h := ?_)) | (refine lex_nil (by kernel_rfl) ?_) | (refine awp_sq ?_) | (refine awp_rg ?_) | (refine awp_rd (by kernel_rfl) (by kernel_rfl) ?_) | (refine awp_block ?_) | (refine awp_exit ?_) | (refine awp_ret ?_) | (refine awp_skip ?_))
  refine awp_loop (X := Nat) (fun i => i ≤ n) (fun i => [(0, .arg 0 (BY code)), (5, .t (.v (.int .i64 n))), (8, .t (.v (.int .i64 per))), (9, .t (.v (.int .i64 f))), (10, .t (.v (.int .i64 ah))), (22, .own 198 0 i), (23, .own 199 0 i), (24, .t (.v (.int .i64 i)))])
    (fun i => [(198, .sl 29 (.fl (rd.take i))), (199, .sl 29 (.fl ((lineL n).take i)))]) (fun i => n - i)
    0 ⟨by omega, fun i => i, ⟨rfl, rfl, rfl, rfl, rfl, rfl, rfl, rfl, trivial⟩, ⟨rfl, rfl, trivial⟩, injOn_id _⟩ (fun i hi => ?_)
  have y1 : (rd.take i).length = i := by simp [hrl]; omega
  have y2 : ((lineL n).take i).length = i := by simp [hll]; omega
  repeat (first | (refine x_q (h := ?_)) | (refine xd_q (h := ?_)) | (refine w_q (h := ?_)) | (refine w_s (h := ?_)) | (refine w_t (h := ?_)) | (refine w_k (h := ?_)) | (refine y_q (h := ?_)) | (refine y_s (h := ?_)) | (refine y_t (h := ?_)) | (refine y_k (h := ?_)) | (refine lex_nil (by kernel_rfl) ?_) | (refine awp_sq ?_) | (refine awp_rg ?_) | (refine awp_rd (by kernel_rfl) (by kernel_rfl) ?_) | (refine awp_block ?_) | (refine awp_exit ?_) | (refine awp_ret ?_) | (refine awp_skip ?_))
  refine awp_if rfl (fun h => ?_) (fun h => ?_)
  · simp only [icmp, decide_eq_true_eq] at h
    have hmod : ((i : Int) % (per : Int)) = ((i % per : Nat) : Int) := (Int.natCast_emod _ _).symm
    have t9 := r8At_c code ((i % per : Nat) : Int) 9 hc bc (by have := Nat.mod_lt i (show 0 < per by omega); omega) (by omega)
    have hr9 := r8F_lt (l := code) (k := ((i % per : Nat) : Int)) (n := 9) (by omega)
    have hr : fint .f32 (r8F code ((i % per : Nat) : Int) 9) = rd.getD i 0 := by
      rw [hrg i (by omega)]
      obtain ⟨x, hx⟩ : ∃ x : Nat, r8F code ((i % per : Nat) : Int) 9 = (x : Int) := ⟨_, (Int.toNat_of_nonneg hr9.1).symm⟩
      rw [hx] at hr9 ⊢
      exact int_hw (by omega)
    have hl9 : fop .sub .f32 (fop .quo .f32 (fint .f32 (3 * (i : Int))) 1073741824) 1082130432 = (lineL n).getD i 0 := by
      rw [hlg i (by omega), half_hw (by omega), hw8, hw_sub .f32 (by omega) (by omega) (by omega)]
    repeat (first | (refine x_q (h := ?_)) | (refine xd_q (h := ?_)) | (refine w_q (h := ?_)) | (refine w_s (h := ?_)) | (refine w_t (h := ?_)) | (refine w_k (h := ?_)) | (refine y_q (h := ?_)) | (refine y_s (h := ?_)) | (refine y_t (h := ?_)) | (refine y_k (h := ?_)) | (refine lex_nil (by kernel_rfl) ?_) | (refine awp_sq ?_) | (refine awp_rg ?_) | (refine awp_rd (by kernel_rfl) (by kernel_rfl) ?_) | (refine awp_block ?_) | (refine awp_exit ?_) | (refine awp_ret ?_) | (refine awp_skip ?_))
    (first | (refine w_r (q_rem rfl rfl rfl (by omega) (by omega)) (h := ?_)) | (refine y_r (q_rem rfl rfl rfl (by omega) (by omega)) (h := ?_)))
    rw [hmod]
    repeat (first | (refine x_q (h := ?_)) | (refine xd_q (h := ?_)) | (refine w_q (h := ?_)) | (refine w_s (h := ?_)) | (refine w_t (h := ?_)) | (refine w_k (h := ?_)) | (refine y_q (h := ?_)) | (refine y_s (h := ?_)) | (refine y_t (h := ?_)) | (refine y_k (h := ?_)) | (refine lex_nil (by kernel_rfl) ?_) | (refine awp_sq ?_) | (refine awp_rg ?_) | (refine awp_rd (by kernel_rfl) (by kernel_rfl) ?_) | (refine awp_block ?_) | (refine awp_exit ?_) | (refine awp_ret ?_) | (refine awp_skip ?_))
    (first | (refine c_q (t9) (h := ?_)) | (refine z_q (t9) (h := ?_)))
    repeat (first | (refine x_q (h := ?_)) | (refine xd_q (h := ?_)) | (refine w_q (h := ?_)) | (refine w_s (h := ?_)) | (refine w_t (h := ?_)) | (refine w_k (h := ?_)) | (refine y_q (h := ?_)) | (refine y_s (h := ?_)) | (refine y_t (h := ?_)) | (refine y_k (h := ?_)) | (refine lex_nil (by kernel_rfl) ?_) | (refine awp_sq ?_) | (refine awp_rg ?_) | (refine awp_rd (by kernel_rfl) (by kernel_rfl) ?_) | (refine awp_block ?_) | (refine awp_exit ?_) | (refine awp_ret ?_) | (refine awp_skip ?_))
    rw [hr]
    repeat (first | (refine x_q (h := ?_)) | (refine xd_q (h := ?_)) | (refine w_q (h := ?_)) | (refine w_s (h := ?_)) | (refine w_t (h := ?_)) | (refine w_k (h := ?_)) | (refine y_q (h := ?_)) | (refine y_s (h := ?_)) | (refine y_t (h := ?_)) | (refine y_k (h := ?_)) | (refine lex_nil (by kernel_rfl) ?_) | (refine awp_sq ?_) | (refine awp_rg ?_) | (refine awp_rd (by kernel_rfl) (by kernel_rfl) ?_) | (refine awp_block ?_) | (refine awp_exit ?_) | (refine awp_ret ?_) | (refine awp_skip ?_))
    (first | (refine a_s (hn := by exact y1) (h := ?_)) | (refine b_s (hn := by exact y1) (h := ?_)))
    repeat (first | (refine x_q (h := ?_)) | (refine xd_q (h := ?_)) | (refine w_q (h := ?_)) | (refine w_s (h := ?_)) | (refine w_t (h := ?_)) | (refine w_k (h := ?_)) | (refine y_q (h := ?_)) | (refine y_s (h := ?_)) | (refine y_t (h := ?_)) | (refine y_k (h := ?_)) | (refine lex_nil (by kernel_rfl) ?_) | (refine awp_sq ?_) | (refine awp_rg ?_) | (refine awp_rd (by kernel_rfl) (by kernel_rfl) ?_) | (refine awp_block ?_) | (refine awp_exit ?_) | (refine awp_ret ?_) | (refine awp_skip ?_))
    (first | (refine w_r (q_mul rfl rfl rfl (by omega)) (h := ?_)) | (refine y_r (q_mul rfl rfl rfl (by omega)) (h := ?_)))
    repeat (first | (refine x_q (h := ?_)) | (refine xd_q (h := ?_)) | (refine w_q (h := ?_)) | (refine w_s (h := ?_)) | (refine w_t (h := ?_)) | (refine w_k (h := ?_)) | (refine y_q (h := ?_)) | (refine y_s (h := ?_)) | (refine y_t (h := ?_)) | (refine y_k (h := ?_)) | (refine lex_nil (by kernel_rfl) ?_) | (refine awp_sq ?_) | (refine awp_rg ?_) | (refine awp_rd (by kernel_rfl) (by kernel_rfl) ?_) | (refine awp_block ?_) | (refine awp_exit ?_) | (refine awp_ret ?_) | (refine awp_skip ?_))
    rw [hl9]
    repeat (first | (refine x_q (h := ?_)) | (refine xd_q (h := ?_)) | (refine w_q (h := ?_)) | (refine w_s (h := ?_)) | (refine w_t (h := ?_)) | (refine w_k (h := ?_)) | (refine y_q (h := ?_)) | (refine y_s (h := ?_)) | (refine y_t (h := ?_)) | (refine y_k (h := ?_)) | (refine lex_nil (by kernel_rfl) ?_) | (refine awp_sq ?_) | (refine awp_rg ?_) | (refine awp_rd (by kernel_rfl) (by kernel_rfl) ?_) | (refine awp_block ?_) | (refine awp_exit ?_) | (refine awp_ret ?_) | (refine awp_skip ?_))
    (first | (refine a_s (hn := by exact y2) (h := ?_)) | (refine b_s (hn := by exact y2) (h := ?_)))
    repeat (first | (refine x_q (h := ?_)) | (refine xd_q (h := ?_)) | (refine w_q (h := ?_)) | (refine w_s (h := ?_)) | (refine w_t (h := ?_)) | (refine w_k (h := ?_)) | (refine y_q (h := ?_)) | (refine y_s (h := ?_)) | (refine y_t (h := ?_)) | (refine y_k (h := ?_)) | (refine lex_nil (by kernel_rfl) ?_) | (refine awp_sq ?_) | (refine awp_rg ?_) | (refine awp_rd (by kernel_rfl) (by kernel_rfl) ?_) | (refine awp_block ?_) | (refine awp_exit ?_) | (refine awp_ret ?_) | (refine awp_skip ?_))
    exact ⟨i + 1, by omega, by omega, fun i => i, ⟨rfl, rfl, rfl, rfl, rfl, own_eq (by simp only [T.app, T.len, List.length_append, y1]; rfl), own_eq (by simp only [T.app, T.len, List.length_append, y2]; rfl), rfl, trivial⟩, ⟨sl_eq (congrArg T.fl (take_snoc (by omega) rfl)), sl_eq (congrArg T.fl (take_snoc (by omega) rfl)), trivial⟩, injOn_id _⟩
  simp only [icmp, decide_eq_false_iff_not] at h
  obtain rfl : i = n := by omega
  rw [List.take_of_length_le (by omega : rd.length ≤ i), List.take_of_length_le (by omega : (lineL i).length ≤ i)]
  repeat (first | (refine x_q (h := ?_)) | (refine xd_q (h := ?_)) | (refine w_q (h := ?_)) | (refine w_s (h := ?_)) | (refine w_t (h := ?_)) | (refine w_k (h := ?_)) | (refine y_q (h := ?_)) | (refine y_s (h := ?_)) | (refine y_t (h := ?_)) | (refine y_k (h := ?_)) | (refine lex_nil (by kernel_rfl) ?_) | (refine awp_sq ?_) | (refine awp_rg ?_) | (refine awp_rd (by kernel_rfl) (by kernel_rfl) ?_) | (refine awp_block ?_) | (refine awp_exit ?_) | (refine awp_ret ?_) | (refine awp_skip ?_))
  (first | (refine c_s (tN) (h := ?_)) | (refine z_s (tN) (h := ?_)))
  repeat (first | (refine x_q (h := ?_)) | (refine xd_q (h := ?_)) | (refine w_q (h := ?_)) | (refine w_s (h := ?_)) | (refine w_t (h := ?_)) | (refine w_k (h := ?_)) | (refine y_q (h := ?_)) | (refine y_s (h := ?_)) | (refine y_t (h := ?_)) | (refine y_k (h := ?_)) | (refine lex_nil (by kernel_rfl) ?_) | (refine awp_sq ?_) | (refine awp_rg ?_) | (refine awp_rd (by kernel_rfl) (by kernel_rfl) ?_) | (refine awp_block ?_) | (refine awp_exit ?_) | (refine awp_ret ?_) | (refine awp_skip ?_))
  rw [em2]
  repeat (first | (refine x_q (h := ?_)) | (refine xd_q (h := ?_)) | (refine w_q (h := ?_)) | (refine w_s (h := ?_)) | (refine w_t (h := ?_)) | (refine w_k (h := ?_)) | (refine y_q (h := ?_)) | (refine y_s (h := ?_)) | (refine y_t (h := ?_)) | (refine y_k (h := ?_)) | (refine lex_nil (by kernel_rfl) ?_) | (refine awp_sq ?_) | (refine awp_rg ?_) | (refine awp_rd (by kernel_rfl) (by kernel_rfl) ?_) | (refine awp_block ?_) | (refine awp_exit ?_) | (refine awp_ret ?_) | (refine awp_skip ?_))
  (first | (refine c_s (tL) (h := ?_)) | (refine z_s (tL) (h := ?_)))
  repeat (first | (refine x_q (h := ?_)) | (refine xd_q (h := ?_)) | (refine w_q (h := ?_)) | (refine w_s (h := ?_)) | (refine w_t (h := ?_)) | (refine w_k (h := ?_)) | (refine y_q (h := ?_)) | (refine y_s (h := ?_)) | (refine y_t (h := ?_)) | (refine y_k (h := ?_)) | (refine lex_nil (by kernel_rfl) ?_) | (refine awp_sq ?_) | (refine awp_rg ?_) | (refine awp_rd (by kernel_rfl) (by kernel_rfl) ?_) | (refine awp_block ?_) | (refine awp_exit ?_) | (refine awp_ret ?_) | (refine awp_skip ?_))
  refine awp_ifF rfl rfl ?_
  refine awp_skip ?_
  refine awp_weak (fun i => i) [(25, .own 227 0 ns.length), (27, .own 236 0 ss.length)] [(227, .sl 29 (.fl ns)), (236, .sl 29 (.fl ss))] (by repeat (first | exact trivial | refine ⟨rfl, ?_⟩)) (by repeat (first | exact trivial | refine ⟨rfl, ?_⟩)) (injOn_id _) ?_
  repeat (first | (refine x_q (h := ?_)) | (refine xd_q (h := ?_)) | (refine w_q (h := ?_)) | (refine w_s (h := ?_)) | (refine w_t (h := ?_)) | (refine w_k (h := ?_)) | (refine y_q (h := ?_)) | (refine y_s (h := ?_)) | (refine y_t (h := ?_)) | (refine y_k (h := ?_)) | (refine lex_nil (by kernel_rfl) ?_) | (refine awp_sq ?_) | (refine awp_rg ?_) | (refine awp_rd (by kernel_rfl) (by kernel_rfl) ?_) | (refine awp_block ?_) | (refine awp_exit ?_) | (refine awp_ret ?_) | (refine awp_skip ?_))
  refine awp_loop (X := Nat) (fun j => j ≤ ns.length) (fun j => [(25, .own 227 0 ns.length), (27, .own 236 0 ss.length), (29, .t (.v (.int .i64 j)))])
    (fun j => [(227, .sl 29 (.fl ns)), (236, .sl 29 (.fl ss))]) (fun j => ns.length - j)
    0 ⟨by omega, fun i => i, ⟨rfl, rfl, rfl, trivial⟩, ⟨rfl, rfl, trivial⟩, injOn_id _⟩ (fun j hj => ?_)
  repeat (first | (refine x_q (h := ?_)) | (refine xd_q (h := ?_)) | (refine w_q (h := ?_)) | (refine w_s (h := ?_)) | (refine w_t (h := ?_)) | (refine w_k (h := ?_)) | (refine y_q (h := ?_)) | (refine y_s (h := ?_)) | (refine y_t (h := ?_)) | (refine y_k (h := ?_)) | (refine lex_nil (by kernel_rfl) ?_) | (refine awp_sq ?_) | (refine awp_rg ?_) | (refine awp_rd (by kernel_rfl) (by kernel_rfl) ?_) | (refine awp_block ?_) | (refine awp_exit ?_) | (refine awp_ret ?_) | (refine awp_skip ?_))
  refine awp_if rfl (fun h3 => ?_) (fun h3 => ?_)
  · simp only [icmp, decide_eq_true_eq] at h3
    have hv : ns.getD (0 + j) 0 = 0 := by rw [Nat.zero_add]; exact hz1 j (by omega)
    repeat (first | (refine x_q (h := ?_)) | (refine xd_q (h := ?_)) | (refine w_q (h := ?_)) | (refine w_s (h := ?_)) | (refine w_t (h := ?_)) | (refine w_k (h := ?_)) | (refine y_q (h := ?_)) | (refine y_s (h := ?_)) | (refine y_t (h := ?_)) | (refine y_k (h := ?_)) | (refine lex_nil (by kernel_rfl) ?_) | (refine awp_sq ?_) | (refine awp_rg ?_) | (refine awp_rd (by kernel_rfl) (by kernel_rfl) ?_) | (refine awp_block ?_) | (refine awp_exit ?_) | (refine awp_ret ?_) | (refine awp_skip ?_))
    rw [hv]
    repeat (first | (refine x_q (h := ?_)) | (refine xd_q (h := ?_)) | (refine w_q (h := ?_)) | (refine w_s (h := ?_)) | (refine w_t (h := ?_)) | (refine w_k (h := ?_)) | (refine y_q (h := ?_)) | (refine y_s (h := ?_)) | (refine y_t (h := ?_)) | (refine y_k (h := ?_)) | (refine lex_nil (by kernel_rfl) ?_) | (refine awp_sq ?_) | (refine awp_rg ?_) | (refine awp_rd (by kernel_rfl) (by kernel_rfl) ?_) | (refine awp_block ?_) | (refine awp_exit ?_) | (refine awp_ret ?_) | (refine awp_skip ?_))
    rw [neq_00]
    repeat (first | (refine x_q (h := ?_)) | (refine xd_q (h := ?_)) | (refine w_q (h := ?_)) | (refine w_s (h := ?_)) | (refine w_t (h := ?_)) | (refine w_k (h := ?_)) | (refine y_q (h := ?_)) | (refine y_s (h := ?_)) | (refine y_t (h := ?_)) | (refine y_k (h := ?_)) | (refine lex_nil (by kernel_rfl) ?_) | (refine awp_sq ?_) | (refine awp_rg ?_) | (refine awp_rd (by kernel_rfl) (by kernel_rfl) ?_) | (refine awp_block ?_) | (refine awp_exit ?_) | (refine awp_ret ?_) | (refine awp_skip ?_))
    refine awp_ifF rfl rfl ?_
    repeat (first | (refine x_q (h := ?_)) | (refine xd_q (h := ?_)) | (refine w_q (h := ?_)) | (refine w_s (h := ?_)) | (refine w_t (h := ?_)) | (refine w_k (h := ?_)) | (refine y_q (h := ?_)) | (refine y_s (h := ?_)) | (refine y_t (h := ?_)) | (refine y_k (h := ?_)) | (refine lex_nil (by kernel_rfl) ?_) | (refine awp_sq ?_) | (refine awp_rg ?_) | (refine awp_rd (by kernel_rfl) (by kernel_rfl) ?_) | (refine awp_block ?_) | (refine awp_exit ?_) | (refine awp_ret ?_) | (refine awp_skip ?_))
    exact ⟨j + 1, by omega, by omega, fun i => i, ⟨rfl, rfl, rfl, trivial⟩, ⟨rfl, rfl, trivial⟩, injOn_id _⟩
  repeat (first | (refine x_q (h := ?_)) | (refine xd_q (h := ?_)) | (refine w_q (h := ?_)) | (refine w_s (h := ?_)) | (refine w_t (h := ?_)) | (refine w_k (h := ?_)) | (refine y_q (h := ?_)) | (refine y_s (h := ?_)) | (refine y_t (h := ?_)) | (refine y_k (h := ?_)) | (refine lex_nil (by kernel_rfl) ?_) | (refine awp_sq ?_) | (refine awp_rg ?_) | (refine awp_rd (by kernel_rfl) (by kernel_rfl) ?_) | (refine awp_block ?_) | (refine awp_exit ?_) | (refine awp_ret ?_) | (refine awp_skip ?_))
  refine awp_loop (X := Nat) (fun j => j ≤ ss.length) (fun j => [(27, .own 236 0 ss.length), (30, .t (.v (.int .i64 j)))])
    (fun j => [(236, .sl 29 (.fl ss))]) (fun j => ss.length - j)
    0 ⟨by omega, fun i => i, ⟨rfl, rfl, trivial⟩, ⟨rfl, trivial⟩, injOn_id _⟩ (fun j hj => ?_)
  repeat (first | (refine x_q (h := ?_)) | (refine xd_q (h := ?_)) | (refine w_q (h := ?_)) | (refine w_s (h := ?_)) | (refine w_t (h := ?_)) | (refine w_k (h := ?_)) | (refine y_q (h := ?_)) | (refine y_s (h := ?_)) | (refine y_t (h := ?_)) | (refine y_k (h := ?_)) | (refine lex_nil (by kernel_rfl) ?_) | (refine awp_sq ?_) | (refine awp_rg ?_) | (refine awp_rd (by kernel_rfl) (by kernel_rfl) ?_) | (refine awp_block ?_) | (refine awp_exit ?_) | (refine awp_ret ?_) | (refine awp_skip ?_))
  refine awp_if rfl (fun h4 => ?_) (fun h4 => ?_)
  · simp only [icmp, decide_eq_true_eq] at h4
    have hv : ss.getD (0 + j) 0 = 0 := by rw [Nat.zero_add]; exact hz2 j (by omega)
    repeat (first | (refine x_q (h := ?_)) | (refine xd_q (h := ?_)) | (refine w_q (h := ?_)) | (refine w_s (h := ?_)) | (refine w_t (h := ?_)) | (refine w_k (h := ?_)) | (refine y_q (h := ?_)) | (refine y_s (h := ?_)) | (refine y_t (h := ?_)) | (refine y_k (h := ?_)) | (refine lex_nil (by kernel_rfl) ?_) | (refine awp_sq ?_) | (refine awp_rg ?_) | (refine awp_rd (by kernel_rfl) (by kernel_rfl) ?_) | (refine awp_block ?_) | (refine awp_exit ?_) | (refine awp_ret ?_) | (refine awp_skip ?_))
    rw [hv]
    repeat (first | (refine x_q (h := ?_)) | (refine xd_q (h := ?_)) | (refine w_q (h := ?_)) | (refine w_s (h := ?_)) | (refine w_t (h := ?_)) | (refine w_k (h := ?_)) | (refine y_q (h := ?_)) | (refine y_s (h := ?_)) | (refine y_t (h := ?_)) | (refine y_k (h := ?_)) | (refine lex_nil (by kernel_rfl) ?_) | (refine awp_sq ?_) | (refine awp_rg ?_) | (refine awp_rd (by kernel_rfl) (by kernel_rfl) ?_) | (refine awp_block ?_) | (refine awp_exit ?_) | (refine awp_ret ?_) | (refine awp_skip ?_))
    (first | (refine c_q (g00) (h := ?_)) | (refine z_q (g00) (h := ?_)))
    repeat (first | (refine x_q (h := ?_)) | (refine xd_q (h := ?_)) | (refine w_q (h := ?_)) | (refine w_s (h := ?_)) | (refine w_t (h := ?_)) | (refine w_k (h := ?_)) | (refine y_q (h := ?_)) | (refine y_s (h := ?_)) | (refine y_t (h := ?_)) | (refine y_k (h := ?_)) | (refine lex_nil (by kernel_rfl) ?_) | (refine awp_sq ?_) | (refine awp_rg ?_) | (refine awp_rd (by kernel_rfl) (by kernel_rfl) ?_) | (refine awp_block ?_) | (refine awp_exit ?_) | (refine awp_ret ?_) | (refine awp_skip ?_))
    rw [gtr_00]
    repeat (first | (refine x_q (h := ?_)) | (refine xd_q (h := ?_)) | (refine w_q (h := ?_)) | (refine w_s (h := ?_)) | (refine w_t (h := ?_)) | (refine w_k (h := ?_)) | (refine y_q (h := ?_)) | (refine y_s (h := ?_)) | (refine y_t (h := ?_)) | (refine y_k (h := ?_)) | (refine lex_nil (by kernel_rfl) ?_) | (refine awp_sq ?_) | (refine awp_rg ?_) | (refine awp_rd (by kernel_rfl) (by kernel_rfl) ?_) | (refine awp_block ?_) | (refine awp_exit ?_) | (refine awp_ret ?_) | (refine awp_skip ?_))
    refine awp_ifF rfl rfl ?_
    repeat (first | (refine x_q (h := ?_)) | (refine xd_q (h := ?_)) | (refine w_q (h := ?_)) | (refine w_s (h := ?_)) | (refine w_t (h := ?_)) | (refine w_k (h := ?_)) | (refine y_q (h := ?_)) | (refine y_s (h := ?_)) | (refine y_t (h := ?_)) | (refine y_k (h := ?_)) | (refine lex_nil (by kernel_rfl) ?_) | (refine awp_sq ?_) | (refine awp_rg ?_) | (refine awp_rd (by kernel_rfl) (by kernel_rfl) ?_) | (refine awp_block ?_) | (refine awp_exit ?_) | (refine awp_ret ?_) | (refine awp_skip ?_))
    exact ⟨j + 1, by omega, by omega, fun i => i, ⟨rfl, rfl, trivial⟩, ⟨rfl, trivial⟩, injOn_id _⟩
  repeat (first | (refine x_q (h := ?_)) | (refine xd_q (h := ?_)) | (refine w_q (h := ?_)) | (refine w_s (h := ?_)) | (refine w_t (h := ?_)) | (refine w_k (h := ?_)) | (refine y_q (h := ?_)) | (refine y_s (h := ?_)) | (refine y_t (h := ?_)) | (refine y_k (h := ?_)) | (refine lex_nil (by kernel_rfl) ?_) | (refine awp_sq ?_) | (refine awp_rg ?_) | (refine awp_rd (by kernel_rfl) (by kernel_rfl) ?_) | (refine awp_block ?_) | (refine awp_exit ?_) | (refine awp_ret ?_) | (refine awp_skip ?_))
  (refine ret_ok tyOk (by first | exact .inr rfl | exact .inl rfl) pi0 rfl (by first | exact .cons (by first | exact .tmp | exact .cell rfl rfl rfl rfl rfl rfl | exact .cell1 rfl rfl rfl rfl rfl) .nil | exact .cons (by first | exact .tmp | exact .cell rfl rfl rfl rfl rfl rfl | exact .cell1 rfl rfl rfl rfl rfl) (.cons (by first | exact .tmp | exact .cell rfl rfl rfl rfl rfl rfl | exact .cell1 rfl rfl rfl rfl rfl) .nil) | exact .cons (by first | exact .tmp | exact .cell rfl rfl rfl rfl rfl rfl | exact .cell1 rfl rfl rfl rfl rfl) (.cons (by first | exact .tmp | exact .cell rfl rfl rfl rfl rfl rfl | exact .cell1 rfl rfl rfl rfl rfl) (.cons (by first | exact .tmp | exact .cell rfl rfl rfl rfl rfl rfl | exact .cell1 rfl rfl rfl rfl rfl) .nil)) | exact .cons (by first | exact .tmp | exact .cell rfl rfl rfl rfl rfl rfl | exact .cell1 rfl rfl rfl rfl rfl) (.cons (by first | exact .tmp | exact .cell rfl rfl rfl rfl rfl rfl | exact .cell1 rfl rfl rfl rfl rfl) (.cons (by first | exact .tmp | exact .cell rfl rfl rfl rfl rfl rfl | exact .cell1 rfl rfl rfl rfl rfl) (.cons (by first | exact .tmp | exact .cell rfl rfl rfl rfl rfl rfl | exact .cell1 rfl rfl rfl rfl rfl) .nil)))) ?_ trivial (injO_0 _); (repeat' (first | exact RetRelL.nil | (refine RetRel.nil rfl ?_) | refine RetRelL.cons ?_ ?_ | refine rr_tup ?_ | refine rr_agg ?_ | refine rr_own rfl ?_ | exact RetRel.arg | exact RetRel.argc | refine rr_t ?_)); all_goals rfl)
end Go.Proofs.Ytjjpjnhjnpplcaa
