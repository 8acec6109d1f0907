import Derived.Test.YtmnpdipiffmnhaaVT185
set_option linter.unusedVariables false
set_option linter.unusedSimpArgs false
set_option maxRecDepth 20000
set_option maxHeartbeats 16000000
namespace Go.Proofs.Ytmnpdipiffmnhaa
open Go.Aw

/-! ### FnBands: what is drawn fits the walk -/
theorem r8NB {l : List Nat} {k n : Int} (hn : 1 ≤ n) : ∃ x : Nat, r8F l k n = (x : Int) ∧ (x : Int) < n := by
  have := r8F_lt (l := l) (k := k) hn
  exact ⟨(r8F l k n).toNat, by omega, by omega⟩
theorem sd_at {k : Nat} (hk : k < 8) : near43 (fop .quo .f32 (sdS needsL (e8 (k : Int)) 2 9).1 (sdS needsL (e8 (k : Int)) 2 9).2.1) = true := List.all_eq_true.1 sd_tab k (List.mem_range.2 hk)
theorem ch_at {k : Nat} (hk : k < 8) : near43 (fop .mul .f32 (chS needsL (e8 (k : Int)) 0 2 9).1 (chS needsL (e8 (k : Int)) 0 2 9).2) = true := List.all_eq_true.1 ch_tab k (List.mem_range.2 hk)
theorem near_t {x : Nat} (h : near43 x = true) : fin x = true ∧ fcmp .lss .f64 (gapR x 1068149419) 4562254508917369340 = true := by
  unfold near43 at h; rwa [Bool.and_eq_true] at h
structure TsI (s : Nat) : Prop where
  a : (tsS seas5 2 s 3).2.all fin = true
  b : fin (tsS seas5 2 s 3).1 = true
  c : fcmp .lss .f64 (gapR (tsS seas5 2 s 3).1 1077936128) 4562254508917369340 = true
  d : fcmp .lss .f64 (gapR ((tsS seas5 2 s 3).2.getD 0 0) 1059760811) 4562254508917369340 = true
  e : fcmp .lss .f64 (gapR ((tsS seas5 2 s 3).2.getD 1 0) 1068149419) 4562254508917369340 = true
theorem ts_at {k : Nat} (hk : k < 8) : TsI (e8 (k : Int)) := by
  have := List.all_eq_true.1 ts_tab k (List.mem_range.2 hk)
  simp only [Bool.and_eq_true] at this
  obtain ⟨⟨⟨⟨a, b⟩, c⟩, d⟩, e⟩ := this
  exact ⟨a, b, c, d, (near_t e).2⟩
theorem serL_bd {l : List Nat} (h : Byt l) {n : Nat} (hn : n ≤ 96) : ∀ i, i < (serL l n).length → Bd ((serL l n).getD i 0) 64 := (serL_hw h hn).bd
theorem r8SharesB {l : List Nat} (h : Byt l) : TCall Try.prog 53 [BY l] (.agg [.t (.f .f32 (shD l).l), .t (.f .f32 (shD l).s), .t (.f .f32 (shD l).c), .t (.f .f32 (shD l).d)]) [] := r8Shares_c h
attribute [local irreducible] QRun LexD AWp TCall TMut fop fint fcmp fconv gapR sdS chS tsS e8 serL stD shD bandsF bqL ahL levL dlV dlW near43
theorem lawFnBands_c (code more : List Nat) (hc : code.length ≤ 9223372036854775807) (hm : more.length ≤ 9223372036854775807) (bc : ∀ i, i < code.length → code.getD i 0 < 256) (bm : ∀ i, i < more.length → more.getD i 0 < 256) :
    TCall Try.prog 8 [BY code, BY more] (.t (.v (.bool true))) [] := by
  cases hLg : r8Lg code more with
  | true =>
    refine tcall_of Try.func8 rfl (by kernel_rfl) (Nat.le_of_ble_eq_true rfl) rfl ?_
    simp only [argsL, argAV, argCs, argS]
    repeat (first | (refine x_q (h := ?_)) | (refine xd_q (h := ?_)) | (refine w_q (h := ?_)) | (refine w_s (h := ?_)) | (refine w_t (h := ?_)) | (refine w_k (h := ?_)) | (refine y_q (h := ?_)) | (refine y_s (h := ?_)) | (refine y_t (h := ?_)) | (refine y_k (h := ?_)) | (refine lex_nil (by kernel_rfl) ?_) | (refine awp_sq ?_) | (refine awp_rg ?_) | (refine awp_rd (by kernel_rfl) (by kernel_rfl) ?_) | (refine awp_block ?_) | (refine awp_exit ?_) | (refine awp_ret ?_) | (refine awp_skip ?_))
    (first | (refine c_q (r8Long_c code more hc hm) (h := ?_)) | (refine z_q (r8Long_c code more hc hm) (h := ?_)))
    rw [hLg]
    repeat (first | (refine x_q (h := ?_)) | (refine xd_q (h := ?_)) | (refine w_q (h := ?_)) | (refine w_s (h := ?_)) | (refine w_t (h := ?_)) | (refine w_k (h := ?_)) | (refine y_q (h := ?_)) | (refine y_s (h := ?_)) | (refine y_t (h := ?_)) | (refine y_k (h := ?_)) | (refine lex_nil (by kernel_rfl) ?_) | (refine awp_sq ?_) | (refine awp_rg ?_) | (refine awp_rd (by kernel_rfl) (by kernel_rfl) ?_) | (refine awp_block ?_) | (refine awp_exit ?_) | (refine awp_ret ?_) | (refine awp_skip ?_))
    refine awp_ifT rfl rfl ?_
    repeat (first | (refine x_q (h := ?_)) | (refine xd_q (h := ?_)) | (refine w_q (h := ?_)) | (refine w_s (h := ?_)) | (refine w_t (h := ?_)) | (refine w_k (h := ?_)) | (refine y_q (h := ?_)) | (refine y_s (h := ?_)) | (refine y_t (h := ?_)) | (refine y_k (h := ?_)) | (refine lex_nil (by kernel_rfl) ?_) | (refine awp_sq ?_) | (refine awp_rg ?_) | (refine awp_rd (by kernel_rfl) (by kernel_rfl) ?_) | (refine awp_block ?_) | (refine awp_exit ?_) | (refine awp_ret ?_) | (refine awp_skip ?_))
    (refine ret_ok tyOk (by first | exact .inr rfl | exact .inl rfl) pi0 rfl (by first | exact .cons (by first | exact .tmp | exact .cell rfl rfl rfl rfl rfl rfl | exact .cell1 rfl rfl rfl rfl rfl) .nil | exact .cons (by first | exact .tmp | exact .cell rfl rfl rfl rfl rfl rfl | exact .cell1 rfl rfl rfl rfl rfl) (.cons (by first | exact .tmp | exact .cell rfl rfl rfl rfl rfl rfl | exact .cell1 rfl rfl rfl rfl rfl) .nil) | exact .cons (by first | exact .tmp | exact .cell rfl rfl rfl rfl rfl rfl | exact .cell1 rfl rfl rfl rfl rfl) (.cons (by first | exact .tmp | exact .cell rfl rfl rfl rfl rfl rfl | exact .cell1 rfl rfl rfl rfl rfl) (.cons (by first | exact .tmp | exact .cell rfl rfl rfl rfl rfl rfl | exact .cell1 rfl rfl rfl rfl rfl) .nil)) | exact .cons (by first | exact .tmp | exact .cell rfl rfl rfl rfl rfl rfl | exact .cell1 rfl rfl rfl rfl rfl) (.cons (by first | exact .tmp | exact .cell rfl rfl rfl rfl rfl rfl | exact .cell1 rfl rfl rfl rfl rfl) (.cons (by first | exact .tmp | exact .cell rfl rfl rfl rfl rfl rfl | exact .cell1 rfl rfl rfl rfl rfl) (.cons (by first | exact .tmp | exact .cell rfl rfl rfl rfl rfl rfl | exact .cell1 rfl rfl rfl rfl rfl) .nil)))) ?_ trivial (injO_0 _); (repeat' (first | exact RetRelL.nil | (refine RetRel.nil rfl ?_) | refine RetRelL.cons ?_ ?_ | refine rr_tup ?_ | refine rr_agg ?_ | refine rr_own rfl ?_ | exact RetRel.arg | exact RetRel.argc | refine rr_t ?_)); all_goals rfl)
  | false =>
    have hLg' : code.length ≤ 48 ∧ more.length ≤ 48 := by
      unfold r8Lg at hLg
      simp only [Bool.or_eq_false_iff, decide_eq_false_iff_not] at hLg
      omega
    have hB : Byt code := ⟨by omega, bc⟩
    have hBm : Byt more := ⟨by omega, bm⟩
    obtain ⟨x0, e40, l40⟩ := r8NB (l := more) (k := 40) (n := 6) (by omega)
    obtain ⟨x1, e41, l41⟩ := r8NB (l := more) (k := 41) (n := 5) (by omega)
    obtain ⟨x2, e42, l42⟩ := r8NB (l := more) (k := 42) (n := 8) (by omega)
    obtain ⟨x3, e43, l43⟩ := r8NB (l := more) (k := 43) (n := 256) (by omega)
    obtain ⟨x4, e44, l44⟩ := r8NB (l := more) (k := 44) (n := 10) (by omega)
    obtain ⟨x5, e45, l45⟩ := r8NB (l := more) (k := 45) (n := 8) (by omega)
    have t40 := r8At_c more 40 6 hm bm (by omega) (by omega)
    have t41 := r8At_c more 41 5 hm bm (by omega) (by omega)
    have t42 := r8At_c more 42 8 hm bm (by omega) (by omega)
    have t43 := r8At_c more 43 256 hm bm (by omega) (by omega)
    have t44 := r8At_c more 44 10 hm bm (by omega) (by omega)
    have t45 := r8At_c more 45 8 hm bm (by omega) (by omega)
    rw [e40] at t40; rw [e41] at t41; rw [e42] at t42; rw [e43] at t43; rw [e44] at t44; rw [e45] at t45
    have hs := stD_b hB
    have hh := shD_b hBm
    have hml := serL_len more (x0 + 1)
    have hll := serL_len code (x4 + 1)
    have hmb := serL_bd hBm (n := x0 + 1) (by omega)
    have hlb := serL_bd hB (n := x4 + 1) (by omega)
    have hsd : x3 * 65537 < 4294967296 := by omega
    have q := q8_of (n := x2 + 1) (by omega) (by omega)
    have b1 := band_of (C := x1 + 1) (D := x2 + 1) hs hh hmb ⟨by omega, by omega⟩ hsd ⟨by omega, by omega⟩ ⟨by omega, by omega⟩ shr_123.1 q.f1
    have b3 := band_of (C := x1 + 1) (D := x2 + 1) hs hh hmb ⟨by omega, by omega⟩ hsd ⟨by omega, by omega⟩ ⟨by omega, by omega⟩ shr_123.2.2 q.f3
    have b2 := band_of (C := x1 + 1) (D := x2 + 1) (m := [0]) hs hh bd_z ⟨by simp, by simp⟩ hsd ⟨by omega, by omega⟩ ⟨by omega, by omega⟩ shr_123.2.1 q.f2
    have hsl : (stD code).se.length ≤ 1048576 := validS_len hs.valid
    have tB1 := implBands_c (stD code) (shD more) (serL more (x0 + 1)) ((x1 + 1 : Nat) : Int) ((x2 + 1 : Nat) : Int) ((x3 * 65537 : Nat) : Int) sh1 hsl (by omega) F32_123.1
    have tB3 := implBands_c (stD code) (shD more) (serL more (x0 + 1)) ((x1 + 1 : Nat) : Int) ((x2 + 1 : Nat) : Int) ((x3 * 65537 : Nat) : Int) sh3 hsl (by omega) F32_123.2.2
    have tB2 := implBands_c (stD code) (shD more) [0] ((x1 + 1 : Nat) : Int) ((x2 + 1 : Nat) : Int) ((x3 * 65537 : Nat) : Int) sh2 hsl (by simp) F32_123.2.1
    rw [b1.yes] at tB1
    rw [b3.yes] at tB3
    rw [b2.yes] at tB2
    have hav : ∀ k, k < x1 + 1 → Bd (ahV (stD code) (shD more) k) 600 := fun k hk => (ahV_bd hs hh (by omega)).1
    have hal := ahL_len (stD code) (shD more) (x1 + 1)
    have tA := aheadOf_t (s := stD code) (sh := shD more) (n := x1 + 1) hs.valid hh.v (by omega) (all_fin2 fun i hi => by
      rw [hal] at hi
      rw [ahL_get hi]; exact (hav i hi).1)
    have L := levI_of (k := x5) hlb (by omega) (by omega) (by omega)
    have N0 := need_0
    have sdt := near_t (sd_at (k := x5) (by omega))
    have cht := near_t (ch_at (k := x5) (by omega))
    have T := ts_at (k := x5) (by omega)
    have tN := seldom_t (l := needsL) (s := e8 (x5 : Int)) (f := 2) N0.1 N0.2.1 L.shr N0.2.2.1 (by decide) sdt.1
    have tC := chance_t (l := needsL) (s := e8 (x5 : Int)) (c := 0) (f := 2) N0.1 N0.2.1 L.shr N0.2.2.2.1 N0.2.2.1 (by decide) cht.1
    have tT := times_c (l := seas5) (p := 2) (s := e8 (x5 : Int)) N0.2.2.2.2.1 N0.2.2.2.2.2 L.shr T.a T.b
    refine walkBands_c (s := stD code) (h := shD more) (m := serL more (x0 + 1)) (list := serL code (x4 + 1)) (low := bqL (stD code) (shD more) (serL more (x0 + 1)) (x3 * 65537) (x1 + 1) (x2 + 1) sh1) (high := bqL (stD code) (shD more) (serL more (x0 + 1)) (x3 * 65537) (x1 + 1) (x2 + 1) sh3) (non := bqL (stD code) (shD more) [0] (x3 * 65537) (x1 + 1) (x2 + 1) sh2) (ahead := ahL (stD code) (shD more) (x1 + 1))
      (lev := levL (serL code (x4 + 1)) (e8 (x5 : Int)) (serL code (x4 + 1)).length) (factors := (tsS seas5 2 (e8 (x5 : Int)) 3).2) (C := x1 + 1) (D := x2 + 1) (sd := x3 * 65537) (x0 := x0) (x1 := x1) (x2 := x2) (x3 := x3) (x4 := x4) (x5 := x5) (share := e8 (x5 : Int)) (lvl := dlV (serL code (x4 + 1)) (e8 (x5 : Int))) (slope := dlW (serL code (x4 + 1)) (e8 (x5 : Int)))
      (rate := fop .quo .f32 (sdS needsL (e8 (x5 : Int)) 2 9).1 (sdS needsL (e8 (x5 : Int)) 2 9).2.1) (chance := fop .mul .f32 (chS needsL (e8 (x5 : Int)) 0 2 9).1 (chS needsL (e8 (x5 : Int)) 0 2 9).2) (height := (tsS seas5 2 (e8 (x5 : Int)) 3).1) hc hm hLg
      { tS := r8State_c hB, tH := r8SharesB hBm, t40 := t40, t41 := t41, t42 := t42, t43 := t43, t44 := t44, t45 := t45, w0 := hml, w1 := rfl, w2 := rfl, w3 := rfl, w4 := hll, w5 := by unfold e8; rfl, r := by omega,
        tM := by rw [hml]; exact r8Series_t hBm (x0 + 1) (by omega), tL := by rw [hll]; exact r8Series_t hB (x4 + 1) (by omega),
        tB1 := tcall_fl3B tB1 rfl, tB3 := tcall_fl3B tB3 rfl, tB2 := tcall_fl3B tB2 rfl, tA := tcall_fl2 tA hal.symm,
        l1 := bqL_len _ _ _ _ _ _ _, l2 := bqL_len _ _ _ _ _ _ _, l3 := bqL_len _ _ _ _ _ _ _, l4 := hal,
        k1 := fun k hk => band_le hs hh hmb ⟨by omega, by omega⟩ hsd ⟨by omega, by omega⟩ ⟨by omega, by omega⟩ hk,
        k2 := fun k hk => by rw [ahL_get hk]; exact band_none hs hh hsd (by omega) ⟨by omega, by omega⟩ hk,
        tV := simpleL_t L.ser L.shr L.f1, tD := doubleL_t L.ser L.shr L.f1 L.f2 L.lt L.v L.w, l5 := levL_len _ _ _, q0 := L.eq0, qz := L.z, qs := L.st,
        tN := tN, tC := tC, tT := tcall_flF tT (tsS_len (by decide) 3).symm, l6 := tsS_len (by decide) 3, z1 := sdt.2, z2 := cht.2, z3 := T.c, z4 := T.d, z5 := T.e }
end Go.Proofs.Ytmnpdipiffmnhaa

