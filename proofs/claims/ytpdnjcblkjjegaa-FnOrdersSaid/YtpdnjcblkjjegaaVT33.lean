import Derived.Test.YtpdnjcblkjjegaaVT32
set_option linter.unusedVariables false
set_option linter.unusedSimpArgs false
set_option maxRecDepth 20000
set_option maxHeartbeats 8000000
namespace Go.Proofs.Ytpdnjcblkjjegaa
open Go.Aw
attribute [local irreducible] QRun LexD AWp TCall TMut fop fint fcmp fconv lgQ lgN1 lgN2 lgY1


theorem extFrom64 : ExtOk Try.prog 114 Extern.MathFloatBits.float64frombits := ⟨fun args w => by
  have hf := Try.func114
  have h1 : (Try.f114.name == "runtime.NumGoroutine") = false := by kernel_rfl
  have h2 : Try.f114.body = none := by kernel_rfl
  have h3 : Extern.findNext Try.f114 = none := by kernel_rfl
  have h4 : Extern.find Try.f114 = some Extern.MathFloatBits.float64frombits := by kernel_rfl
  simp only [callFunc, Sem.run_bind, run_program, Result.andThen_ok, hf]
  simp only [h1, h2, Bool.false_eq_true, if_false]
  simp [h3, h4]⟩
theorem q_from64 {P : Program} {o : Oper} {F : List Nat} {ρ : Fr} {η : Hp} {f : FuncId} {x : Operand} {tys : Array TypeId} {n : Int} (he : ExtOk P f Extern.MathFloatBits.float64frombits) (ho : o.op = .call { callee := .value (.func f), args := #[x], argTypes := tys })
    (hx : evA ρ x = .t (.v (.int .u64 n))) (hn : n.toNat < 18446744073709551616) : QRun P o F [] ρ η (.t (.f .f64 (canon .f64 n.toNat))) (lkH []) := by
  refine qrun_val fun vs w0 μ η' a w h1 h2 h3 => ?_
  have hx' := h3 x (by simp [ho, Op.operands, Call.operands])
  rw [hx, VR, TR] at hx'
  have ef : a.eval (.func f) = .func (.func f) #[] #[] := rfl
  have eg : Extern.MathFloatBits.float64frombits #[.int .u64 n] = pure (.float .f64 n.toNat) := rfl
  refine ⟨.float .f64 n.toNat, w.drawn, ?_, ?_⟩
  · simp [execOp, ho, hx', resolve, Deferred.ofValue, ef, invoke, he.run, eg]
  · rw [VR, TR]; exact ⟨_, rfl, FR_of (by rw [width64]; exact hn)⟩
theorem mathInf_c : TCall Try.prog 81 [.v (.int .i64 (-1))] (.t (.f .f64 18442240474082181120)) [] := by
  refine tcall_of Try.func81 rfl (by kernel_rfl) (Nat.le_of_ble_eq_true rfl) rfl ?_
  simp only [argsL, argAV, argCs, argS]
  refine V3 ?_
  refine awp_ifF rfl rfl ?_
  refine V3 ?_
  (first | (refine w_r (q_from64 extFrom64 rfl rfl (by decide)) (h := ?_)) | (refine y_r (q_from64 extFrom64 rfl rfl (by decide)) (h := ?_)))
  refine V3 ?_
  refine u_0 ?_
  repeat' (first | exact RetRelL.nil | refine RetRel.nil rfl ?_ | refine RetRelL.cons ?_ ?_ | refine rr_tup ?_ | refine rr_agg ?_ | refine rr_own rfl ?_ | exact RetRel.arg | exact RetRel.argc | refine rr_t ?_)
  exact congrArg _ canNI
theorem mathNaN_c : TCall Try.prog 82 [] (.t (.f .f64 (nan0 .f64))) [] := by
  refine tcall_of Try.func82 rfl (by kernel_rfl) (Nat.le_of_ble_eq_true rfl) rfl ?_
  simp only [argsL, argAV, argCs, argS]
  refine V3 ?_
  (first | (refine w_r (q_from64 extFrom64 rfl rfl (by decide)) (h := ?_)) | (refine y_r (q_from64 extFrom64 rfl rfl (by decide)) (h := ?_)))
  refine V3 ?_
  refine u_0 ?_
  repeat' (first | exact RetRelL.nil | refine RetRel.nil rfl ?_ | refine RetRelL.cons ?_ ?_ | refine rr_tup ?_ | refine rr_agg ?_ | refine rr_own rfl ?_ | exact RetRel.arg | exact RetRel.argc | refine rr_t ?_)
  exact congrArg _ canNan
theorem isInf_c (c : Nat) : TCall Try.prog 119 [.f .f64 c, .v (.int .i64 1)] (.t (.v (.bool (fcmp .gtr .f64 c 9218868437227405311)))) [] := by
  refine tcall_of Try.func119 rfl (by kernel_rfl) (Nat.le_of_ble_eq_true rfl) rfl ?_
  simp only [argsL, argAV, argCs, argS]
  refine V3 ?_
  refine awp_ifF rfl rfl ?_
  refine V3 ?_
  refine awp_ifF rfl rfl ?_
  refine V3 ?_
  refine u_0 ?_
  repeat' (first | exact RetRelL.nil | refine RetRel.nil rfl ?_ | refine RetRelL.cons ?_ ?_ | refine rr_tup ?_ | refine rr_agg ?_ | refine rr_own rfl ?_ | exact RetRel.arg | exact RetRel.argc | refine rr_t ?_)
  rfl
theorem natLog_c (y : Nat) (h1 : 874 * 4503599627370496 ≤ y) (h2 : y ≤ 1151 * 4503599627370496) : TCall Try.prog 83 [.f .f64 y] (.t (.f .f64 (lgW y))) [] := by
  obtain ⟨a1, a2, a4, b1, b2, b3, b4, hy1⟩ := logFacts h1 h2
  have hI : ∀ n, y - n * 4503599627370496 < 9218868437227405312 := fun n => Nat.lt_of_le_of_lt (Nat.sub_le _ _) (Nat.lt_of_le_of_lt h2 (by decide))
  have hJ : ∀ n, n ≤ lgN2 (lgY1 y) → lgY1 y + n * 4503599627370496 < 9218868437227405312 := fun n hn => Nat.lt_trans (b4 n hn) (by decide)
  clear h1 h2
  refine tcall_of Try.func83 rfl (by kernel_rfl) (Nat.le_of_ble_eq_true rfl) rfl ?_
  simp only [argsL, argAV, argCs, argS]
  refine V3 ?_
  refine awp_loop (X := Nat) (fun n => n ≤ lgN1 y) (fun n => [(0, .t (.f .f64 (y - n * 4503599627370496))), (3, .t (.f .f64 (fint .f64 (n : Nat))))]) (fun _ => []) (fun n => lgN1 y - n)
    0 ⟨Nat.zero_le _, fun i => i, ⟨fEq (by rw [Nat.zero_mul, Nat.sub_zero]), fEq fint0.symm, trivial⟩, trivial, injOn_id _⟩ (fun n hn => ?_)
  refine V3 ?_
  refine awp_if rfl (fun h => ?_) (fun h => ?_)
  · rw [geq_pos (hI n) (by decide)] at h
    have h' := of_decide_eq_true h
    have hlt : n < lgN1 y := Nat.lt_of_le_of_ne hn (fun g => a4 n g h')
    refine V3 ?_
    exact ⟨n + 1, Nat.sub_lt_sub_left hlt (Nat.lt_succ_self n), hlt, fun i => i, ⟨fEq (by rw [half64 (Nat.le_trans (by decide) h') (hI n), Nat.sub_sub, Nat.add_mul, Nat.one_mul]), fEq (by rw [fint_inc (e := (n : Nat)) (by omega) (by omega)]; rfl), trivial⟩, trivial, injOn_id _⟩
  rw [geq_pos (hI n) (by decide)] at h
  have h' := of_decide_eq_false h
  have hN : n = lgN1 y := by
    rcases Nat.lt_or_ge n (lgN1 y) with g | g
    · exact absurd (a2 n g) h'
    · exact Nat.le_antisymm hn g
  subst hN
  clear h h'
  refine V3 ?_
  refine awp_loop (X := Nat) (fun n => n ≤ lgN2 (lgY1 y)) (fun n => [(0, .t (.f .f64 (lgY1 y + n * 4503599627370496))), (3, .t (.f .f64 (fint .f64 ((lgN1 y : Int) - (n : Nat)))))]) (fun _ => []) (fun n => lgN2 (lgY1 y) - n)
    0 ⟨Nat.zero_le _, fun i => i, ⟨fEq (by rw [Nat.zero_mul, Nat.add_zero]; unfold lgY1; rfl), fEq (by simp), trivial⟩, trivial, injOn_id _⟩ (fun n hn => ?_)
  refine V3 ?_
  refine awp_if rfl (fun h => ?_) (fun h => ?_)
  · rw [lss_pos (hJ n hn) (by decide)] at h
    have h' := of_decide_eq_true h
    have hlt : n < lgN2 (lgY1 y) := Nat.lt_of_le_of_ne hn (fun g => b3 n g h')
    refine V3 ?_
    exact ⟨n + 1, Nat.sub_lt_sub_left hlt (Nat.lt_succ_self n), hlt, fun i => i, ⟨fEq (by rw [double64 (Nat.le_trans (by decide) (Nat.le_trans hy1 (Nat.le_add_right _ _))) (Nat.lt_trans h' (by decide)), Nat.add_mul, Nat.one_mul, Nat.add_assoc]), fEq (by rw [fint_dec (e := (lgN1 y : Int) - (n : Nat)) (by omega) (by omega)]; congr 1; omega), trivial⟩, trivial, injOn_id _⟩
  rw [lss_pos (hJ n hn) (by decide)] at h
  have h' := of_decide_eq_false h
  have hN : n = lgN2 (lgY1 y) := by
    rcases Nat.lt_or_ge n (lgN2 (lgY1 y)) with g | g
    · exact absurd (b2 n g) h'
    · exact Nat.le_antisymm hn g
  subst hN
  clear h h'
  refine V3 ?_
  refine awp_loop (X := Nat) (fun n => n ≤ 13) (fun n => [(3, .t (.f .f64 (fint .f64 ((lgN1 y : Int) - (lgN2 (lgY1 y) : Nat))))), (4, .t (.f .f64 (lgS (lgY2 (lgY1 y))))), (5, .t (.f .f64 (fop .mul .f64 (lgS (lgY2 (lgY1 y))) (lgS (lgY2 (lgY1 y)))))), (6, .t (.f .f64 (lgQ (fop .mul .f64 (lgS (lgY2 (lgY1 y))) (lgS (lgY2 (lgY1 y)))) n))), (7, .t (.f .f64 (fint .f64 (25 - 2 * (n : Nat)))))]) (fun _ => []) (fun n => 13 - n)
    0 ⟨Nat.zero_le _, fun i => i, ⟨rfl, rfl, rfl, fEq (lgQ0 _).symm, fEq fint25.symm, trivial⟩, trivial, injOn_id _⟩ (fun n hn => ?_)
  refine V3 ?_
  refine awp_if rfl (fun h => ?_) (fun h => ?_)
  · rw [lgk_cond hn] at h
    have h' := of_decide_eq_true h
    refine V3 ?_
    exact ⟨n + 1, by omega, by omega, fun i => i, ⟨rfl, rfl, rfl, fEq (lgQS _ _).symm, fEq (lgk_next hn), trivial⟩, trivial, injOn_id _⟩
  rw [lgk_cond hn] at h
  have h' := of_decide_eq_false h
  have hN : n = 13 := by omega
  subst hN
  refine V3 ?_
  refine u_0 ?_
  repeat' (first | exact RetRelL.nil | refine RetRel.nil rfl ?_ | refine RetRelL.cons ?_ ?_ | refine rr_tup ?_ | refine rr_agg ?_ | refine rr_own rfl ?_ | exact RetRel.arg | exact RetRel.argc | refine rr_t ?_)
  unfold lgW lgP
  rfl
theorem logNumber_c (c : Nat) (hc : F32 c) : TCall Try.prog 39 [.f .f32 c] (.t (.f .f32 (logF c))) [] := by
  refine tcall_of Try.func39 rfl (by kernel_rfl) (Nat.le_of_ble_eq_true rfl) rfl ?_
  simp only [argsL, argAV, argCs, argS]
  refine V3 ?_
  refine awp_if rfl (fun h1 => ?_) (fun h1 => ?_)
  · refine V3 ?_
    refine c_q (mathInf_c) (h := ?_)
    refine V3 ?_
    (first | (refine w_r (q_cv_ff tyOk rfl rfl rfl rfl rfl (by decide) rfl (by decide +kernel)) (h := ?_)) | (refine y_r (q_cv_ff tyOk rfl rfl rfl rfl rfl (by decide) rfl (by decide +kernel)) (h := ?_)))
    refine V3 ?_
    refine u_0 ?_
    repeat' (first | exact RetRelL.nil | refine RetRel.nil rfl ?_ | refine RetRelL.cons ?_ ?_ | refine rr_tup ?_ | refine rr_agg ?_ | refine rr_own rfl ?_ | exact RetRel.arg | exact RetRel.argc | refine rr_t ?_)
    rw [logF1 h1]
  refine V3 ?_
  have hnan : (fcmp .lss .f32 c 0 || fcmp .neq .f32 c c) = true → logF c = fconv .f64 .f32 (nan0 .f64) := fun h => logF2 h1 h
  refine lex_if rfl rfl rfl (fun h2 => ?_) (fun h2 => ?_)
  · refine V3 ?_
    refine awp_ifT rfl rfl ?_
    refine V3 ?_
    refine c_q (mathNaN_c) (h := ?_)
    refine V3 ?_
    (first | (refine w_r (q_cv_ff tyOk rfl rfl rfl rfl rfl (by decide) rfl (by decide +kernel)) (h := ?_)) | (refine y_r (q_cv_ff tyOk rfl rfl rfl rfl rfl (by decide) rfl (by decide +kernel)) (h := ?_)))
    refine V3 ?_
    refine u_0 ?_
    repeat' (first | exact RetRelL.nil | refine RetRel.nil rfl ?_ | refine RetRelL.cons ?_ ?_ | refine rr_tup ?_ | refine rr_agg ?_ | refine rr_own rfl ?_ | exact RetRel.arg | exact RetRel.argc | refine rr_t ?_)
    rw [hnan (by rw [h2]; rfl)]
  refine V3 ?_
  refine awp_if rfl (fun h3 => ?_) (fun h3 => ?_)
  · refine V3 ?_
    refine c_q (mathNaN_c) (h := ?_)
    refine V3 ?_
    (first | (refine w_r (q_cv_ff tyOk rfl rfl rfl rfl rfl (by decide) rfl (by decide +kernel)) (h := ?_)) | (refine y_r (q_cv_ff tyOk rfl rfl rfl rfl rfl (by decide) rfl (by decide +kernel)) (h := ?_)))
    refine V3 ?_
    refine u_0 ?_
    repeat' (first | exact RetRelL.nil | refine RetRel.nil rfl ?_ | refine RetRelL.cons ?_ ?_ | refine rr_tup ?_ | refine rr_agg ?_ | refine rr_own rfl ?_ | exact RetRel.arg | exact RetRel.argc | refine rr_t ?_)
    rw [hnan (by rw [h3, Bool.or_true])]
  refine V3 ?_
  refine c_q (isFinite_c _) (h := ?_)
  refine V3 ?_
  refine awp_if rfl (fun h4 => ?_) (fun h4 => ?_)
  · refine V3 ?_
    refine u_0 ?_
    repeat' (first | exact RetRelL.nil | refine RetRel.nil rfl ?_ | refine RetRelL.cons ?_ ?_ | refine rr_tup ?_ | refine rr_agg ?_ | refine rr_own rfl ?_ | exact RetRel.arg | exact RetRel.argc | refine rr_t ?_)
    rw [logF3 h1 (by rw [h2, h3]; rfl) (by simpa using h4)]
  have hb := log_pos hc h1 h2 h3 (by simpa using h4)
  refine V3 ?_
  refine c_q (natLog_c _ hb.1 hb.2) (h := ?_)
  refine V3 ?_
  (first | (refine w_r (q_cv_ff tyOk rfl rfl rfl rfl rfl (by decide) rfl (lgW_ok hb.1 hb.2)) (h := ?_)) | (refine y_r (q_cv_ff tyOk rfl rfl rfl rfl rfl (by decide) rfl (lgW_ok hb.1 hb.2)) (h := ?_)))
  refine V3 ?_
  refine u_0 ?_
  repeat' (first | exact RetRelL.nil | refine RetRel.nil rfl ?_ | refine RetRelL.cons ?_ ?_ | refine rr_tup ?_ | refine rr_agg ?_ | refine rr_own rfl ?_ | exact RetRel.arg | exact RetRel.argc | refine rr_t ?_)
  rw [logF4 h1 (by rw [h2, h3]; rfl) (by simpa using h4)]
theorem logWide_c (y : Nat) (hr : (fcmp .neq .f64 y y || fcmp .lss .f64 y 0) = false → fcmp .eql .f64 y 0 = false → fcmp .gtr .f64 y 9218868437227405311 = false → 874 * 4503599627370496 ≤ y ∧ y ≤ 1151 * 4503599627370496) :
    TCall Try.prog 97 [.f .f64 y] (.t (.f .f64 (logY y))) [] := by
  refine tcall_of Try.func97 rfl (by kernel_rfl) (Nat.le_of_ble_eq_true rfl) rfl ?_
  simp only [argsL, argAV, argCs, argS]
  refine V3 ?_
  refine lex_if rfl rfl rfl (fun h1 => ?_) (fun h1 => ?_)
  · refine V3 ?_
    refine awp_ifT rfl rfl ?_
    refine V3 ?_
    refine c_q (mathNaN_c) (h := ?_)
    refine V3 ?_
    refine u_0 ?_
    repeat' (first | exact RetRelL.nil | refine RetRel.nil rfl ?_ | refine RetRelL.cons ?_ ?_ | refine rr_tup ?_ | refine rr_agg ?_ | refine rr_own rfl ?_ | exact RetRel.arg | exact RetRel.argc | refine rr_t ?_)
    rw [logY1 (by rw [h1]; rfl)]
  refine V3 ?_
  refine awp_if rfl (fun h2 => ?_) (fun h2 => ?_)
  · refine V3 ?_
    refine c_q (mathNaN_c) (h := ?_)
    refine V3 ?_
    refine u_0 ?_
    repeat' (first | exact RetRelL.nil | refine RetRel.nil rfl ?_ | refine RetRelL.cons ?_ ?_ | refine rr_tup ?_ | refine rr_agg ?_ | refine rr_own rfl ?_ | exact RetRel.arg | exact RetRel.argc | refine rr_t ?_)
    rw [logY1 (by rw [h2, Bool.or_true])]
  have h12 : (fcmp .neq .f64 y y || fcmp .lss .f64 y 0) = false := by rw [h1, h2]; rfl
  refine V3 ?_
  refine awp_if rfl (fun h3 => ?_) (fun h3 => ?_)
  · refine V3 ?_
    refine c_q (mathInf_c) (h := ?_)
    refine V3 ?_
    refine u_0 ?_
    repeat' (first | exact RetRelL.nil | refine RetRel.nil rfl ?_ | refine RetRelL.cons ?_ ?_ | refine rr_tup ?_ | refine rr_agg ?_ | refine rr_own rfl ?_ | exact RetRel.arg | exact RetRel.argc | refine rr_t ?_)
    rw [logY2 h12 h3]
  refine V3 ?_
  refine c_q (isInf_c _) (h := ?_)
  refine V3 ?_
  refine awp_if rfl (fun h4 => ?_) (fun h4 => ?_)
  · refine V3 ?_
    refine u_0 ?_
    repeat' (first | exact RetRelL.nil | refine RetRel.nil rfl ?_ | refine RetRelL.cons ?_ ?_ | refine rr_tup ?_ | refine rr_agg ?_ | refine rr_own rfl ?_ | exact RetRel.arg | exact RetRel.argc | refine rr_t ?_)
    rw [logY3 h12 h3 h4]
  obtain ⟨g1, g2⟩ := hr h12 h3 h4
  rw [logY4 h12 h3 h4]
  obtain ⟨a1, a2, a4, b1, b2, b3, b4, hy1⟩ := logFacts g1 g2
  have hI : ∀ n, y - n * 4503599627370496 < 9218868437227405312 := fun n => Nat.lt_of_le_of_lt (Nat.sub_le _ _) (Nat.lt_of_le_of_lt g2 (by decide))
  have hJ : ∀ n, n ≤ lgN2 (lgY1 y) → lgY1 y + n * 4503599627370496 < 9218868437227405312 := fun n hn => Nat.lt_trans (b4 n hn) (by decide)
  clear g1 g2 h1 h2 h3 h4 h12 hr
  refine V3 ?_
  refine awp_loop (X := Nat) (fun n => n ≤ lgN1 y) (fun n => [(0, .t (.f .f64 (y - n * 4503599627370496))), (3, .t (.v (.int .i64 (n : Nat))))]) (fun _ => []) (fun n => lgN1 y - n)
    0 ⟨Nat.zero_le _, fun i => i, ⟨fEq (by rw [Nat.zero_mul, Nat.sub_zero]), rfl, trivial⟩, trivial, injOn_id _⟩ (fun n hn => ?_)
  refine V3 ?_
  refine awp_if rfl (fun h => ?_) (fun h => ?_)
  · rw [geq_pos (hI n) (by decide)] at h
    have h' := of_decide_eq_true h
    have hlt : n < lgN1 y := Nat.lt_of_le_of_ne hn (fun g => a4 n g h')
    refine V3 ?_
    exact ⟨n + 1, Nat.sub_lt_sub_left hlt (Nat.lt_succ_self n), hlt, fun i => i, ⟨fEq (by rw [half64 (Nat.le_trans (by decide) h') (hI n), Nat.sub_sub, Nat.add_mul, Nat.one_mul]), rfl, trivial⟩, trivial, injOn_id _⟩
  rw [geq_pos (hI n) (by decide)] at h
  have h' := of_decide_eq_false h
  have hN : n = lgN1 y := by
    rcases Nat.lt_or_ge n (lgN1 y) with g | g
    · exact absurd (a2 n g) h'
    · exact Nat.le_antisymm hn g
  subst hN
  clear h h'
  refine V3 ?_
  refine awp_loop (X := Nat) (fun n => n ≤ lgN2 (lgY1 y)) (fun n => [(0, .t (.f .f64 (lgY1 y + n * 4503599627370496))), (3, .t (.v (.int .i64 ((lgN1 y : Int) - (n : Nat)))))]) (fun _ => []) (fun n => lgN2 (lgY1 y) - n)
    0 ⟨Nat.zero_le _, fun i => i, ⟨fEq (by rw [Nat.zero_mul, Nat.add_zero]; unfold lgY1; rfl), iEq (by simp), trivial⟩, trivial, injOn_id _⟩ (fun n hn => ?_)
  refine V3 ?_
  refine awp_if rfl (fun h => ?_) (fun h => ?_)
  · rw [lss_pos (hJ n hn) (by decide)] at h
    have h' := of_decide_eq_true h
    have hlt : n < lgN2 (lgY1 y) := Nat.lt_of_le_of_ne hn (fun g => b3 n g h')
    refine V3 ?_
    exact ⟨n + 1, Nat.sub_lt_sub_left hlt (Nat.lt_succ_self n), hlt, fun i => i, ⟨fEq (by rw [double64 (Nat.le_trans (by decide) (Nat.le_trans hy1 (Nat.le_add_right _ _))) (Nat.lt_trans h' (by decide)), Nat.add_mul, Nat.one_mul, Nat.add_assoc]), iEq (by omega), trivial⟩, trivial, injOn_id _⟩
  rw [lss_pos (hJ n hn) (by decide)] at h
  have h' := of_decide_eq_false h
  have hN : n = lgN2 (lgY1 y) := by
    rcases Nat.lt_or_ge n (lgN2 (lgY1 y)) with g | g
    · exact absurd (b2 n g) h'
    · exact Nat.le_antisymm hn g
  subst hN
  clear h h'
  refine V3 ?_
  refine awp_loop (X := Nat) (fun n => n ≤ 13) (fun n => [(3, .t (.v (.int .i64 ((lgN1 y : Int) - (lgN2 (lgY1 y) : Nat))))), (4, .t (.f .f64 (lgS (lgY2 (lgY1 y))))), (5, .t (.f .f64 (fop .mul .f64 (lgS (lgY2 (lgY1 y))) (lgS (lgY2 (lgY1 y)))))), (6, .t (.f .f64 (lgQ (fop .mul .f64 (lgS (lgY2 (lgY1 y))) (lgS (lgY2 (lgY1 y)))) n))), (7, .t (.v (.int .i64 (25 - 2 * (n : Nat)))))]) (fun _ => []) (fun n => 13 - n)
    0 ⟨Nat.zero_le _, fun i => i, ⟨rfl, rfl, rfl, fEq (lgQ0 _).symm, iEq (by simp), trivial⟩, trivial, injOn_id _⟩ (fun n hn => ?_)
  refine V3 ?_
  refine awp_if rfl (fun h => ?_) (fun h => ?_)
  · simp only [icmp, decide_eq_true_eq] at h
    refine V3 ?_
    exact ⟨n + 1, by omega, by omega, fun i => i, ⟨rfl, rfl, rfl, fEq (lgQS _ _).symm, iEq (by omega), trivial⟩, trivial, injOn_id _⟩
  simp only [icmp, decide_eq_false_iff_not] at h
  have hN : n = 13 := by omega
  subst hN
  refine V3 ?_
  refine u_0 ?_
  repeat' (first | exact RetRelL.nil | refine RetRel.nil rfl ?_ | refine RetRelL.cons ?_ ?_ | refine rr_tup ?_ | refine rr_agg ?_ | refine rr_own rfl ?_ | exact RetRel.arg | exact RetRel.argc | refine rr_t ?_)
  unfold lgW lgP
  rfl
theorem l01Log_c (c : Nat) (hc : F32 c) : TCall Try.prog 56 [.f .f32 c] (.t (.f .f32 (logF c))) [] := by
  have he := log_eq hc
  refine tcall_of Try.func56 rfl (by kernel_rfl) (Nat.le_of_ble_eq_true rfl) rfl ?_
  simp only [argsL, argAV, argCs, argS]
  refine V3 ?_
  refine c_q (logWide_c _ (fun k1 k2 k3 => log_range hc k1 k2 k3)) (h := ?_)
  refine V3 ?_
  refine c_q (l01Narrow_c _ he.1) (h := ?_)
  refine V3 ?_
  refine u_0 ?_
  repeat' (first | exact RetRelL.nil | refine RetRel.nil rfl ?_ | refine RetRelL.cons ?_ ?_ | refine rr_tup ?_ | refine rr_agg ?_ | refine rr_own rfl ?_ | exact RetRel.arg | exact RetRel.argc | refine rr_t ?_)
  rw [he.2]
end Go.Proofs.Ytpdnjcblkjjegaa

