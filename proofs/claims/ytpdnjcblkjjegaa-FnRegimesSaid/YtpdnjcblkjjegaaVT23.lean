import Derived.Test.YtpdnjcblkjjegaaVT28
import Derived.Test.YtpdnjcblkjjegaaVAwF
import Derived.Test.YtpdnjcblkjjegaaVT3
import Derived.Test.YtpdnjcblkjjegaaVAwC
set_option linter.unusedVariables false
set_option linter.unusedSimpArgs false
set_option maxRecDepth 20000
set_option maxHeartbeats 8000000
namespace Go.Proofs.Ytpdnjcblkjjegaa
open Go.Aw
attribute [local irreducible] QRun LexD AWp TCall TMut fop fint fcmp fconv exP sqP

/-! ### the exponential of what is not above nought -/
def exF (y : Nat) : Nat := if fcmp .lss .f32 y 3276275712 then 0 else exW (exT y)
theorem exF_nan {y : Nat} (h : isNan .f32 y = true) : exF y = nan0 .f64 := by
  unfold exF
  rw [nan_cmp .lss .f32 _ h (.inl rfl), exT_nan h, exW_nan]; rfl
theorem conv_nan64 {y : Nat} (h : isNan .f32 y = true) : fconv .f32 .f64 y = nan0 .f64 := by unfold fconv; rw [h]; rfl
theorem neg_neq {y : Nat} (hy : Neg0 y) : fcmp .neq .f64 (fconv .f32 .f64 y) (fconv .f32 .f64 y) = isNan .f32 y := by
  rw [neq_self]
  cases hn : isNan .f32 y with
  | true => rw [conv_nan64 hn]; exact nan0_nan .f64
  | false =>
    rcases hy with h | h | ⟨r, hr, h⟩
    · rw [hn] at h; cases h
    · subst h; decide +kernel
    · subst h
      obtain ⟨R, h1, h2, _, _⟩ := widen_all hr
      rw [h2]; exact neg_notnan .f64 true (by rw [inf64]; exact h1)
theorem conv_exF {y : Nat} : fconv .f64 .f32 (exF y) = exN y := by
  unfold exF exN
  cases fcmp .lss .f32 y 3276275712 with
  | true => simp only [if_true]; decide +kernel
  | false => rfl
theorem exF_ok {y : Nat} (hy : Neg0 y) : fconvOk .f64 .f32 (exF y) = true := by
  cases h : fcmp .lss .f32 y 3276275712 with
  | true => unfold exF; rw [h]; simp only [if_true]; decide +kernel
  | false => have := ex_ok hy h; unfold exF; rw [h]; exact this
theorem fE64 {a b : Nat} (h : a = b) : AV.t (.f .f64 a) = AV.t (.f .f64 b) := by rw [h]
theorem iEqX {k : IntKind} {a b : Int} (h : a = b) : AV.t (.v (.int k a)) = AV.t (.v (.int k b)) := by rw [h]
theorem exP_0 (t : Nat) : 4607182418800017408 = exP t 0 := by rw [exP]
theorem sqP_0 (p : Nat) : p = sqP p 0 := by rw [sqP]

theorem l01ExpWide_c (y : Nat) (hy : Neg0 y) : TCall Try.prog 116 [.f .f64 (fconv .f32 .f64 y)] (.t (.f .f64 (exF y))) [] := by
  obtain ⟨k1, k2, k3⟩ := neg_tests hy
  refine tcall_of Try.func116 rfl (by kernel_rfl) (Nat.le_of_ble_eq_true rfl) rfl ?_
  simp only [argsL, argAV, argCs, argS]
  repeat (first | refine w_q ?_ | refine w_s ?_ | refine w_t ?_ | refine w_k ?_ | refine u_n ?_ | refine u_q ?_ | refine u_g ?_ | refine u_d ?_ | refine u_b ?_ | refine u_x ?_ | refine u_r ?_ | refine u_s ?_)
  refine awp_if rfl (fun h1 => ?_) (fun h1 => ?_)
  · rw [neg_neq hy] at h1
    repeat (first | refine w_q ?_ | refine w_s ?_ | refine w_t ?_ | refine w_k ?_ | refine u_n ?_ | refine u_q ?_ | refine u_g ?_ | refine u_d ?_ | refine u_b ?_ | refine u_x ?_ | refine u_r ?_ | refine u_s ?_)
    refine u_0 ?_
    repeat' (first | exact RetRelL.nil | refine RetRel.nil rfl ?_ | refine RetRelL.cons ?_ ?_ | refine rr_tup ?_ | refine rr_agg ?_ | refine rr_own rfl ?_ | exact RetRel.arg | exact RetRel.argc | refine rr_t ?_)
    rw [exF_nan h1, conv_nan64 h1]
  repeat (first | refine w_q ?_ | refine w_s ?_ | refine w_t ?_ | refine w_k ?_ | refine u_n ?_ | refine u_q ?_ | refine u_g ?_ | refine u_d ?_ | refine u_b ?_ | refine u_x ?_ | refine u_r ?_ | refine u_s ?_)
  refine awp_if rfl (fun h2 => ?_) (fun h2 => ?_)
  · rw [k2] at h2; cases h2
  repeat (first | refine w_q ?_ | refine w_s ?_ | refine w_t ?_ | refine w_k ?_ | refine u_n ?_ | refine u_q ?_ | refine u_g ?_ | refine u_d ?_ | refine u_b ?_ | refine u_x ?_ | refine u_r ?_ | refine u_s ?_)
  refine awp_if rfl (fun h3 => ?_) (fun h3 => ?_)
  · rw [k3] at h3
    repeat (first | refine w_q ?_ | refine w_s ?_ | refine w_t ?_ | refine w_k ?_ | refine u_n ?_ | refine u_q ?_ | refine u_g ?_ | refine u_d ?_ | refine u_b ?_ | refine u_x ?_ | refine u_r ?_ | refine u_s ?_)
    refine u_0 ?_
    repeat' (first | exact RetRelL.nil | refine RetRel.nil rfl ?_ | refine RetRelL.cons ?_ ?_ | refine rr_tup ?_ | refine rr_agg ?_ | refine rr_own rfl ?_ | exact RetRel.arg | exact RetRel.argc | refine rr_t ?_)
    unfold exF; rw [h3]; rfl
  rw [k3] at h3
  have hF : exF y = sqP (exP (exT y) 12) 8 := by unfold exF; rw [h3]; rfl
  rw [hF]
  repeat (first | refine w_q ?_ | refine w_s ?_ | refine w_t ?_ | refine w_k ?_ | refine u_n ?_ | refine u_q ?_ | refine u_g ?_ | refine u_d ?_ | refine u_b ?_ | refine u_x ?_ | refine u_r ?_ | refine u_s ?_)
  refine awp_loop (X := Nat) (fun n => n ≤ 12) (fun n => [(3, .t (.f .f64 (exT y))), (4, .t (.f .f64 (exP (exT y) n))), (5, .t (.v (.int .i64 (12 - (n : Nat)))))]) (fun _ => []) (fun n => 12 - n)
    0 ⟨by omega, fun i => i, ⟨rfl, fE64 (exP_0 _), rfl, trivial⟩, trivial, injOn_id _⟩ (fun n hn => ?_)
  repeat (first | refine w_q ?_ | refine w_s ?_ | refine w_t ?_ | refine w_k ?_ | refine u_n ?_ | refine u_q ?_ | refine u_g ?_ | refine u_d ?_ | refine u_b ?_ | refine u_x ?_ | refine u_r ?_ | refine u_s ?_)
  refine awp_if rfl (fun h => ?_) (fun h => ?_)
  · simp only [icmp, decide_eq_true_eq] at h
    repeat (first | refine w_q ?_ | refine w_s ?_ | refine w_t ?_ | refine w_k ?_ | refine u_n ?_ | refine u_q ?_ | refine u_g ?_ | refine u_d ?_ | refine u_b ?_ | refine u_x ?_ | refine u_r ?_ | refine u_s ?_)
    exact ⟨n + 1, by omega, by omega, fun i => i, ⟨rfl, fE64 (exPS _ _), iEqX (by omega), trivial⟩, trivial, injOn_id _⟩
  simp only [icmp, decide_eq_false_iff_not] at h
  obtain rfl : n = 12 := by omega
  repeat (first | refine w_q ?_ | refine w_s ?_ | refine w_t ?_ | refine w_k ?_ | refine u_n ?_ | refine u_q ?_ | refine u_g ?_ | refine u_d ?_ | refine u_b ?_ | refine u_x ?_ | refine u_r ?_ | refine u_s ?_)
  refine awp_loop (X := Nat) (fun n => n ≤ 8) (fun n => [(4, .t (.f .f64 (sqP (exP (exT y) 12) n))), (6, .t (.v (.int .i64 (n : Nat))))]) (fun _ => []) (fun n => 8 - n)
    0 ⟨by omega, fun i => i, ⟨fE64 (sqP_0 _), rfl, trivial⟩, trivial, injOn_id _⟩ (fun n hn => ?_)
  repeat (first | refine w_q ?_ | refine w_s ?_ | refine w_t ?_ | refine w_k ?_ | refine u_n ?_ | refine u_q ?_ | refine u_g ?_ | refine u_d ?_ | refine u_b ?_ | refine u_x ?_ | refine u_r ?_ | refine u_s ?_)
  refine awp_if rfl (fun h => ?_) (fun h => ?_)
  · simp only [icmp, decide_eq_true_eq] at h
    repeat (first | refine w_q ?_ | refine w_s ?_ | refine w_t ?_ | refine w_k ?_ | refine u_n ?_ | refine u_q ?_ | refine u_g ?_ | refine u_d ?_ | refine u_b ?_ | refine u_x ?_ | refine u_r ?_ | refine u_s ?_)
    exact ⟨n + 1, by omega, by omega, fun i => i, ⟨fE64 (sqPS _ _), rfl, trivial⟩, trivial, injOn_id _⟩
  simp only [icmp, decide_eq_false_iff_not] at h
  obtain rfl : n = 8 := by omega
  repeat (first | refine w_q ?_ | refine w_s ?_ | refine w_t ?_ | refine w_k ?_ | refine u_n ?_ | refine u_q ?_ | refine u_g ?_ | refine u_d ?_ | refine u_b ?_ | refine u_x ?_ | refine u_r ?_ | refine u_s ?_)
  refine u_0 ?_
  repeat' (first | exact RetRelL.nil | refine RetRel.nil rfl ?_ | refine RetRelL.cons ?_ ?_ | refine rr_tup ?_ | refine rr_agg ?_ | refine rr_own rfl ?_ | exact RetRel.arg | exact RetRel.argc | refine rr_t ?_)
  rfl
theorem l01Exp_c (y : Nat) (hy : Neg0 y) : TCall Try.prog 86 [.f .f32 y] (.t (.f .f32 (exN y))) [] := by
  refine tcall_of Try.func86 rfl (by kernel_rfl) (Nat.le_of_ble_eq_true rfl) rfl ?_
  simp only [argsL, argAV, argCs, argS]
  repeat (first | refine w_q ?_ | refine w_s ?_ | refine w_t ?_ | refine w_k ?_ | refine u_n ?_ | refine u_q ?_ | refine u_g ?_ | refine u_d ?_ | refine u_b ?_ | refine u_x ?_ | refine u_r ?_ | refine u_s ?_)
  refine c_q (l01ExpWide_c y hy) (h := ?_)
  repeat (first | refine w_q ?_ | refine w_s ?_ | refine w_t ?_ | refine w_k ?_ | refine u_n ?_ | refine u_q ?_ | refine u_g ?_ | refine u_d ?_ | refine u_b ?_ | refine u_x ?_ | refine u_r ?_ | refine u_s ?_)
  refine c_q (l01Narrow_c _ (exF_ok hy)) (h := ?_)
  repeat (first | refine w_q ?_ | refine w_s ?_ | refine w_t ?_ | refine w_k ?_ | refine u_n ?_ | refine u_q ?_ | refine u_g ?_ | refine u_d ?_ | refine u_b ?_ | refine u_x ?_ | refine u_r ?_ | refine u_s ?_)
  refine u_0 ?_
  repeat' (first | exact RetRelL.nil | refine RetRel.nil rfl ?_ | refine RetRelL.cons ?_ ?_ | refine rr_tup ?_ | refine rr_agg ?_ | refine rr_own rfl ?_ | exact RetRel.arg | exact RetRel.argc | refine rr_t ?_)
  rw [conv_exF]
theorem expNumber_c (y : Nat) (hy : Neg0 y) : TCall Try.prog 79 [.f .f32 y] (.t (.f .f32 (exN y))) [] := by
  obtain ⟨k1, k2, k3⟩ := neg_tests hy
  refine tcall_of Try.func79 rfl (by kernel_rfl) (Nat.le_of_ble_eq_true rfl) rfl ?_
  simp only [argsL, argAV, argCs, argS]
  repeat (first | refine w_q ?_ | refine w_s ?_ | refine w_t ?_ | refine w_k ?_ | refine u_n ?_ | refine u_q ?_ | refine u_g ?_ | refine u_d ?_ | refine u_b ?_ | refine u_x ?_ | refine u_r ?_ | refine u_s ?_)
  refine awp_if rfl (fun h2 => ?_) (fun h2 => ?_)
  · rw [k1] at h2; cases h2
  repeat (first | refine w_q ?_ | refine w_s ?_ | refine w_t ?_ | refine w_k ?_ | refine u_n ?_ | refine u_q ?_ | refine u_g ?_ | refine u_d ?_ | refine u_b ?_ | refine u_x ?_ | refine u_r ?_ | refine u_s ?_)
  refine awp_if rfl (fun h3 => ?_) (fun h3 => ?_)
  · repeat (first | refine w_q ?_ | refine w_s ?_ | refine w_t ?_ | refine w_k ?_ | refine u_n ?_ | refine u_q ?_ | refine u_g ?_ | refine u_d ?_ | refine u_b ?_ | refine u_x ?_ | refine u_r ?_ | refine u_s ?_)
    refine u_0 ?_
    repeat' (first | exact RetRelL.nil | refine RetRel.nil rfl ?_ | refine RetRelL.cons ?_ ?_ | refine rr_tup ?_ | refine rr_agg ?_ | refine rr_own rfl ?_ | exact RetRel.arg | exact RetRel.argc | refine rr_t ?_)
    unfold exN; rw [h3]; rfl
  have hF : exN y = fconv .f64 .f32 (sqP (exP (exT y) 12) 8) := by unfold exN; rw [h3]; rfl
  have hok := ex_ok hy h3
  rw [hF]
  repeat (first | refine w_q ?_ | refine w_s ?_ | refine w_t ?_ | refine w_k ?_ | refine u_n ?_ | refine u_q ?_ | refine u_g ?_ | refine u_d ?_ | refine u_b ?_ | refine u_x ?_ | refine u_r ?_ | refine u_s ?_)
  refine awp_loop (X := Nat) (fun n => n ≤ 12) (fun n => [(3, .t (.f .f64 (exT y))), (4, .t (.f .f64 (exP (exT y) n))), (5, .t (.f .f64 (fint .f64 (12 - (n : Nat)))))]) (fun _ => []) (fun n => 12 - n)
    0 ⟨by omega, fun i => i, ⟨rfl, fE64 (exP_0 _), fE64 exk_0.symm, trivial⟩, trivial, injOn_id _⟩ (fun n hn => ?_)
  repeat (first | refine w_q ?_ | refine w_s ?_ | refine w_t ?_ | refine w_k ?_ | refine u_n ?_ | refine u_q ?_ | refine u_g ?_ | refine u_d ?_ | refine u_b ?_ | refine u_x ?_ | refine u_r ?_ | refine u_s ?_)
  refine awp_if rfl (fun h => ?_) (fun h => ?_)
  · rw [exk_cond hn] at h
    have h' := of_decide_eq_true h
    repeat (first | refine w_q ?_ | refine w_s ?_ | refine w_t ?_ | refine w_k ?_ | refine u_n ?_ | refine u_q ?_ | refine u_g ?_ | refine u_d ?_ | refine u_b ?_ | refine u_x ?_ | refine u_r ?_ | refine u_s ?_)
    exact ⟨n + 1, by omega, by omega, fun i => i, ⟨rfl, fE64 (exPS _ _), fE64 (exk_next hn), trivial⟩, trivial, injOn_id _⟩
  rw [exk_cond hn] at h
  have h' := of_decide_eq_false h
  obtain rfl : n = 12 := by omega
  repeat (first | refine w_q ?_ | refine w_s ?_ | refine w_t ?_ | refine w_k ?_ | refine u_n ?_ | refine u_q ?_ | refine u_g ?_ | refine u_d ?_ | refine u_b ?_ | refine u_x ?_ | refine u_r ?_ | refine u_s ?_)
  refine awp_loop (X := Nat) (fun n => n ≤ 8) (fun n => [(4, .t (.f .f64 (sqP (exP (exT y) 12) n))), (27, .t (.v (.int .i64 (n : Nat))))]) (fun _ => []) (fun n => 8 - n)
    0 ⟨by omega, fun i => i, ⟨fE64 (sqP_0 _), rfl, trivial⟩, trivial, injOn_id _⟩ (fun n hn => ?_)
  repeat (first | refine w_q ?_ | refine w_s ?_ | refine w_t ?_ | refine w_k ?_ | refine u_n ?_ | refine u_q ?_ | refine u_g ?_ | refine u_d ?_ | refine u_b ?_ | refine u_x ?_ | refine u_r ?_ | refine u_s ?_)
  refine awp_if rfl (fun h => ?_) (fun h => ?_)
  · simp only [icmp, decide_eq_true_eq] at h
    repeat (first | refine w_q ?_ | refine w_s ?_ | refine w_t ?_ | refine w_k ?_ | refine u_n ?_ | refine u_q ?_ | refine u_g ?_ | refine u_d ?_ | refine u_b ?_ | refine u_x ?_ | refine u_r ?_ | refine u_s ?_)
    exact ⟨n + 1, by omega, by omega, fun i => i, ⟨fE64 (sqPS _ _), rfl, trivial⟩, trivial, injOn_id _⟩
  simp only [icmp, decide_eq_false_iff_not] at h
  obtain rfl : n = 8 := by omega
  repeat (first | refine w_q ?_ | refine w_s ?_ | refine w_t ?_ | refine w_k ?_ | refine u_n ?_ | refine u_q ?_ | refine u_g ?_ | refine u_d ?_ | refine u_b ?_ | refine u_x ?_ | refine u_r ?_ | refine u_s ?_)
  (first | (refine w_r (q_cv_ff tyOk rfl rfl rfl rfl rfl (by decide) rfl hok) (h := ?_)) | (refine y_r (q_cv_ff tyOk rfl rfl rfl rfl rfl (by decide) rfl hok) (h := ?_)))
  repeat (first | refine w_q ?_ | refine w_s ?_ | refine w_t ?_ | refine w_k ?_ | refine u_n ?_ | refine u_q ?_ | refine u_g ?_ | refine u_d ?_ | refine u_b ?_ | refine u_x ?_ | refine u_r ?_ | refine u_s ?_)
  refine u_0 ?_
  repeat' (first | exact RetRelL.nil | refine RetRel.nil rfl ?_ | refine RetRelL.cons ?_ ?_ | refine rr_tup ?_ | refine rr_agg ?_ | refine rr_own rfl ?_ | exact RetRel.arg | exact RetRel.argc | refine rr_t ?_)
  rfl
end Go.Proofs.Ytpdnjcblkjjegaa

set_option linter.unusedVariables false
set_option linter.unusedSimpArgs false
set_option maxRecDepth 20000
set_option maxHeartbeats 4000000
namespace Go.Proofs.Ytpdnjcblkjjegaa
open Go.Aw

theorem nn_eq (c : Nat) : nn c = isNan .f32 c := by unfold nn; exact neq_self
attribute [local irreducible] QRun LexD AWp TCall
theorem sameNum_c (c d : Nat) : TCall Try.prog 52 [.f .f32 c, .f .f32 d] (.t (.v (.bool (sameN c d)))) [] :=
  sameNumber_c c d (fun h => ⟨widen_ok (by rw [← nn_eq]; exact h), widen_nan' (by rw [← nn_eq]; exact h)⟩) (fun h => ⟨widen_ok (by rw [← nn_eq]; exact h), widen_nan' (by rw [← nn_eq]; exact h)⟩)

end Go.Proofs.Ytpdnjcblkjjegaa

set_option linter.unusedVariables false
set_option linter.unusedSimpArgs false
set_option maxRecDepth 20000
set_option maxHeartbeats 8000000
namespace Go.Proofs.Ytpdnjcblkjjegaa
open Go.Aw

def allS (p : Nat → Nat → Bool) (a b : List Nat) : Bool := decide (a.length = b.length) && (List.range a.length).all fun i => p (a.getD i 0) (b.getD i 0)
theorem allS_hit {p : Nat → Nat → Bool} {a b : List Nat} {i : Nat} (hi : i < a.length) (h : p (a.getD i 0) (b.getD i 0) = false) : allS p a b = false := by
  unfold allS
  rw [Bool.and_eq_false_iff]; right
  exact List.all_eq_false.2 ⟨i, List.mem_range.2 hi, by rw [h]; simp⟩
theorem allS_none {p : Nat → Nat → Bool} {a b : List Nat} (hl : a.length = b.length) (h : ∀ j, j < a.length → p (a.getD j 0) (b.getD j 0) = true) : allS p a b = true := by
  unfold allS
  rw [Bool.and_eq_true]
  exact ⟨decide_eq_true hl, List.all_eq_true.2 fun j hj => h j (List.mem_range.1 hj)⟩
theorem allS_len {p : Nat → Nat → Bool} {a b : List Nat} (hl : a.length ≠ b.length) : allS p a b = false := by
  unfold allS; rw [decide_eq_false hl]; rfl
attribute [local irreducible] QRun LexD AWp TCall TMut

theorem equalFunc_c (g : Nat) (ts : List T) (p : Nat → Nat → Bool) (a b : List Nat) (ha : a.length ≤ 9223372036854775807) (hb : b.length ≤ 9223372036854775807) (hg : ∀ c d, TCall Try.prog g (.f .f32 c :: .f .f32 d :: ts) (.t (.v (.bool (p c d)))) []) :
    TCall Try.prog 51 [.fl a, .fl b, .fn g ts] (.t (.v (.bool (allS p a b)))) [] := by
  refine tcall_of Try.func51 rfl (by kernel_rfl) (Nat.le_of_ble_eq_true rfl) rfl ?_
  simp only [argsL, argAV, argCs, argS]
  repeat (first | refine w_q ?_ | refine w_s ?_ | refine w_t ?_ | refine w_k ?_ | refine u_n ?_ | refine u_q ?_ | refine u_g ?_ | refine u_d ?_ | refine u_b ?_ | refine u_x ?_ | refine u_r ?_ | refine u_s ?_)
  refine awp_if rfl (fun h => ?_) (fun h => ?_)
  · simp [icmp] at h
    repeat (first | refine w_q ?_ | refine w_s ?_ | refine w_t ?_ | refine w_k ?_ | refine u_n ?_ | refine u_q ?_ | refine u_g ?_ | refine u_d ?_ | refine u_b ?_ | refine u_x ?_ | refine u_r ?_ | refine u_s ?_)
    refine u_0 ?_
    repeat' (first | exact RetRelL.nil | refine RetRel.nil rfl ?_ | refine RetRelL.cons ?_ ?_ | refine rr_tup ?_ | refine rr_agg ?_ | refine rr_own rfl ?_ | exact RetRel.arg | exact RetRel.argc | refine rr_t ?_)
    rw [allS_len (by omega)]
  simp [icmp] at h
  repeat (first | refine w_q ?_ | refine w_s ?_ | refine w_t ?_ | refine w_k ?_ | refine u_n ?_ | refine u_q ?_ | refine u_g ?_ | refine u_d ?_ | refine u_b ?_ | refine u_x ?_ | refine u_r ?_ | refine u_s ?_)
  refine awp_loop (X := Nat) (fun i => i ≤ a.length ∧ ∀ j, j < i → p (a.getD j 0) (b.getD j 0) = true) (fun i => [(1, .arg 1 (.fl b)), (2, .arg 2 (.fn g ts)), (15, .arg 0 (.fl a)), (16, .t (.v (.int .i64 a.length))), (17, .t (.v (.int .i64 i)))]) (fun _ => []) (fun i => a.length - i)
    0 ⟨⟨by omega, fun j hj => by omega⟩, fun i => i, ⟨rfl, rfl, rfl, rfl, rfl, trivial⟩, trivial, injOn_id _⟩ (fun i hi => ?_)
  repeat (first | refine w_q ?_ | refine w_s ?_ | refine w_t ?_ | refine w_k ?_ | refine u_n ?_ | refine u_q ?_ | refine u_g ?_ | refine u_d ?_ | refine u_b ?_ | refine u_x ?_ | refine u_r ?_ | refine u_s ?_)
  refine awp_if rfl (fun h1 => ?_) (fun h1 => ?_)
  · simp only [icmp, decide_eq_true_eq] at h1
    repeat (first | refine w_q ?_ | refine w_s ?_ | refine w_t ?_ | refine w_k ?_ | refine y_q ?_ | refine y_s ?_ | refine y_t ?_ | refine y_k ?_ | refine u_n ?_ | refine u_q ?_ | refine u_g ?_ | refine u_d ?_ | refine u_b ?_ | refine u_x ?_ | refine u_r ?_ | refine u_s ?_)
    (first | refine c_q (hg _ _) (h := ?_) | refine z_q (hg _ _) (h := ?_))
    repeat (first | refine w_q ?_ | refine w_s ?_ | refine w_t ?_ | refine w_k ?_ | refine y_q ?_ | refine y_s ?_ | refine y_t ?_ | refine y_k ?_ | refine u_n ?_ | refine u_q ?_ | refine u_g ?_ | refine u_d ?_ | refine u_b ?_ | refine u_x ?_ | refine u_r ?_ | refine u_s ?_)
    refine awp_if rfl (fun h2 => ?_) (fun h2 => ?_)
    · simp only [Bool.not_eq_true'] at h2
      repeat (first | refine w_q ?_ | refine w_s ?_ | refine w_t ?_ | refine w_k ?_ | refine u_n ?_ | refine u_q ?_ | refine u_g ?_ | refine u_d ?_ | refine u_b ?_ | refine u_x ?_ | refine u_r ?_ | refine u_s ?_)
      refine u_0 ?_
      repeat' (first | exact RetRelL.nil | refine RetRel.nil rfl ?_ | refine RetRelL.cons ?_ ?_ | refine rr_tup ?_ | refine rr_agg ?_ | refine rr_own rfl ?_ | exact RetRel.arg | exact RetRel.argc | refine rr_t ?_)
      rw [allS_hit (i := i) (by omega) h2]
    · simp only [Bool.not_eq_false'] at h2
      repeat (first | refine w_q ?_ | refine w_s ?_ | refine w_t ?_ | refine w_k ?_ | refine u_n ?_ | refine u_q ?_ | refine u_g ?_ | refine u_d ?_ | refine u_b ?_ | refine u_x ?_ | refine u_r ?_ | refine u_s ?_)
      exact ⟨i + 1, by omega, ⟨by omega, fun j hj => (Nat.lt_or_eq_of_le (Nat.le_of_lt_succ hj)).elim (fun hj' => hi.2 j hj') (fun hj' => by rw [hj']; exact h2)⟩, fun i => i, ⟨rfl, rfl, rfl, rfl, rfl, trivial⟩, trivial, injOn_id _⟩
  · simp only [icmp, decide_eq_false_iff_not] at h1
    repeat (first | refine w_q ?_ | refine w_s ?_ | refine w_t ?_ | refine w_k ?_ | refine u_n ?_ | refine u_q ?_ | refine u_g ?_ | refine u_d ?_ | refine u_b ?_ | refine u_x ?_ | refine u_r ?_ | refine u_s ?_)
    refine u_0 ?_
    repeat' (first | exact RetRelL.nil | refine RetRel.nil rfl ?_ | refine RetRelL.cons ?_ ?_ | refine rr_tup ?_ | refine rr_agg ?_ | refine rr_own rfl ?_ | exact RetRel.arg | exact RetRel.argc | refine rr_t ?_)
    rw [allS_none (by omega) (fun j hj => hi.2 j (by omega))]

abbrev R4 (a b c d : List Nat) : T := .agg [.fl a, .fl b, .fl c, .fl d]
def and4R (p : Nat → Nat → Bool) (a b c d a' b' c' d' : List Nat) : Bool := allS p a a' && allS p b b' && allS p c c' && allS p d d'
theorem implSameR_c (a b c d a' b' c' d' : List Nat) (h : a.length ≤ 9223372036854775807 ∧ b.length ≤ 9223372036854775807 ∧ c.length ≤ 9223372036854775807 ∧ d.length ≤ 9223372036854775807 ∧ a'.length ≤ 9223372036854775807 ∧ b'.length ≤ 9223372036854775807 ∧ c'.length ≤ 9223372036854775807 ∧ d'.length ≤ 9223372036854775807) :
    TCall Try.prog 15 [R4 a b c d, R4 a' b' c' d'] (.t (.v (.bool (and4R sameN a b c d a' b' c' d')))) [] := by
  obtain ⟨k1, k2, k3, k4, k5, k6, k7, k8⟩ := h
  refine tcall_of Try.func15 rfl (by kernel_rfl) (Nat.le_of_ble_eq_true rfl) rfl ?_
  simp only [argsL, argAV, argCs, argS]
  repeat (first | refine w_q ?_ | refine w_s ?_ | refine w_t ?_ | refine w_k ?_ | refine y_q ?_ | refine y_s ?_ | refine y_t ?_ | refine y_k ?_ | refine u_n ?_ | refine u_q ?_ | refine u_g ?_ | refine u_d ?_ | refine u_b ?_ | refine u_x ?_ | refine u_r ?_ | refine u_s ?_)
  (first | refine c_q (equalFunc_c _ [] _ a a' k1 k5 sameNum_c) (h := ?_) | refine z_q (equalFunc_c _ [] _ a a' k1 k5 sameNum_c) (h := ?_))
  repeat (first | refine w_q ?_ | refine w_s ?_ | refine w_t ?_ | refine w_k ?_ | refine y_q ?_ | refine y_s ?_ | refine y_t ?_ | refine y_k ?_ | refine u_n ?_ | refine u_q ?_ | refine u_g ?_ | refine u_d ?_ | refine u_b ?_ | refine u_x ?_ | refine u_r ?_ | refine u_s ?_)
  refine lex_if rfl rfl rfl (fun h1 => ?_) (fun h1 => ?_)
  · repeat (first | refine w_q ?_ | refine w_s ?_ | refine w_t ?_ | refine w_k ?_ | refine y_q ?_ | refine y_s ?_ | refine y_t ?_ | refine y_k ?_ | refine u_n ?_ | refine u_q ?_ | refine u_g ?_ | refine u_d ?_ | refine u_b ?_ | refine u_x ?_ | refine u_r ?_ | refine u_s ?_)
    (first | refine c_q (equalFunc_c _ [] _ b b' k2 k6 sameNum_c) (h := ?_) | refine z_q (equalFunc_c _ [] _ b b' k2 k6 sameNum_c) (h := ?_))
    repeat (first | refine w_q ?_ | refine w_s ?_ | refine w_t ?_ | refine w_k ?_ | refine y_q ?_ | refine y_s ?_ | refine y_t ?_ | refine y_k ?_ | refine u_n ?_ | refine u_q ?_ | refine u_g ?_ | refine u_d ?_ | refine u_b ?_ | refine u_x ?_ | refine u_r ?_ | refine u_s ?_)
    refine lex_if rfl rfl rfl (fun h2 => ?_) (fun h2 => ?_)
    · repeat (first | refine w_q ?_ | refine w_s ?_ | refine w_t ?_ | refine w_k ?_ | refine y_q ?_ | refine y_s ?_ | refine y_t ?_ | refine y_k ?_ | refine u_n ?_ | refine u_q ?_ | refine u_g ?_ | refine u_d ?_ | refine u_b ?_ | refine u_x ?_ | refine u_r ?_ | refine u_s ?_)
      (first | refine c_q (equalFunc_c _ [] _ c c' k3 k7 sameNum_c) (h := ?_) | refine z_q (equalFunc_c _ [] _ c c' k3 k7 sameNum_c) (h := ?_))
      repeat (first | refine w_q ?_ | refine w_s ?_ | refine w_t ?_ | refine w_k ?_ | refine y_q ?_ | refine y_s ?_ | refine y_t ?_ | refine y_k ?_ | refine u_n ?_ | refine u_q ?_ | refine u_g ?_ | refine u_d ?_ | refine u_b ?_ | refine u_x ?_ | refine u_r ?_ | refine u_s ?_)
      refine lex_if rfl rfl rfl (fun h3 => ?_) (fun h3 => ?_)
      · repeat (first | refine w_q ?_ | refine w_s ?_ | refine w_t ?_ | refine w_k ?_ | refine y_q ?_ | refine y_s ?_ | refine y_t ?_ | refine y_k ?_ | refine u_n ?_ | refine u_q ?_ | refine u_g ?_ | refine u_d ?_ | refine u_b ?_ | refine u_x ?_ | refine u_r ?_ | refine u_s ?_)
        (first | refine c_q (equalFunc_c _ [] _ d d' k4 k8 sameNum_c) (h := ?_) | refine z_q (equalFunc_c _ [] _ d d' k4 k8 sameNum_c) (h := ?_))
        repeat (first | refine w_q ?_ | refine w_s ?_ | refine w_t ?_ | refine w_k ?_ | refine y_q ?_ | refine y_s ?_ | refine y_t ?_ | refine y_k ?_ | refine u_n ?_ | refine u_q ?_ | refine u_g ?_ | refine u_d ?_ | refine u_b ?_ | refine u_x ?_ | refine u_r ?_ | refine u_s ?_)
        refine u_0 ?_
        repeat' (first | exact RetRelL.nil | refine RetRel.nil rfl ?_ | refine RetRelL.cons ?_ ?_ | refine rr_tup ?_ | refine rr_agg ?_ | refine rr_own rfl ?_ | exact RetRel.arg | exact RetRel.argc | refine rr_t ?_)
        simp [and4R, h1, h2, h3]
      · repeat (first | refine w_q ?_ | refine w_s ?_ | refine w_t ?_ | refine w_k ?_ | refine y_q ?_ | refine y_s ?_ | refine y_t ?_ | refine y_k ?_ | refine u_n ?_ | refine u_q ?_ | refine u_g ?_ | refine u_d ?_ | refine u_b ?_ | refine u_x ?_ | refine u_r ?_ | refine u_s ?_)
        refine u_0 ?_
        repeat' (first | exact RetRelL.nil | refine RetRel.nil rfl ?_ | refine RetRelL.cons ?_ ?_ | refine rr_tup ?_ | refine rr_agg ?_ | refine rr_own rfl ?_ | exact RetRel.arg | exact RetRel.argc | refine rr_t ?_)
        simp [and4R, h3]
    · repeat (first | refine w_q ?_ | refine w_s ?_ | refine w_t ?_ | refine w_k ?_ | refine y_q ?_ | refine y_s ?_ | refine y_t ?_ | refine y_k ?_ | refine u_n ?_ | refine u_q ?_ | refine u_g ?_ | refine u_d ?_ | refine u_b ?_ | refine u_x ?_ | refine u_r ?_ | refine u_s ?_)
      refine u_0 ?_
      repeat' (first | exact RetRelL.nil | refine RetRel.nil rfl ?_ | refine RetRelL.cons ?_ ?_ | refine rr_tup ?_ | refine rr_agg ?_ | refine rr_own rfl ?_ | exact RetRel.arg | exact RetRel.argc | refine rr_t ?_)
      simp [and4R, h2]
  · repeat (first | refine w_q ?_ | refine w_s ?_ | refine w_t ?_ | refine w_k ?_ | refine y_q ?_ | refine y_s ?_ | refine y_t ?_ | refine y_k ?_ | refine u_n ?_ | refine u_q ?_ | refine u_g ?_ | refine u_d ?_ | refine u_b ?_ | refine u_x ?_ | refine u_r ?_ | refine u_s ?_)
    refine u_0 ?_
    repeat' (first | exact RetRelL.nil | refine RetRel.nil rfl ?_ | refine RetRelL.cons ?_ ?_ | refine rr_tup ?_ | refine rr_agg ?_ | refine rr_own rfl ?_ | exact RetRel.arg | exact RetRel.argc | refine rr_t ?_)
    simp [and4R, h1]
end Go.Proofs.Ytpdnjcblkjjegaa

