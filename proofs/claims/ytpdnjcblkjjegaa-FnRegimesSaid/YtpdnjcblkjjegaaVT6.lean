import Derived.Test.YtpdnjcblkjjegaaVT3
import Derived.Test.YtpdnjcblkjjegaaVAwD
set_option linter.unusedVariables false
set_option linter.unusedSimpArgs false
set_option maxRecDepth 20000
set_option maxHeartbeats 4000000
namespace Go.Proofs.Ytpdnjcblkjjegaa
open Go.Aw
attribute [local irreducible] QRun LexD AWp TCall

def idxOf (p : Nat → Bool) (l : List Nat) : Int := if l.any p then (l.findIdx p : Nat) else -1
theorem idx_hit {p : Nat → Bool} {l : List Nat} {i : Nat} (hi : i < l.length) (h0 : ∀ j, j < i → p (l.getD j 0) = false) (h : p (l.getD i 0) = true) : idxOf p l = i := by
  have e : ∀ j, j < l.length → l.getD j 0 = l[j]! := fun j hj => by simp [List.getD_eq_getElem?_getD, hj]
  have e1 : l.getD i 0 = l[i] := by simp [List.getD_eq_getElem?_getD, hi]
  have ha : l.any p = true := List.any_eq_true.2 ⟨l[i], List.getElem_mem hi, by rw [← e1]; exact h⟩
  have hf : l.findIdx p = i := by
    refine (List.findIdx_eq hi).2 ⟨by rw [← e1]; exact h, fun j hj => ?_⟩
    have hj' : j < l.length := by omega
    have := h0 j hj
    rw [show l.getD j 0 = l[j] by simp [List.getD_eq_getElem?_getD, hj']] at this
    simpa using this
  unfold idxOf; rw [ha, hf]; rfl
theorem idx_miss {p : Nat → Bool} {l : List Nat} (h0 : ∀ j, j < l.length → p (l.getD j 0) = false) : idxOf p l = -1 := by
  have ha : l.any p = false := by
    cases h : l.any p with
    | false => rfl
    | true =>
      obtain ⟨c, hc, hp⟩ := List.any_eq_true.1 h
      obtain ⟨j, hj, rfl⟩ := List.getElem_of_mem hc
      have := h0 j hj
      rw [show l.getD j 0 = l[j] by simp [List.getD_eq_getElem?_getD, hj]] at this
      rw [hp] at this; cases this
  unfold idxOf; rw [ha]; rfl

theorem idxFunc_c (g : Nat) (ts : List T) (p : Nat → Bool) (l : List Nat) (hl : l.length ≤ 9223372036854775807) (hg : ∀ c, TCall Try.prog g (.f .f32 c :: ts) (.t (.v (.bool (p c)))) []) :
    TCall Try.prog 115 [.fl l, .fn g ts] (.t (.v (.int .i64 (idxOf p l)))) [] := by
  refine tcall_of Try.func115 rfl (by kernel_rfl) (Nat.le_of_ble_eq_true rfl) rfl ?_
  simp only [argsL, argAV, argCs, argS]
  repeat (first | refine w_q ?_ | refine w_s ?_ | refine w_t ?_ | refine w_k ?_ | refine u_n ?_ | refine u_q ?_ | refine u_g ?_ | refine u_d ?_ | refine u_b ?_ | refine u_x ?_ | refine u_r ?_ | refine u_s ?_)
  refine awp_loop (X := Nat) (fun i => i ≤ l.length ∧ ∀ j, j < i → p (l.getD j 0) = false) (fun i => [(0, .arg 0 (.fl l)), (1, .arg 1 (.fn g ts)), (7, .t (.v (.int .i64 l.length))), (8, .t (.v (.int .i64 i)))]) (fun _ => []) (fun i => l.length - i)
    0 ⟨⟨by omega, fun j hj => by omega⟩, fun i => i, ⟨rfl, rfl, rfl, rfl, trivial⟩, trivial, injOn_id _⟩ (fun i hi => ?_)
  repeat (first | refine w_q ?_ | refine w_s ?_ | refine w_t ?_ | refine w_k ?_ | refine u_n ?_ | refine u_q ?_ | refine u_g ?_ | refine u_d ?_ | refine u_b ?_ | refine u_x ?_ | refine u_r ?_ | refine u_s ?_)
  refine awp_if rfl (fun h => ?_) (fun h => ?_)
  · simp only [icmp, decide_eq_true_eq] at h
    repeat (first | refine w_q ?_ | refine w_s ?_ | refine w_t ?_ | refine w_k ?_ | refine u_n ?_ | refine u_q ?_ | refine u_g ?_ | refine u_d ?_ | refine u_b ?_ | refine u_x ?_ | refine u_r ?_ | refine u_s ?_)
    refine c_q (hg _) (h := ?_)
    repeat (first | refine w_q ?_ | refine w_s ?_ | refine w_t ?_ | refine w_k ?_ | refine u_n ?_ | refine u_q ?_ | refine u_g ?_ | refine u_d ?_ | refine u_b ?_ | refine u_x ?_ | refine u_r ?_ | refine u_s ?_)
    refine awp_if rfl (fun h1 => ?_) (fun h1 => ?_)
    · repeat (first | refine w_q ?_ | refine w_s ?_ | refine w_t ?_ | refine w_k ?_ | refine u_n ?_ | refine u_q ?_ | refine u_g ?_ | refine u_d ?_ | refine u_b ?_ | refine u_x ?_ | refine u_r ?_ | refine u_s ?_)
      refine u_0 ?_
      repeat' (first | exact RetRelL.nil | refine RetRel.nil rfl ?_ | refine RetRelL.cons ?_ ?_ | refine rr_tup ?_ | refine rr_agg ?_ | refine rr_own rfl ?_ | exact RetRel.arg | exact RetRel.argc | refine rr_t ?_)
      rw [idx_hit (by omega) hi.2 h1]
    · repeat (first | refine w_q ?_ | refine w_s ?_ | refine w_t ?_ | refine w_k ?_ | refine u_n ?_ | refine u_q ?_ | refine u_g ?_ | refine u_d ?_ | refine u_b ?_ | refine u_x ?_ | refine u_r ?_ | refine u_s ?_)
      exact ⟨i + 1, by omega, ⟨by omega, fun j hj => (Nat.lt_or_eq_of_le (Nat.le_of_lt_succ hj)).elim (fun hj' => hi.2 j hj') (fun hj' => by rw [hj']; exact h1)⟩, fun i => i, ⟨rfl, rfl, rfl, rfl, trivial⟩, trivial, injOn_id _⟩
  · simp only [icmp, decide_eq_false_iff_not] at h
    repeat (first | refine w_q ?_ | refine w_s ?_ | refine w_t ?_ | refine w_k ?_ | refine u_n ?_ | refine u_q ?_ | refine u_g ?_ | refine u_d ?_ | refine u_b ?_ | refine u_x ?_ | refine u_r ?_ | refine u_s ?_)
    refine u_0 ?_
    repeat' (first | exact RetRelL.nil | refine RetRel.nil rfl ?_ | refine RetRelL.cons ?_ ?_ | refine rr_tup ?_ | refine rr_agg ?_ | refine rr_own rfl ?_ | exact RetRel.arg | exact RetRel.argc | refine rr_t ?_)
    rw [idx_miss (fun j hj => hi.2 j (by omega))]
theorem containsFunc_c (g : Nat) (ts : List T) (p : Nat → Bool) (l : List Nat) (hl : l.length ≤ 9223372036854775807) (hg : ∀ c, TCall Try.prog g (.f .f32 c :: ts) (.t (.v (.bool (p c)))) []) :
    TCall Try.prog 84 [.fl l, .fn g ts] (.t (.v (.bool (l.any p)))) [] := by
  refine tcall_of Try.func84 rfl (by kernel_rfl) (Nat.le_of_ble_eq_true rfl) rfl ?_
  simp only [argsL, argAV, argCs, argS]
  repeat (first | refine w_q ?_ | refine w_s ?_ | refine w_t ?_ | refine w_k ?_ | refine u_n ?_ | refine u_q ?_ | refine u_g ?_ | refine u_d ?_ | refine u_b ?_ | refine u_x ?_ | refine u_r ?_ | refine u_s ?_)
  refine c_q (idxFunc_c g ts p l hl hg) (h := ?_)
  repeat (first | refine w_q ?_ | refine w_s ?_ | refine w_t ?_ | refine w_k ?_ | refine u_n ?_ | refine u_q ?_ | refine u_g ?_ | refine u_d ?_ | refine u_b ?_ | refine u_x ?_ | refine u_r ?_ | refine u_s ?_)
  refine u_0 ?_
  repeat' (first | exact RetRelL.nil | refine RetRel.nil rfl ?_ | refine RetRelL.cons ?_ ?_ | refine rr_tup ?_ | refine rr_agg ?_ | refine rr_own rfl ?_ | exact RetRel.arg | exact RetRel.argc | refine rr_t ?_)
  unfold idxOf
  cases l.any p <;> simp [icmp]

/-- finite -/
def fin (c : Nat) : Bool := fcmp .eql .f32 (fop .sub .f32 c c) 0
theorem isFinite_c (c : Nat) : TCall Try.prog 41 [.f .f32 c] (.t (.v (.bool (fin c)))) [] := by
  refine tcall_of Try.func41 rfl (by kernel_rfl) (Nat.le_of_ble_eq_true rfl) rfl ?_
  simp only [argsL, argAV, argCs, argS]
  repeat (first | refine w_q ?_ | refine w_s ?_ | refine w_t ?_ | refine w_k ?_ | refine u_n ?_ | refine u_q ?_ | refine u_g ?_ | refine u_d ?_ | refine u_b ?_ | refine u_x ?_ | refine u_r ?_ | refine u_s ?_)
  refine u_0 ?_
  repeat' (first | exact RetRelL.nil | refine RetRel.nil rfl ?_ | refine RetRelL.cons ?_ ?_ | refine rr_tup ?_ | refine rr_agg ?_ | refine rr_own rfl ?_ | exact RetRel.arg | exact RetRel.argc | refine rr_t ?_)
  rfl
theorem l01Finite_c (c : Nat) : TCall Try.prog 58 [.f .f32 c] (.t (.v (.bool (fin c)))) [] := by
  refine tcall_of Try.func58 rfl (by kernel_rfl) (Nat.le_of_ble_eq_true rfl) rfl ?_
  simp only [argsL, argAV, argCs, argS]
  repeat (first | refine w_q ?_ | refine w_s ?_ | refine w_t ?_ | refine w_k ?_ | refine u_n ?_ | refine u_q ?_ | refine u_g ?_ | refine u_d ?_ | refine u_b ?_ | refine u_x ?_ | refine u_r ?_ | refine u_s ?_)
  refine u_0 ?_
  repeat' (first | exact RetRelL.nil | refine RetRel.nil rfl ?_ | refine RetRelL.cons ?_ ?_ | refine rr_tup ?_ | refine rr_agg ?_ | refine rr_own rfl ?_ | exact RetRel.arg | exact RetRel.argc | refine rr_t ?_)
  rfl
def least (c : Nat) : Bool := fin c && fcmp .geq .f32 c 0
def above (c : Nat) : Bool := fin c && fcmp .gtr .f32 c 0
theorem least_c (c : Nat) : TCall Try.prog 55 [.f .f32 c] (.t (.v (.bool (least c)))) [] := by
  refine tcall_of Try.func55 rfl (by kernel_rfl) (Nat.le_of_ble_eq_true rfl) rfl ?_
  simp only [argsL, argAV, argCs, argS]
  repeat (first | refine w_q ?_ | refine w_s ?_ | refine w_t ?_ | refine w_k ?_ | refine u_n ?_ | refine u_q ?_ | refine u_g ?_ | refine u_d ?_ | refine u_b ?_ | refine u_x ?_ | refine u_r ?_ | refine u_s ?_)
  refine c_q (l01Finite_c _) (h := ?_)
  repeat (first | refine w_q ?_ | refine w_s ?_ | refine w_t ?_ | refine w_k ?_ | refine u_n ?_ | refine u_q ?_ | refine u_g ?_ | refine u_d ?_ | refine u_b ?_ | refine u_x ?_ | refine u_r ?_ | refine u_s ?_)
  refine lex_if rfl rfl rfl (fun h => ?_) (fun h => ?_)
  · repeat (first | refine w_q ?_ | refine w_s ?_ | refine w_t ?_ | refine w_k ?_ | refine u_n ?_ | refine u_q ?_ | refine u_g ?_ | refine u_d ?_ | refine u_b ?_ | refine u_x ?_ | refine u_r ?_ | refine u_s ?_)
    refine u_0 ?_
    repeat' (first | exact RetRelL.nil | refine RetRel.nil rfl ?_ | refine RetRelL.cons ?_ ?_ | refine rr_tup ?_ | refine rr_agg ?_ | refine rr_own rfl ?_ | exact RetRel.arg | exact RetRel.argc | refine rr_t ?_)
    simp [least, h]
  · repeat (first | refine w_q ?_ | refine w_s ?_ | refine w_t ?_ | refine w_k ?_ | refine u_n ?_ | refine u_q ?_ | refine u_g ?_ | refine u_d ?_ | refine u_b ?_ | refine u_x ?_ | refine u_r ?_ | refine u_s ?_)
    refine u_0 ?_
    repeat' (first | exact RetRelL.nil | refine RetRel.nil rfl ?_ | refine RetRelL.cons ?_ ?_ | refine rr_tup ?_ | refine rr_agg ?_ | refine rr_own rfl ?_ | exact RetRel.arg | exact RetRel.argc | refine rr_t ?_)
    simp [least, h]
theorem above_c (c : Nat) : TCall Try.prog 43 [.f .f32 c] (.t (.v (.bool (above c)))) [] := by
  refine tcall_of Try.func43 rfl (by kernel_rfl) (Nat.le_of_ble_eq_true rfl) rfl ?_
  simp only [argsL, argAV, argCs, argS]
  repeat (first | refine w_q ?_ | refine w_s ?_ | refine w_t ?_ | refine w_k ?_ | refine u_n ?_ | refine u_q ?_ | refine u_g ?_ | refine u_d ?_ | refine u_b ?_ | refine u_x ?_ | refine u_r ?_ | refine u_s ?_)
  refine c_q (l01Finite_c _) (h := ?_)
  repeat (first | refine w_q ?_ | refine w_s ?_ | refine w_t ?_ | refine w_k ?_ | refine u_n ?_ | refine u_q ?_ | refine u_g ?_ | refine u_d ?_ | refine u_b ?_ | refine u_x ?_ | refine u_r ?_ | refine u_s ?_)
  refine lex_if rfl rfl rfl (fun h => ?_) (fun h => ?_)
  · repeat (first | refine w_q ?_ | refine w_s ?_ | refine w_t ?_ | refine w_k ?_ | refine u_n ?_ | refine u_q ?_ | refine u_g ?_ | refine u_d ?_ | refine u_b ?_ | refine u_x ?_ | refine u_r ?_ | refine u_s ?_)
    refine u_0 ?_
    repeat' (first | exact RetRelL.nil | refine RetRel.nil rfl ?_ | refine RetRelL.cons ?_ ?_ | refine rr_tup ?_ | refine rr_agg ?_ | refine rr_own rfl ?_ | exact RetRel.arg | exact RetRel.argc | refine rr_t ?_)
    simp [above, h]
  · repeat (first | refine w_q ?_ | refine w_s ?_ | refine w_t ?_ | refine w_k ?_ | refine u_n ?_ | refine u_q ?_ | refine u_g ?_ | refine u_d ?_ | refine u_b ?_ | refine u_x ?_ | refine u_r ?_ | refine u_s ?_)
    refine u_0 ?_
    repeat' (first | exact RetRelL.nil | refine RetRel.nil rfl ?_ | refine RetRelL.cons ?_ ?_ | refine rr_tup ?_ | refine rr_agg ?_ | refine rr_own rfl ?_ | exact RetRel.arg | exact RetRel.argc | refine rr_t ?_)
    simp [above, h]
theorem notLess1_c (c : Nat) : TCall Try.prog 95 [.f .f32 c] (.t (.v (.bool (!least c)))) [] := by
  refine tcall_of Try.func95 rfl (by kernel_rfl) (Nat.le_of_ble_eq_true rfl) rfl ?_
  simp only [argsL, argAV, argCs, argS]
  repeat (first | refine w_q ?_ | refine w_s ?_ | refine w_t ?_ | refine w_k ?_ | refine u_n ?_ | refine u_q ?_ | refine u_g ?_ | refine u_d ?_ | refine u_b ?_ | refine u_x ?_ | refine u_r ?_ | refine u_s ?_)
  refine c_q (isFinite_c _) (h := ?_)
  repeat (first | refine w_q ?_ | refine w_s ?_ | refine w_t ?_ | refine w_k ?_ | refine u_n ?_ | refine u_q ?_ | refine u_g ?_ | refine u_d ?_ | refine u_b ?_ | refine u_x ?_ | refine u_r ?_ | refine u_s ?_)
  refine lex_if rfl rfl rfl (fun h => ?_) (fun h => ?_)
  · repeat (first | refine w_q ?_ | refine w_s ?_ | refine w_t ?_ | refine w_k ?_ | refine u_n ?_ | refine u_q ?_ | refine u_g ?_ | refine u_d ?_ | refine u_b ?_ | refine u_x ?_ | refine u_r ?_ | refine u_s ?_)
    refine u_0 ?_
    repeat' (first | exact RetRelL.nil | refine RetRel.nil rfl ?_ | refine RetRelL.cons ?_ ?_ | refine rr_tup ?_ | refine rr_agg ?_ | refine rr_own rfl ?_ | exact RetRel.arg | exact RetRel.argc | refine rr_t ?_)
    simp at h
    simp [least, h]
  · repeat (first | refine w_q ?_ | refine w_s ?_ | refine w_t ?_ | refine w_k ?_ | refine u_n ?_ | refine u_q ?_ | refine u_g ?_ | refine u_d ?_ | refine u_b ?_ | refine u_x ?_ | refine u_r ?_ | refine u_s ?_)
    refine u_0 ?_
    repeat' (first | exact RetRelL.nil | refine RetRel.nil rfl ?_ | refine RetRelL.cons ?_ ?_ | refine rr_tup ?_ | refine rr_agg ?_ | refine rr_own rfl ?_ | exact RetRel.arg | exact RetRel.argc | refine rr_t ?_)
    simp at h
    simp [least, h]
theorem more1_c (c : Nat) : TCall Try.prog 89 [.f .f32 c] (.t (.v (.bool (!above c)))) [] := by
  refine tcall_of Try.func89 rfl (by kernel_rfl) (Nat.le_of_ble_eq_true rfl) rfl ?_
  simp only [argsL, argAV, argCs, argS]
  repeat (first | refine w_q ?_ | refine w_s ?_ | refine w_t ?_ | refine w_k ?_ | refine u_n ?_ | refine u_q ?_ | refine u_g ?_ | refine u_d ?_ | refine u_b ?_ | refine u_x ?_ | refine u_r ?_ | refine u_s ?_)
  refine c_q (isFinite_c _) (h := ?_)
  repeat (first | refine w_q ?_ | refine w_s ?_ | refine w_t ?_ | refine w_k ?_ | refine u_n ?_ | refine u_q ?_ | refine u_g ?_ | refine u_d ?_ | refine u_b ?_ | refine u_x ?_ | refine u_r ?_ | refine u_s ?_)
  refine lex_if rfl rfl rfl (fun h => ?_) (fun h => ?_)
  · repeat (first | refine w_q ?_ | refine w_s ?_ | refine w_t ?_ | refine w_k ?_ | refine u_n ?_ | refine u_q ?_ | refine u_g ?_ | refine u_d ?_ | refine u_b ?_ | refine u_x ?_ | refine u_r ?_ | refine u_s ?_)
    refine u_0 ?_
    repeat' (first | exact RetRelL.nil | refine RetRel.nil rfl ?_ | refine RetRelL.cons ?_ ?_ | refine rr_tup ?_ | refine rr_agg ?_ | refine rr_own rfl ?_ | exact RetRel.arg | exact RetRel.argc | refine rr_t ?_)
    simp at h
    simp [above, h]
  · repeat (first | refine w_q ?_ | refine w_s ?_ | refine w_t ?_ | refine w_k ?_ | refine u_n ?_ | refine u_q ?_ | refine u_g ?_ | refine u_d ?_ | refine u_b ?_ | refine u_x ?_ | refine u_r ?_ | refine u_s ?_)
    refine u_0 ?_
    repeat' (first | exact RetRelL.nil | refine RetRel.nil rfl ?_ | refine RetRelL.cons ?_ ?_ | refine rr_tup ?_ | refine rr_agg ?_ | refine rr_own rfl ?_ | exact RetRel.arg | exact RetRel.argc | refine rr_t ?_)
    simp at h
    simp [above, h]
theorem areNotLess_c (l : List Nat) (hl : l.length ≤ 9223372036854775807) : TCall Try.prog 54 [.fl l] (.t (.v (.bool (l.all least)))) [] := by
  refine tcall_of Try.func54 rfl (by kernel_rfl) (Nat.le_of_ble_eq_true rfl) rfl ?_
  simp only [argsL, argAV, argCs, argS]
  repeat (first | refine w_q ?_ | refine w_s ?_ | refine w_t ?_ | refine w_k ?_ | refine u_n ?_ | refine u_q ?_ | refine u_g ?_ | refine u_d ?_ | refine u_b ?_ | refine u_x ?_ | refine u_r ?_ | refine u_s ?_)
  refine c_q (containsFunc_c _ [] _ l hl notLess1_c) (h := ?_)
  repeat (first | refine w_q ?_ | refine w_s ?_ | refine w_t ?_ | refine w_k ?_ | refine u_n ?_ | refine u_q ?_ | refine u_g ?_ | refine u_d ?_ | refine u_b ?_ | refine u_x ?_ | refine u_r ?_ | refine u_s ?_)
  refine u_0 ?_
  repeat' (first | exact RetRelL.nil | refine RetRel.nil rfl ?_ | refine RetRelL.cons ?_ ?_ | refine rr_tup ?_ | refine rr_agg ?_ | refine rr_own rfl ?_ | exact RetRel.arg | exact RetRel.argc | refine rr_t ?_)
  simp [List.all_eq_not_any_not]
theorem areMore_c (l : List Nat) (hl : l.length ≤ 9223372036854775807) : TCall Try.prog 48 [.fl l] (.t (.v (.bool (l.all above)))) [] := by
  refine tcall_of Try.func48 rfl (by kernel_rfl) (Nat.le_of_ble_eq_true rfl) rfl ?_
  simp only [argsL, argAV, argCs, argS]
  repeat (first | refine w_q ?_ | refine w_s ?_ | refine w_t ?_ | refine w_k ?_ | refine u_n ?_ | refine u_q ?_ | refine u_g ?_ | refine u_d ?_ | refine u_b ?_ | refine u_x ?_ | refine u_r ?_ | refine u_s ?_)
  refine c_q (containsFunc_c _ [] _ l hl more1_c) (h := ?_)
  repeat (first | refine w_q ?_ | refine w_s ?_ | refine w_t ?_ | refine w_k ?_ | refine u_n ?_ | refine u_q ?_ | refine u_g ?_ | refine u_d ?_ | refine u_b ?_ | refine u_x ?_ | refine u_r ?_ | refine u_s ?_)
  refine u_0 ?_
  repeat' (first | exact RetRelL.nil | refine RetRel.nil rfl ?_ | refine RetRelL.cons ?_ ?_ | refine rr_tup ?_ | refine rr_agg ?_ | refine rr_own rfl ?_ | exact RetRel.arg | exact RetRel.argc | refine rr_t ?_)
  simp [List.all_eq_not_any_not]
end Go.Proofs.Ytpdnjcblkjjegaa

