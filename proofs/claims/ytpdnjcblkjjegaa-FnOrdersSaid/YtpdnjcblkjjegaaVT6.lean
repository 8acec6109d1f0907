import Derived.Test.YtpdnjcblkjjegaaVT1b
import Derived.Test.YtpdnjcblkjjegaaVAwD
set_option linter.unusedVariables false
set_option linter.unusedSimpArgs false
set_option maxRecDepth 20000
namespace Go.Proofs.Ytpdnjcblkjjegaa
open Go.Aw
attribute [local irreducible] QRun LexD AWp TCall

theorem ext32 : ExtOk Try.prog 118 Extern.MathFloatBits.float32bits := ⟨fun args w => by
  have hf := Try.func118
  have h1 : (Try.f118.name == "runtime.NumGoroutine") = false := by kernel_rfl
  have h2 : Try.f118.body = none := by kernel_rfl
  have h3 : Extern.findNext Try.f118 = none := by kernel_rfl
  have h4 : Extern.find Try.f118 = some Extern.MathFloatBits.float32bits := by kernel_rfl
  simp only [callFunc, Sem.run_bind, run_program, Result.andThen_ok, hf]
  simp only [h1, h2, Bool.false_eq_true, if_false]
  simp [h3, h4]⟩
theorem order_self {k : FloatKind} {c : Nat} : k.format.order c c = if isNan k c then none else some .eq := by
  cases hc : isNan k c with
  | true => rw [order_nan_left hc]; rfl
  | false =>
    have hn : ∀ s t, k.format.read c ≠ .nan s t := fun s t h => by
      have := (isNan_iff k c).2 ⟨s, t, h⟩; rw [hc] at this; cases this
    unfold Ieee.Format.order
    cases hd : k.format.read c with
    | nan s t => exact absurd hd (hn s t)
    | infinity s => cases s <;> simp [Ieee.Datum.order]
    | number s m e => simp [Ieee.Datum.order]
theorem neq_self {k : FloatKind} {c : Nat} : fcmp .neq k c c = isNan k c := by
  simp only [fcmp, order_self]; cases isNan k c <;> simp

def bits (c : Nat) : Int := if fcmp .neq .f32 c c then 2143289344 else IntKind.i64.wrap c
theorem l01Bits_c (c : Nat) : TCall Try.prog 94 [.f .f32 c] (.t (.v (.int .i64 (bits c)))) [] := by
  refine tcall_of Try.func94 rfl (by kernel_rfl) (Nat.le_of_ble_eq_true rfl) rfl ?_
  simp only [argsL, argAV, argCs, argS]
  refine V3 ?_
  refine awp_if rfl (fun h => ?_) (fun h => ?_)
  · refine V3 ?_
    refine u_0 ?_
    repeat' (first | exact RetRelL.nil | refine RetRel.nil rfl ?_ | refine RetRelL.cons ?_ ?_ | refine rr_tup ?_ | refine rr_agg ?_ | refine rr_own rfl ?_ | exact RetRel.arg | exact RetRel.argc | refine rr_t ?_)
    simp [bits, h]
  · refine V3 ?_
    refine px_q rfl rfl rfl (q_bits32 ext32 rfl rfl (by rw [← neq_self]; exact h)) (by first | exact nf_f rfl | exact nf_b rfl | exact nf_i rfl | exact nf_bp rfl | exact nf_own rfl | exact nf_argo rfl | exact nf_arg rfl | exact nf_argc rfl | exact nf_fl rfl | exact nf_ofl rfl | exact nf_oref rfl | exact nf_tref rfl | exact nf_s rfl | exact nf_t rfl | exact nf_old rfl | exact nf_junk rfl | exact nf_dead rfl | (simp only [resV, resVl, scrubL, scrub, List.map, List.drop, List.take, mkT, zA, cellsA, cid, cids, relab, sg, List.getD, List.append, List.cons_append, List.nil_append, Nat.reduceMul, Nat.reduceAdd, Array.toList, T.get, cond_true, cond_false]; rfl) | rfl) ?_
    refine px_q rfl rfl rfl (q_cv_ii tyOk rfl rfl rfl rfl rfl) (by first | exact nf_f rfl | exact nf_b rfl | exact nf_i rfl | exact nf_bp rfl | exact nf_own rfl | exact nf_argo rfl | exact nf_arg rfl | exact nf_argc rfl | exact nf_fl rfl | exact nf_ofl rfl | exact nf_oref rfl | exact nf_tref rfl | exact nf_s rfl | exact nf_t rfl | exact nf_old rfl | exact nf_junk rfl | exact nf_dead rfl | (simp only [resV, resVl, scrubL, scrub, List.map, List.drop, List.take, mkT, zA, cellsA, cid, cids, relab, sg, List.getD, List.append, List.cons_append, List.nil_append, Nat.reduceMul, Nat.reduceAdd, Array.toList, T.get, cond_true, cond_false]; rfl) | rfl) ?_
    refine V3 ?_
    refine u_0 ?_
    repeat' (first | exact RetRelL.nil | refine RetRel.nil rfl ?_ | refine RetRelL.cons ?_ ?_ | refine rr_tup ?_ | refine rr_agg ?_ | refine rr_own rfl ?_ | exact RetRel.arg | exact RetRel.argc | refine rr_t ?_)
    simp [bits, h]
theorem l01Same_c (c d : Nat) : TCall Try.prog 53 [.f .f32 c, .f .f32 d] (.t (.v (.bool (bits c == bits d)))) [] := by
  refine tcall_of Try.func53 rfl (by kernel_rfl) (Nat.le_of_ble_eq_true rfl) rfl ?_
  simp only [argsL, argAV, argCs, argS]
  refine V3 ?_
  refine px_q rfl rfl rfl (q_call (l01Bits_c _) rfl rfl rfl rfl rfl (by ((repeat' (first | exact ToTs.nil | exact tots_mk _ | refine ToTs.cons ?_ ?_ | exact ToT.tr rfl | exact ToT.own rfl rfl (by first | rfl | (simp only [T.len]; omega) | (simp only [T.len, marks_len]; done) | (simp only [T.len, List.length_map]; done)) | exact ToT.nil rfl rfl | refine ToT.argo ?_ | refine ToT.agg ?_ | refine ToT.fn ?_ | refine ToT.box rfl rfl ?_ | exact ToT.cut rfl rfl (by first | omega | (simp only [T.len]; omega)) rfl | refine ToT.grow ?_)); done))) (by first | exact nf_f rfl | exact nf_b rfl | exact nf_i rfl | exact nf_bp rfl | exact nf_own rfl | exact nf_argo rfl | exact nf_arg rfl | exact nf_argc rfl | exact nf_fl rfl | exact nf_ofl rfl | exact nf_oref rfl | exact nf_tref rfl | exact nf_s rfl | exact nf_t rfl | exact nf_old rfl | exact nf_junk rfl | exact nf_dead rfl | (simp only [resV, resVl, scrubL, scrub, List.map, List.drop, List.take, mkT, zA, cellsA, cid, cids, relab, sg, List.getD, List.append, List.cons_append, List.nil_append, Nat.reduceMul, Nat.reduceAdd, Array.toList, T.get, cond_true, cond_false]; rfl) | rfl) ?_
  refine V3 ?_
  refine px_q rfl rfl rfl (q_call (l01Bits_c _) rfl rfl rfl rfl rfl (by ((repeat' (first | exact ToTs.nil | exact tots_mk _ | refine ToTs.cons ?_ ?_ | exact ToT.tr rfl | exact ToT.own rfl rfl (by first | rfl | (simp only [T.len]; omega) | (simp only [T.len, marks_len]; done) | (simp only [T.len, List.length_map]; done)) | exact ToT.nil rfl rfl | refine ToT.argo ?_ | refine ToT.agg ?_ | refine ToT.fn ?_ | refine ToT.box rfl rfl ?_ | exact ToT.cut rfl rfl (by first | omega | (simp only [T.len]; omega)) rfl | refine ToT.grow ?_)); done))) (by first | exact nf_f rfl | exact nf_b rfl | exact nf_i rfl | exact nf_bp rfl | exact nf_own rfl | exact nf_argo rfl | exact nf_arg rfl | exact nf_argc rfl | exact nf_fl rfl | exact nf_ofl rfl | exact nf_oref rfl | exact nf_tref rfl | exact nf_s rfl | exact nf_t rfl | exact nf_old rfl | exact nf_junk rfl | exact nf_dead rfl | (simp only [resV, resVl, scrubL, scrub, List.map, List.drop, List.take, mkT, zA, cellsA, cid, cids, relab, sg, List.getD, List.append, List.cons_append, List.nil_append, Nat.reduceMul, Nat.reduceAdd, Array.toList, T.get, cond_true, cond_false]; rfl) | rfl) ?_
  refine V3 ?_
  refine u_0 ?_
  repeat' (first | exact RetRelL.nil | refine RetRel.nil rfl ?_ | refine RetRelL.cons ?_ ?_ | refine rr_tup ?_ | refine rr_agg ?_ | refine rr_own rfl ?_ | exact RetRel.arg | exact RetRel.argc | refine rr_t ?_)
  rfl
end Go.Proofs.Ytpdnjcblkjjegaa

set_option linter.unusedVariables false
set_option linter.unusedSimpArgs false
set_option maxRecDepth 20000
namespace Go.Proofs.Ytpdnjcblkjjegaa
open Go.Aw
attribute [local irreducible] QRun LexD AWp TCall

def nn (c : Nat) : Bool := fcmp .neq .f32 c c
end Go.Proofs.Ytpdnjcblkjjegaa

set_option linter.unusedVariables false
set_option linter.unusedSimpArgs false
set_option maxRecDepth 20000
set_option maxHeartbeats 4000000
namespace Go.Proofs.Ytpdnjcblkjjegaa
open Go.Aw
attribute [local irreducible] QRun LexD AWp TCall

def idxOf (p : Nat → Bool) (l : List Nat) : Int := if l.any p then (l.findIdx p : Nat) else -1
theorem idx_hit {p : Nat → Bool} {l : List Nat} {i : Nat} (hi : i < l.length) (h0 : ∀ j, j < i → p (l.getD j 0) = false) (h : p (l.getD i 0) = true) : idxOf p l = i := by
  have e : ∀ j, j < l.length → l.getD j 0 = l[j]! := fun j hj => by simp [List.getD_eq_getElem?_getD, hj]
  have e1 : l.getD i 0 = l[i] := by simp [List.getD_eq_getElem?_getD, hi]
  have ha : l.any p = true := List.any_eq_true.2 ⟨l[i], List.getElem_mem hi, by rw [← e1]; exact h⟩
  have hf : l.findIdx p = i := by
    refine (List.findIdx_eq hi).2 ⟨by rw [← e1]; exact h, fun j hj => ?_⟩
    have hj' : j < l.length := by omega
    have := h0 j hj
    rw [show l.getD j 0 = l[j] by simp [List.getD_eq_getElem?_getD, hj']] at this
    simpa using this
  unfold idxOf; rw [ha, hf]; rfl
theorem idx_miss {p : Nat → Bool} {l : List Nat} (h0 : ∀ j, j < l.length → p (l.getD j 0) = false) : idxOf p l = -1 := by
  have ha : l.any p = false := by
    cases h : l.any p with
    | false => rfl
    | true =>
      obtain ⟨c, hc, hp⟩ := List.any_eq_true.1 h
      obtain ⟨j, hj, rfl⟩ := List.getElem_of_mem hc
      have := h0 j hj
      rw [show l.getD j 0 = l[j] by simp [List.getD_eq_getElem?_getD, hj]] at this
      rw [hp] at this; cases this
  unfold idxOf; rw [ha]; rfl

theorem idxFunc_c (g : Nat) (ts : List T) (p : Nat → Bool) (l : List Nat) (hl : l.length ≤ 9223372036854775807) (hg : ∀ c, TCall Try.prog g (.f .f32 c :: ts) (.t (.v (.bool (p c)))) []) :
    TCall Try.prog 115 [.fl l, .fn g ts] (.t (.v (.int .i64 (idxOf p l)))) [] := by
  refine tcall_of Try.func115 rfl (by kernel_rfl) (Nat.le_of_ble_eq_true rfl) rfl ?_
  simp only [argsL, argAV, argCs, argS]
  refine V3 ?_
  refine awp_loop (X := Nat) (fun i => i ≤ l.length ∧ ∀ j, j < i → p (l.getD j 0) = false) (fun i => [(0, .arg 0 (.fl l)), (1, .arg 1 (.fn g ts)), (7, .t (.v (.int .i64 l.length))), (8, .t (.v (.int .i64 i)))]) (fun _ => []) (fun i => l.length - i)
    0 ⟨⟨by omega, fun j hj => by omega⟩, fun i => i, ⟨rfl, rfl, rfl, rfl, trivial⟩, trivial, injOn_id _⟩ (fun i hi => ?_)
  refine V3 ?_
  refine awp_if rfl (fun h => ?_) (fun h => ?_)
  · simp only [icmp, decide_eq_true_eq] at h
    refine V3 ?_
    refine c_q (hg _) (h := ?_)
    refine V3 ?_
    refine awp_if rfl (fun h1 => ?_) (fun h1 => ?_)
    · refine V3 ?_
      refine u_0 ?_
      repeat' (first | exact RetRelL.nil | refine RetRel.nil rfl ?_ | refine RetRelL.cons ?_ ?_ | refine rr_tup ?_ | refine rr_agg ?_ | refine rr_own rfl ?_ | exact RetRel.arg | exact RetRel.argc | refine rr_t ?_)
      rw [idx_hit (by omega) hi.2 h1]
    · refine V3 ?_
      exact ⟨i + 1, by omega, ⟨by omega, fun j hj => (Nat.lt_or_eq_of_le (Nat.le_of_lt_succ hj)).elim (fun hj' => hi.2 j hj') (fun hj' => by rw [hj']; exact h1)⟩, fun i => i, ⟨rfl, rfl, rfl, rfl, trivial⟩, trivial, injOn_id _⟩
  · simp only [icmp, decide_eq_false_iff_not] at h
    refine V3 ?_
    refine u_0 ?_
    repeat' (first | exact RetRelL.nil | refine RetRel.nil rfl ?_ | refine RetRelL.cons ?_ ?_ | refine rr_tup ?_ | refine rr_agg ?_ | refine rr_own rfl ?_ | exact RetRel.arg | exact RetRel.argc | refine rr_t ?_)
    rw [idx_miss (fun j hj => hi.2 j (by omega))]
theorem containsFunc_c (g : Nat) (ts : List T) (p : Nat → Bool) (l : List Nat) (hl : l.length ≤ 9223372036854775807) (hg : ∀ c, TCall Try.prog g (.f .f32 c :: ts) (.t (.v (.bool (p c)))) []) :
    TCall Try.prog 84 [.fl l, .fn g ts] (.t (.v (.bool (l.any p)))) [] := by
  refine tcall_of Try.func84 rfl (by kernel_rfl) (Nat.le_of_ble_eq_true rfl) rfl ?_
  simp only [argsL, argAV, argCs, argS]
  refine V3 ?_
  refine c_q (idxFunc_c g ts p l hl hg) (h := ?_)
  refine V3 ?_
  refine u_0 ?_
  repeat' (first | exact RetRelL.nil | refine RetRel.nil rfl ?_ | refine RetRelL.cons ?_ ?_ | refine rr_tup ?_ | refine rr_agg ?_ | refine rr_own rfl ?_ | exact RetRel.arg | exact RetRel.argc | refine rr_t ?_)
  unfold idxOf
  cases l.any p <;> simp [icmp]

/-- finite -/
def fin (c : Nat) : Bool := fcmp .eql .f32 (fop .sub .f32 c c) 0
theorem isFinite_c (c : Nat) : TCall Try.prog 41 [.f .f32 c] (.t (.v (.bool (fin c)))) [] := by
  refine tcall_of Try.func41 rfl (by kernel_rfl) (Nat.le_of_ble_eq_true rfl) rfl ?_
  simp only [argsL, argAV, argCs, argS]
  refine V3 ?_
  refine u_0 ?_
  repeat' (first | exact RetRelL.nil | refine RetRel.nil rfl ?_ | refine RetRelL.cons ?_ ?_ | refine rr_tup ?_ | refine rr_agg ?_ | refine rr_own rfl ?_ | exact RetRel.arg | exact RetRel.argc | refine rr_t ?_)
  rfl
theorem l01Finite_c (c : Nat) : TCall Try.prog 58 [.f .f32 c] (.t (.v (.bool (fin c)))) [] := by
  refine tcall_of Try.func58 rfl (by kernel_rfl) (Nat.le_of_ble_eq_true rfl) rfl ?_
  simp only [argsL, argAV, argCs, argS]
  refine V3 ?_
  refine u_0 ?_
  repeat' (first | exact RetRelL.nil | refine RetRel.nil rfl ?_ | refine RetRelL.cons ?_ ?_ | refine rr_tup ?_ | refine rr_agg ?_ | refine rr_own rfl ?_ | exact RetRel.arg | exact RetRel.argc | refine rr_t ?_)
  rfl
def least (c : Nat) : Bool := fin c && fcmp .geq .f32 c 0
def above (c : Nat) : Bool := fin c && fcmp .gtr .f32 c 0
theorem above_c (c : Nat) : TCall Try.prog 43 [.f .f32 c] (.t (.v (.bool (above c)))) [] := by
  refine tcall_of Try.func43 rfl (by kernel_rfl) (Nat.le_of_ble_eq_true rfl) rfl ?_
  simp only [argsL, argAV, argCs, argS]
  refine V3 ?_
  refine c_q (l01Finite_c _) (h := ?_)
  refine V3 ?_
  refine lex_if rfl rfl rfl (fun h => ?_) (fun h => ?_)
  · refine V3 ?_
    refine u_0 ?_
    repeat' (first | exact RetRelL.nil | refine RetRel.nil rfl ?_ | refine RetRelL.cons ?_ ?_ | refine rr_tup ?_ | refine rr_agg ?_ | refine rr_own rfl ?_ | exact RetRel.arg | exact RetRel.argc | refine rr_t ?_)
    simp [above, h]
  · refine V3 ?_
    refine u_0 ?_
    repeat' (first | exact RetRelL.nil | refine RetRel.nil rfl ?_ | refine RetRelL.cons ?_ ?_ | refine rr_tup ?_ | refine rr_agg ?_ | refine rr_own rfl ?_ | exact RetRel.arg | exact RetRel.argc | refine rr_t ?_)
    simp [above, h]
end Go.Proofs.Ytpdnjcblkjjegaa

