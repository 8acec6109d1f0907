import Derived.Test.YtpdnjcblkjjegaaVT1b
set_option linter.unusedVariables false
set_option linter.unusedSimpArgs false
set_option maxRecDepth 20000
namespace Go.Proofs.Ytpdnjcblkjjegaa
open Go.Aw
attribute [local irreducible] QRun LexD AWp TCall

theorem ext32 : ExtOk Try.prog 118 Extern.MathFloatBits.float32bits := ⟨fun args w => by
  have hf := Try.func118
  have h1 : (Try.f118.name == "runtime.NumGoroutine") = false := by kernel_rfl
  have h2 : Try.f118.body = none := by kernel_rfl
  have h3 : Extern.findNext Try.f118 = none := by kernel_rfl
  have h4 : Extern.find Try.f118 = some Extern.MathFloatBits.float32bits := by kernel_rfl
  simp only [callFunc, Sem.run_bind, run_program, Result.andThen_ok, hf]
  simp only [h1, h2, Bool.false_eq_true, if_false]
  simp [h3, h4]⟩
theorem ext64 : ExtOk Try.prog 117 Extern.MathFloatBits.float64bits := ⟨fun args w => by
  have hf := Try.func117
  have h1 : (Try.f117.name == "runtime.NumGoroutine") = false := by kernel_rfl
  have h2 : Try.f117.body = none := by kernel_rfl
  have h3 : Extern.findNext Try.f117 = none := by kernel_rfl
  have h4 : Extern.find Try.f117 = some Extern.MathFloatBits.float64bits := by kernel_rfl
  simp only [callFunc, Sem.run_bind, run_program, Result.andThen_ok, hf]
  simp only [h1, h2, Bool.false_eq_true, if_false]
  simp [h3, h4]⟩

theorem order_self {k : FloatKind} {c : Nat} : k.format.order c c = if isNan k c then none else some .eq := by
  cases hc : isNan k c with
  | true => rw [order_nan_left hc]; rfl
  | false =>
    have hn : ∀ s t, k.format.read c ≠ .nan s t := fun s t h => by
      have := (isNan_iff k c).2 ⟨s, t, h⟩; rw [hc] at this; cases this
    unfold Ieee.Format.order
    cases hd : k.format.read c with
    | nan s t => exact absurd hd (hn s t)
    | infinity s => cases s <;> simp [Ieee.Datum.order]
    | number s m e => simp [Ieee.Datum.order]
theorem neq_self {k : FloatKind} {c : Nat} : fcmp .neq k c c = isNan k c := by
  simp only [fcmp, order_self]; cases isNan k c <;> simp

def bits (c : Nat) : Int := if fcmp .neq .f32 c c then 2143289344 else IntKind.i64.wrap c
theorem l01Bits_c (c : Nat) : TCall Try.prog 94 [.f .f32 c] (.t (.v (.int .i64 (bits c)))) [] := by
  refine tcall_of Try.func94 rfl (by kernel_rfl) (Nat.le_of_ble_eq_true rfl) rfl ?_
  simp only [argsL, argAV, argCs, argS]
  repeat (first | refine w_q ?_ | refine w_s ?_ | refine w_t ?_ | refine w_k ?_ | refine u_n ?_ | refine u_q ?_ | refine u_g ?_ | refine u_d ?_ | refine u_b ?_ | refine u_x ?_ | refine u_r ?_ | refine u_s ?_)
  refine awp_if rfl (fun h => ?_) (fun h => ?_)
  · repeat (first | refine w_q ?_ | refine w_s ?_ | refine w_t ?_ | refine w_k ?_ | refine u_n ?_ | refine u_q ?_ | refine u_g ?_ | refine u_d ?_ | refine u_b ?_ | refine u_x ?_ | refine u_r ?_ | refine u_s ?_)
    refine u_0 ?_
    repeat' (first | exact RetRelL.nil | refine RetRel.nil rfl ?_ | refine RetRelL.cons ?_ ?_ | refine rr_tup ?_ | refine rr_agg ?_ | refine rr_own rfl ?_ | exact RetRel.arg | exact RetRel.argc | refine rr_t ?_)
    simp [bits, h]
  · repeat (first | refine w_q ?_ | refine w_s ?_ | refine w_t ?_ | refine w_k ?_ | refine u_n ?_ | refine u_q ?_ | refine u_g ?_ | refine u_d ?_ | refine u_b ?_ | refine u_x ?_ | refine u_r ?_ | refine u_s ?_)
    refine px_q rfl rfl rfl (q_bits32 ext32 rfl rfl (by rw [← neq_self]; exact h)) (by first | exact nf_f rfl | exact nf_b rfl | exact nf_i rfl | exact nf_bp rfl | exact nf_own rfl | exact nf_argo rfl | exact nf_arg rfl | exact nf_argc rfl | exact nf_fl rfl | exact nf_ofl rfl | exact nf_oref rfl | exact nf_tref rfl | exact nf_s rfl | exact nf_t rfl | exact nf_old rfl | exact nf_junk rfl | exact nf_dead rfl | (simp only [resV, resVl, scrubL, scrub, List.map, List.drop, List.take, mkT, zA, cellsA, cid, cids, relab, sg, List.getD, List.append, List.cons_append, List.nil_append, Nat.reduceMul, Nat.reduceAdd, Array.toList, T.get, cond_true, cond_false]; rfl) | rfl) ?_
    refine px_q rfl rfl rfl (q_cv_ii tyOk rfl rfl rfl rfl rfl) (by first | exact nf_f rfl | exact nf_b rfl | exact nf_i rfl | exact nf_bp rfl | exact nf_own rfl | exact nf_argo rfl | exact nf_arg rfl | exact nf_argc rfl | exact nf_fl rfl | exact nf_ofl rfl | exact nf_oref rfl | exact nf_tref rfl | exact nf_s rfl | exact nf_t rfl | exact nf_old rfl | exact nf_junk rfl | exact nf_dead rfl | (simp only [resV, resVl, scrubL, scrub, List.map, List.drop, List.take, mkT, zA, cellsA, cid, cids, relab, sg, List.getD, List.append, List.cons_append, List.nil_append, Nat.reduceMul, Nat.reduceAdd, Array.toList, T.get, cond_true, cond_false]; rfl) | rfl) ?_
    repeat (first | refine w_q ?_ | refine w_s ?_ | refine w_t ?_ | refine w_k ?_ | refine u_n ?_ | refine u_q ?_ | refine u_g ?_ | refine u_d ?_ | refine u_b ?_ | refine u_x ?_ | refine u_r ?_ | refine u_s ?_)
    refine u_0 ?_
    repeat' (first | exact RetRelL.nil | refine RetRel.nil rfl ?_ | refine RetRelL.cons ?_ ?_ | refine rr_tup ?_ | refine rr_agg ?_ | refine rr_own rfl ?_ | exact RetRel.arg | exact RetRel.argc | refine rr_t ?_)
    simp [bits, h]
theorem l01Same_c (c d : Nat) : TCall Try.prog 53 [.f .f32 c, .f .f32 d] (.t (.v (.bool (bits c == bits d)))) [] := by
  refine tcall_of Try.func53 rfl (by kernel_rfl) (Nat.le_of_ble_eq_true rfl) rfl ?_
  simp only [argsL, argAV, argCs, argS]
  repeat (first | refine w_q ?_ | refine w_s ?_ | refine w_t ?_ | refine w_k ?_ | refine u_n ?_ | refine u_q ?_ | refine u_g ?_ | refine u_d ?_ | refine u_b ?_ | refine u_x ?_ | refine u_r ?_ | refine u_s ?_)
  refine px_q rfl rfl rfl (q_call (l01Bits_c _) rfl rfl rfl rfl rfl (by ((repeat' (first | exact ToTs.nil | exact tots_mk _ | refine ToTs.cons ?_ ?_ | exact ToT.tr rfl | exact ToT.own rfl rfl (by first | rfl | (simp only [T.len]; omega) | (simp only [T.len, marks_len]; done) | (simp only [T.len, List.length_map]; done)) | exact ToT.nil rfl rfl | refine ToT.argo ?_ | refine ToT.agg ?_ | refine ToT.fn ?_ | refine ToT.box rfl rfl ?_ | exact ToT.cut rfl rfl (by first | omega | (simp only [T.len]; omega)) rfl | refine ToT.grow ?_)); done))) (by first | exact nf_f rfl | exact nf_b rfl | exact nf_i rfl | exact nf_bp rfl | exact nf_own rfl | exact nf_argo rfl | exact nf_arg rfl | exact nf_argc rfl | exact nf_fl rfl | exact nf_ofl rfl | exact nf_oref rfl | exact nf_tref rfl | exact nf_s rfl | exact nf_t rfl | exact nf_old rfl | exact nf_junk rfl | exact nf_dead rfl | (simp only [resV, resVl, scrubL, scrub, List.map, List.drop, List.take, mkT, zA, cellsA, cid, cids, relab, sg, List.getD, List.append, List.cons_append, List.nil_append, Nat.reduceMul, Nat.reduceAdd, Array.toList, T.get, cond_true, cond_false]; rfl) | rfl) ?_
  repeat (first | refine w_q ?_ | refine w_s ?_ | refine w_t ?_ | refine w_k ?_ | refine u_n ?_ | refine u_q ?_ | refine u_g ?_ | refine u_d ?_ | refine u_b ?_ | refine u_x ?_ | refine u_r ?_ | refine u_s ?_)
  refine px_q rfl rfl rfl (q_call (l01Bits_c _) rfl rfl rfl rfl rfl (by ((repeat' (first | exact ToTs.nil | exact tots_mk _ | refine ToTs.cons ?_ ?_ | exact ToT.tr rfl | exact ToT.own rfl rfl (by first | rfl | (simp only [T.len]; omega) | (simp only [T.len, marks_len]; done) | (simp only [T.len, List.length_map]; done)) | exact ToT.nil rfl rfl | refine ToT.argo ?_ | refine ToT.agg ?_ | refine ToT.fn ?_ | refine ToT.box rfl rfl ?_ | exact ToT.cut rfl rfl (by first | omega | (simp only [T.len]; omega)) rfl | refine ToT.grow ?_)); done))) (by first | exact nf_f rfl | exact nf_b rfl | exact nf_i rfl | exact nf_bp rfl | exact nf_own rfl | exact nf_argo rfl | exact nf_arg rfl | exact nf_argc rfl | exact nf_fl rfl | exact nf_ofl rfl | exact nf_oref rfl | exact nf_tref rfl | exact nf_s rfl | exact nf_t rfl | exact nf_old rfl | exact nf_junk rfl | exact nf_dead rfl | (simp only [resV, resVl, scrubL, scrub, List.map, List.drop, List.take, mkT, zA, cellsA, cid, cids, relab, sg, List.getD, List.append, List.cons_append, List.nil_append, Nat.reduceMul, Nat.reduceAdd, Array.toList, T.get, cond_true, cond_false]; rfl) | rfl) ?_
  repeat (first | refine w_q ?_ | refine w_s ?_ | refine w_t ?_ | refine w_k ?_ | refine u_n ?_ | refine u_q ?_ | refine u_g ?_ | refine u_d ?_ | refine u_b ?_ | refine u_x ?_ | refine u_r ?_ | refine u_s ?_)
  refine u_0 ?_
  repeat' (first | exact RetRelL.nil | refine RetRel.nil rfl ?_ | refine RetRelL.cons ?_ ?_ | refine rr_tup ?_ | refine rr_agg ?_ | refine rr_own rfl ?_ | exact RetRel.arg | exact RetRel.argc | refine rr_t ?_)
  rfl
end Go.Proofs.Ytpdnjcblkjjegaa

set_option linter.unusedVariables false
set_option linter.unusedSimpArgs false
set_option maxRecDepth 20000
namespace Go.Proofs.Ytpdnjcblkjjegaa
open Go.Aw
attribute [local irreducible] QRun LexD AWp TCall

def sgn (c : Nat) : Bool := icmp .lss (IntKind.i64.wrap c) 0
theorem signbit_c (c : Nat) (hn : isNan .f64 c = false) : TCall Try.prog 93 [.f .f64 c] (.t (.v (.bool (sgn c)))) [] := by
  refine tcall_of Try.func93 rfl (by kernel_rfl) (Nat.le_of_ble_eq_true rfl) rfl ?_
  simp only [argsL, argAV, argCs, argS]
  repeat (first | refine w_q ?_ | refine w_s ?_ | refine w_t ?_ | refine w_k ?_ | refine u_n ?_ | refine u_q ?_ | refine u_g ?_ | refine u_d ?_ | refine u_b ?_ | refine u_x ?_ | refine u_r ?_ | refine u_s ?_)
  refine px_q rfl rfl rfl (q_bits64 ext64 rfl rfl hn) (by first | exact nf_f rfl | exact nf_b rfl | exact nf_i rfl | exact nf_bp rfl | exact nf_own rfl | exact nf_argo rfl | exact nf_arg rfl | exact nf_argc rfl | exact nf_fl rfl | exact nf_ofl rfl | exact nf_oref rfl | exact nf_tref rfl | exact nf_s rfl | exact nf_t rfl | exact nf_old rfl | exact nf_junk rfl | exact nf_dead rfl | (simp only [resV, resVl, scrubL, scrub, List.map, List.drop, List.take, mkT, zA, cellsA, cid, cids, relab, sg, List.getD, List.append, List.cons_append, List.nil_append, Nat.reduceMul, Nat.reduceAdd, Array.toList, T.get, cond_true, cond_false]; rfl) | rfl) ?_
  repeat (first | refine w_q ?_ | refine w_s ?_ | refine w_t ?_ | refine w_k ?_ | refine u_n ?_ | refine u_q ?_ | refine u_g ?_ | refine u_d ?_ | refine u_b ?_ | refine u_x ?_ | refine u_r ?_ | refine u_s ?_)
  refine px_q rfl rfl rfl (q_cv_ii tyOk rfl rfl rfl rfl rfl) (by first | exact nf_f rfl | exact nf_b rfl | exact nf_i rfl | exact nf_bp rfl | exact nf_own rfl | exact nf_argo rfl | exact nf_arg rfl | exact nf_argc rfl | exact nf_fl rfl | exact nf_ofl rfl | exact nf_oref rfl | exact nf_tref rfl | exact nf_s rfl | exact nf_t rfl | exact nf_old rfl | exact nf_junk rfl | exact nf_dead rfl | (simp only [resV, resVl, scrubL, scrub, List.map, List.drop, List.take, mkT, zA, cellsA, cid, cids, relab, sg, List.getD, List.append, List.cons_append, List.nil_append, Nat.reduceMul, Nat.reduceAdd, Array.toList, T.get, cond_true, cond_false]; rfl) | rfl) ?_
  repeat (first | refine w_q ?_ | refine w_s ?_ | refine w_t ?_ | refine w_k ?_ | refine u_n ?_ | refine u_q ?_ | refine u_g ?_ | refine u_d ?_ | refine u_b ?_ | refine u_x ?_ | refine u_r ?_ | refine u_s ?_)
  refine u_0 ?_
  repeat' (first | exact RetRelL.nil | refine RetRel.nil rfl ?_ | refine RetRelL.cons ?_ ?_ | refine rr_tup ?_ | refine rr_agg ?_ | refine rr_own rfl ?_ | exact RetRel.arg | exact RetRel.argc | refine rr_t ?_)
  rfl

def nn (c : Nat) : Bool := fcmp .neq .f32 c c
def sameN (c d : Nat) : Bool := if nn c || nn d then nn c && nn d else fcmp .eql .f32 c d && (sgn (fconv .f32 .f64 c) == sgn (fconv .f32 .f64 d))
theorem sameNumber_c (c d : Nat) (hc : nn c = false → fconvOk .f32 .f64 c = true ∧ isNan .f64 (fconv .f32 .f64 c) = false) (hd : nn d = false → fconvOk .f32 .f64 d = true ∧ isNan .f64 (fconv .f32 .f64 d) = false) :
    TCall Try.prog 52 [.f .f32 c, .f .f32 d] (.t (.v (.bool (sameN c d)))) [] := by
  refine tcall_of Try.func52 rfl (by kernel_rfl) (Nat.le_of_ble_eq_true rfl) rfl ?_
  simp only [argsL, argAV, argCs, argS]
  repeat (first | refine w_q ?_ | refine w_s ?_ | refine w_t ?_ | refine w_k ?_ | refine u_n ?_ | refine u_q ?_ | refine u_g ?_ | refine u_d ?_ | refine u_b ?_ | refine u_x ?_ | refine u_r ?_ | refine u_s ?_)
  refine lex_if rfl rfl rfl (fun hcn => ?_) (fun hcn => ?_)
  · repeat (first | refine w_q ?_ | refine w_s ?_ | refine w_t ?_ | refine w_k ?_ | refine u_n ?_ | refine u_q ?_ | refine u_g ?_ | refine u_d ?_ | refine u_b ?_ | refine u_x ?_ | refine u_r ?_ | refine u_s ?_)
    refine awp_if rfl (fun h => ?_) (fun h => ?_)
    · repeat (first | refine w_q ?_ | refine w_s ?_ | refine w_t ?_ | refine w_k ?_ | refine u_n ?_ | refine u_q ?_ | refine u_g ?_ | refine u_d ?_ | refine u_b ?_ | refine u_x ?_ | refine u_r ?_ | refine u_s ?_)
      refine lex_if rfl rfl rfl (fun h1 => ?_) (fun h1 => ?_)
      · repeat (first | refine w_q ?_ | refine w_s ?_ | refine w_t ?_ | refine w_k ?_ | refine u_n ?_ | refine u_q ?_ | refine u_g ?_ | refine u_d ?_ | refine u_b ?_ | refine u_x ?_ | refine u_r ?_ | refine u_s ?_)
        refine u_0 ?_
        repeat' (first | exact RetRelL.nil | refine RetRel.nil rfl ?_ | refine RetRelL.cons ?_ ?_ | refine rr_tup ?_ | refine rr_agg ?_ | refine rr_own rfl ?_ | exact RetRel.arg | exact RetRel.argc | refine rr_t ?_)
        simp [sameN, nn, hcn]
      · rw [hcn] at h1; cases h1
    · cases h
  · repeat (first | refine w_q ?_ | refine w_s ?_ | refine w_t ?_ | refine w_k ?_ | refine u_n ?_ | refine u_q ?_ | refine u_g ?_ | refine u_d ?_ | refine u_b ?_ | refine u_x ?_ | refine u_r ?_ | refine u_s ?_)
    refine awp_if rfl (fun h => ?_) (fun h => ?_)
    · repeat (first | refine w_q ?_ | refine w_s ?_ | refine w_t ?_ | refine w_k ?_ | refine u_n ?_ | refine u_q ?_ | refine u_g ?_ | refine u_d ?_ | refine u_b ?_ | refine u_x ?_ | refine u_r ?_ | refine u_s ?_)
      refine lex_if rfl rfl rfl (fun h1 => ?_) (fun h1 => ?_)
      · rw [hcn] at h1; cases h1
      · repeat (first | refine w_q ?_ | refine w_s ?_ | refine w_t ?_ | refine w_k ?_ | refine u_n ?_ | refine u_q ?_ | refine u_g ?_ | refine u_d ?_ | refine u_b ?_ | refine u_x ?_ | refine u_r ?_ | refine u_s ?_)
        refine u_0 ?_
        repeat' (first | exact RetRelL.nil | refine RetRel.nil rfl ?_ | refine RetRelL.cons ?_ ?_ | refine rr_tup ?_ | refine rr_agg ?_ | refine rr_own rfl ?_ | exact RetRel.arg | exact RetRel.argc | refine rr_t ?_)
        simp [sameN, nn, hcn, h]
    · repeat (first | refine w_q ?_ | refine w_s ?_ | refine w_t ?_ | refine w_k ?_ | refine u_n ?_ | refine u_q ?_ | refine u_g ?_ | refine u_d ?_ | refine u_b ?_ | refine u_x ?_ | refine u_r ?_ | refine u_s ?_)
      refine lex_if rfl rfl rfl (fun h1 => ?_) (fun h1 => ?_)
      · repeat (first | refine w_q ?_ | refine w_s ?_ | refine w_t ?_ | refine w_k ?_ | refine u_n ?_ | refine u_q ?_ | refine u_g ?_ | refine u_d ?_ | refine u_b ?_ | refine u_x ?_ | refine u_r ?_ | refine u_s ?_)
        refine px_q rfl rfl rfl (q_call (signbit_c _ (hc hcn).2) rfl rfl rfl rfl rfl (by ((repeat' (first | exact ToTs.nil | exact tots_mk _ | refine ToTs.cons ?_ ?_ | exact ToT.tr rfl | exact ToT.own rfl rfl (by first | rfl | (simp only [T.len]; omega) | (simp only [T.len, marks_len]; done) | (simp only [T.len, List.length_map]; done)) | exact ToT.nil rfl rfl | refine ToT.argo ?_ | refine ToT.agg ?_ | refine ToT.fn ?_ | refine ToT.box rfl rfl ?_ | exact ToT.cut rfl rfl (by first | omega | (simp only [T.len]; omega)) rfl | refine ToT.grow ?_)); done))) (by first | exact nf_f rfl | exact nf_b rfl | exact nf_i rfl | exact nf_bp rfl | exact nf_own rfl | exact nf_argo rfl | exact nf_arg rfl | exact nf_argc rfl | exact nf_fl rfl | exact nf_ofl rfl | exact nf_oref rfl | exact nf_tref rfl | exact nf_s rfl | exact nf_t rfl | exact nf_old rfl | exact nf_junk rfl | exact nf_dead rfl | (simp only [resV, resVl, scrubL, scrub, List.map, List.drop, List.take, mkT, zA, cellsA, cid, cids, relab, sg, List.getD, List.append, List.cons_append, List.nil_append, Nat.reduceMul, Nat.reduceAdd, Array.toList, T.get, cond_true, cond_false]; rfl) | rfl) ?_
        repeat (first | refine w_q ?_ | refine w_s ?_ | refine w_t ?_ | refine w_k ?_ | refine u_n ?_ | refine u_q ?_ | refine u_g ?_ | refine u_d ?_ | refine u_b ?_ | refine u_x ?_ | refine u_r ?_ | refine u_s ?_)
        refine px_q rfl rfl rfl (q_call (signbit_c _ (hd h).2) rfl rfl rfl rfl rfl (by ((repeat' (first | exact ToTs.nil | exact tots_mk _ | refine ToTs.cons ?_ ?_ | exact ToT.tr rfl | exact ToT.own rfl rfl (by first | rfl | (simp only [T.len]; omega) | (simp only [T.len, marks_len]; done) | (simp only [T.len, List.length_map]; done)) | exact ToT.nil rfl rfl | refine ToT.argo ?_ | refine ToT.agg ?_ | refine ToT.fn ?_ | refine ToT.box rfl rfl ?_ | exact ToT.cut rfl rfl (by first | omega | (simp only [T.len]; omega)) rfl | refine ToT.grow ?_)); done))) (by first | exact nf_f rfl | exact nf_b rfl | exact nf_i rfl | exact nf_bp rfl | exact nf_own rfl | exact nf_argo rfl | exact nf_arg rfl | exact nf_argc rfl | exact nf_fl rfl | exact nf_ofl rfl | exact nf_oref rfl | exact nf_tref rfl | exact nf_s rfl | exact nf_t rfl | exact nf_old rfl | exact nf_junk rfl | exact nf_dead rfl | (simp only [resV, resVl, scrubL, scrub, List.map, List.drop, List.take, mkT, zA, cellsA, cid, cids, relab, sg, List.getD, List.append, List.cons_append, List.nil_append, Nat.reduceMul, Nat.reduceAdd, Array.toList, T.get, cond_true, cond_false]; rfl) | rfl) ?_
        repeat (first | refine w_q ?_ | refine w_s ?_ | refine w_t ?_ | refine w_k ?_ | refine u_n ?_ | refine u_q ?_ | refine u_g ?_ | refine u_d ?_ | refine u_b ?_ | refine u_x ?_ | refine u_r ?_ | refine u_s ?_)
        refine u_0 ?_
        repeat' (first | exact RetRelL.nil | refine RetRel.nil rfl ?_ | refine RetRelL.cons ?_ ?_ | refine rr_tup ?_ | refine rr_agg ?_ | refine rr_own rfl ?_ | exact RetRel.arg | exact RetRel.argc | refine rr_t ?_)
        simp [sameN, nn, hcn, h, h1]
      · repeat (first | refine w_q ?_ | refine w_s ?_ | refine w_t ?_ | refine w_k ?_ | refine u_n ?_ | refine u_q ?_ | refine u_g ?_ | refine u_d ?_ | refine u_b ?_ | refine u_x ?_ | refine u_r ?_ | refine u_s ?_)
        refine u_0 ?_
        repeat' (first | exact RetRelL.nil | refine RetRel.nil rfl ?_ | refine RetRelL.cons ?_ ?_ | refine rr_tup ?_ | refine rr_agg ?_ | refine rr_own rfl ?_ | exact RetRel.arg | exact RetRel.argc | refine rr_t ?_)
        simp [sameN, nn, hcn, h, h1]
end Go.Proofs.Ytpdnjcblkjjegaa

