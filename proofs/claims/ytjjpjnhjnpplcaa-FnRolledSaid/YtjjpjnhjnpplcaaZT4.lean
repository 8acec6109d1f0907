import Derived.Test.YtjjpjnhjnpplcaaZT3
import Derived.Test.YtjjpjnhjnpplcaaZAwC
set_option linter.unusedVariables false
set_option linter.unusedSimpArgs false
set_option maxRecDepth 20000
set_option maxHeartbeats 4000000
namespace Go.Proofs.Ytjjpjnhjnpplcaa
open Go.Aw

theorem nn_eq (c : Nat) : nn c = isNan .f32 c := by unfold nn; exact neq_self
theorem sgn_eq {c : Nat} (h : isNan .f32 c = false) : sgn (fconv .f32 .f64 c) = (c / 2147483648 % 2 == 1) := by unfold sgn; exact widen_sgn h
theorem sameN_eq {c d : Nat} (hc : canon .f32 c = c) (hc' : c < 4294967296) (hd : canon .f32 d = d) (hd' : d < 4294967296) : sameN c d = (bits c == bits d) := by
  have hb : ∀ x : Nat, x < 4294967296 → isNan .f32 x = false → IntKind.i64.wrap (x : Int) = x ∧ (x : Int) ≠ 2143289344 := by
    intro x hx hn
    refine ⟨wrap_in (by omega), fun he => ?_⟩
    have : x = 2143289344 := by omega
    subst this
    revert hn; rw [nanB_eq]; decide
  unfold sameN bits
  rw [nn_eq, nn_eq]
  have e1 : fcmp .neq .f32 c c = isNan .f32 c := neq_self
  have e2 : fcmp .neq .f32 d d = isNan .f32 d := neq_self
  rw [e1, e2]
  cases h1 : isNan .f32 c with
  | true =>
    cases h2 : isNan .f32 d with
    | true => simp
    | false =>
      obtain ⟨e3, e4⟩ := hb d hd' h2
      simp [e3]; omega
  | false =>
    obtain ⟨e3, e4⟩ := hb c hc' h1
    cases h2 : isNan .f32 d with
    | true => simp [e3]; omega
    | false =>
      obtain ⟨e5, e6⟩ := hb d hd' h2
      simp only [Bool.or_self, Bool.false_eq_true, if_false, e3, e5, sgn_eq h1, sgn_eq h2]
      rw [Bool.eq_iff_iff]
      simp only [Bool.and_eq_true, beq_iff_eq]
      constructor
      · rintro ⟨h3, h4⟩
        exact congrArg _ (eq_of_order hc' hd' h1 h2 h3 h4)
      · intro h3
        have : c = d := by omega
        subst this
        exact ⟨order_refl h1, rfl⟩

attribute [local irreducible] QRun LexD AWp TCall
theorem sameNum_c (c d : Nat) : TCall Try.prog 122 [.f .f32 c, .f .f32 d] (.t (.v (.bool (sameN c d)))) [] :=
  sameNumber_c c d (fun h => ⟨widen_ok (by rw [← nn_eq]; exact h), widen_nan' (by rw [← nn_eq]; exact h)⟩) (fun h => ⟨widen_ok (by rw [← nn_eq]; exact h), widen_nan' (by rw [← nn_eq]; exact h)⟩)

abbrev T4 (a b c d : Nat) : T := .agg [.f .f32 a, .f .f32 b, .f .f32 c, .f .f32 d]
def and4 (f : Nat → Nat → Bool) (a b c d a' b' c' d' : Nat) : Bool := f a a' && f b b' && f c c' && f d d'
theorem implSameLevel_c (a b c d a' b' c' d' : Nat) : TCall Try.prog 31 [T4 a b c d, T4 a' b' c' d'] (.t (.v (.bool (and4 (fun x y => sameN x y) a b c d a' b' c' d')))) [] := by
  refine tcall_of Try.func31 rfl (by kernel_rfl) (Nat.le_of_ble_eq_true rfl) rfl ?_
  simp only [argsL, argAV, argCs, argS]
  repeat (first | (refine w_q (h := ?_)) | (refine w_s (h := ?_)) | (refine w_t (h := ?_)) | (refine w_k (h := ?_)) | (refine lex_nil (by kernel_rfl) ?_) | (refine awp_sq ?_) | (refine awp_rg ?_) | (refine awp_rd (by kernel_rfl) (by kernel_rfl) ?_) | (refine awp_block ?_) | (refine awp_exit ?_) | (refine awp_ret ?_) | (refine awp_skip ?_))
  refine px_q rfl rfl rfl (q_call (sameNum_c _ _) rfl rfl rfl rfl rfl (by ((repeat' (first | exact ToTs.nil | exact tots_mk _ | refine ToTs.cons ?_ ?_ | exact ToT.tr rfl | exact ToT.own rfl rfl (by first | rfl | (simp only [T.len]; omega) | (simp only [T.len, marks_len]; done) | (simp only [T.len, List.length_map]; done)) | exact ToT.nil rfl rfl | (refine ToT.argo ?_) | (refine ToT.agg ?_) | (refine ToT.fn ?_) | (refine ToT.box rfl rfl ?_) | exact ToT.cut rfl rfl (by first | omega | (simp only [T.len]; omega)) rfl | (refine ToT.grow ?_))); done))) (by first | exact nf_f rfl | exact nf_b rfl | exact nf_i rfl | exact nf_bp rfl | exact nf_own rfl | exact nf_argo rfl | exact nf_arg rfl | exact nf_argc rfl | exact nf_fl rfl | exact nf_ofl rfl | exact nf_oref rfl | exact nf_tref rfl | exact nf_s rfl | exact nf_t rfl | exact nf_old rfl | exact nf_junk rfl | exact nf_dead rfl | (simp only [resV, resVl, scrubL, scrub, List.map, List.drop, List.take, mkT, zA, cellsA, cid, cids, relab, sg, List.getD, List.append, List.cons_append, List.nil_append, Nat.reduceMul, Nat.reduceAdd, Array.toList, T.get, cond_true, cond_false]; rfl) | rfl) ?_
  repeat (first | (refine w_q (h := ?_)) | (refine w_s (h := ?_)) | (refine w_t (h := ?_)) | (refine w_k (h := ?_)) | (refine lex_nil (by kernel_rfl) ?_) | (refine awp_sq ?_) | (refine awp_rg ?_) | (refine awp_rd (by kernel_rfl) (by kernel_rfl) ?_) | (refine awp_block ?_) | (refine awp_exit ?_) | (refine awp_ret ?_) | (refine awp_skip ?_))
  refine lex_if rfl rfl rfl (fun h1 => ?_) (fun h1 => ?_)
  · repeat (first | (refine w_q (h := ?_)) | (refine w_s (h := ?_)) | (refine w_t (h := ?_)) | (refine w_k (h := ?_)) | (refine lex_nil (by kernel_rfl) ?_) | (refine awp_sq ?_) | (refine awp_rg ?_) | (refine awp_rd (by kernel_rfl) (by kernel_rfl) ?_) | (refine awp_block ?_) | (refine awp_exit ?_) | (refine awp_ret ?_) | (refine awp_skip ?_))
    refine px_q rfl rfl rfl (q_call (sameNum_c _ _) rfl rfl rfl rfl rfl (by ((repeat' (first | exact ToTs.nil | exact tots_mk _ | refine ToTs.cons ?_ ?_ | exact ToT.tr rfl | exact ToT.own rfl rfl (by first | rfl | (simp only [T.len]; omega) | (simp only [T.len, marks_len]; done) | (simp only [T.len, List.length_map]; done)) | exact ToT.nil rfl rfl | (refine ToT.argo ?_) | (refine ToT.agg ?_) | (refine ToT.fn ?_) | (refine ToT.box rfl rfl ?_) | exact ToT.cut rfl rfl (by first | omega | (simp only [T.len]; omega)) rfl | (refine ToT.grow ?_))); done))) (by first | exact nf_f rfl | exact nf_b rfl | exact nf_i rfl | exact nf_bp rfl | exact nf_own rfl | exact nf_argo rfl | exact nf_arg rfl | exact nf_argc rfl | exact nf_fl rfl | exact nf_ofl rfl | exact nf_oref rfl | exact nf_tref rfl | exact nf_s rfl | exact nf_t rfl | exact nf_old rfl | exact nf_junk rfl | exact nf_dead rfl | (simp only [resV, resVl, scrubL, scrub, List.map, List.drop, List.take, mkT, zA, cellsA, cid, cids, relab, sg, List.getD, List.append, List.cons_append, List.nil_append, Nat.reduceMul, Nat.reduceAdd, Array.toList, T.get, cond_true, cond_false]; rfl) | rfl) ?_
    repeat (first | (refine w_q (h := ?_)) | (refine w_s (h := ?_)) | (refine w_t (h := ?_)) | (refine w_k (h := ?_)) | (refine lex_nil (by kernel_rfl) ?_) | (refine awp_sq ?_) | (refine awp_rg ?_) | (refine awp_rd (by kernel_rfl) (by kernel_rfl) ?_) | (refine awp_block ?_) | (refine awp_exit ?_) | (refine awp_ret ?_) | (refine awp_skip ?_))
    refine lex_if rfl rfl rfl (fun h2 => ?_) (fun h2 => ?_)
    · repeat (first | (refine w_q (h := ?_)) | (refine w_s (h := ?_)) | (refine w_t (h := ?_)) | (refine w_k (h := ?_)) | (refine lex_nil (by kernel_rfl) ?_) | (refine awp_sq ?_) | (refine awp_rg ?_) | (refine awp_rd (by kernel_rfl) (by kernel_rfl) ?_) | (refine awp_block ?_) | (refine awp_exit ?_) | (refine awp_ret ?_) | (refine awp_skip ?_))
      refine px_q rfl rfl rfl (q_call (sameNum_c _ _) rfl rfl rfl rfl rfl (by ((repeat' (first | exact ToTs.nil | exact tots_mk _ | refine ToTs.cons ?_ ?_ | exact ToT.tr rfl | exact ToT.own rfl rfl (by first | rfl | (simp only [T.len]; omega) | (simp only [T.len, marks_len]; done) | (simp only [T.len, List.length_map]; done)) | exact ToT.nil rfl rfl | (refine ToT.argo ?_) | (refine ToT.agg ?_) | (refine ToT.fn ?_) | (refine ToT.box rfl rfl ?_) | exact ToT.cut rfl rfl (by first | omega | (simp only [T.len]; omega)) rfl | (refine ToT.grow ?_))); done))) (by first | exact nf_f rfl | exact nf_b rfl | exact nf_i rfl | exact nf_bp rfl | exact nf_own rfl | exact nf_argo rfl | exact nf_arg rfl | exact nf_argc rfl | exact nf_fl rfl | exact nf_ofl rfl | exact nf_oref rfl | exact nf_tref rfl | exact nf_s rfl | exact nf_t rfl | exact nf_old rfl | exact nf_junk rfl | exact nf_dead rfl | (simp only [resV, resVl, scrubL, scrub, List.map, List.drop, List.take, mkT, zA, cellsA, cid, cids, relab, sg, List.getD, List.append, List.cons_append, List.nil_append, Nat.reduceMul, Nat.reduceAdd, Array.toList, T.get, cond_true, cond_false]; rfl) | rfl) ?_
      repeat (first | (refine w_q (h := ?_)) | (refine w_s (h := ?_)) | (refine w_t (h := ?_)) | (refine w_k (h := ?_)) | (refine lex_nil (by kernel_rfl) ?_) | (refine awp_sq ?_) | (refine awp_rg ?_) | (refine awp_rd (by kernel_rfl) (by kernel_rfl) ?_) | (refine awp_block ?_) | (refine awp_exit ?_) | (refine awp_ret ?_) | (refine awp_skip ?_))
      refine lex_if rfl rfl rfl (fun h3 => ?_) (fun h3 => ?_)
      · repeat (first | (refine w_q (h := ?_)) | (refine w_s (h := ?_)) | (refine w_t (h := ?_)) | (refine w_k (h := ?_)) | (refine lex_nil (by kernel_rfl) ?_) | (refine awp_sq ?_) | (refine awp_rg ?_) | (refine awp_rd (by kernel_rfl) (by kernel_rfl) ?_) | (refine awp_block ?_) | (refine awp_exit ?_) | (refine awp_ret ?_) | (refine awp_skip ?_))
        refine px_q rfl rfl rfl (q_call (sameNum_c _ _) rfl rfl rfl rfl rfl (by ((repeat' (first | exact ToTs.nil | exact tots_mk _ | refine ToTs.cons ?_ ?_ | exact ToT.tr rfl | exact ToT.own rfl rfl (by first | rfl | (simp only [T.len]; omega) | (simp only [T.len, marks_len]; done) | (simp only [T.len, List.length_map]; done)) | exact ToT.nil rfl rfl | (refine ToT.argo ?_) | (refine ToT.agg ?_) | (refine ToT.fn ?_) | (refine ToT.box rfl rfl ?_) | exact ToT.cut rfl rfl (by first | omega | (simp only [T.len]; omega)) rfl | (refine ToT.grow ?_))); done))) (by first | exact nf_f rfl | exact nf_b rfl | exact nf_i rfl | exact nf_bp rfl | exact nf_own rfl | exact nf_argo rfl | exact nf_arg rfl | exact nf_argc rfl | exact nf_fl rfl | exact nf_ofl rfl | exact nf_oref rfl | exact nf_tref rfl | exact nf_s rfl | exact nf_t rfl | exact nf_old rfl | exact nf_junk rfl | exact nf_dead rfl | (simp only [resV, resVl, scrubL, scrub, List.map, List.drop, List.take, mkT, zA, cellsA, cid, cids, relab, sg, List.getD, List.append, List.cons_append, List.nil_append, Nat.reduceMul, Nat.reduceAdd, Array.toList, T.get, cond_true, cond_false]; rfl) | rfl) ?_
        repeat (first | (refine w_q (h := ?_)) | (refine w_s (h := ?_)) | (refine w_t (h := ?_)) | (refine w_k (h := ?_)) | (refine lex_nil (by kernel_rfl) ?_) | (refine awp_sq ?_) | (refine awp_rg ?_) | (refine awp_rd (by kernel_rfl) (by kernel_rfl) ?_) | (refine awp_block ?_) | (refine awp_exit ?_) | (refine awp_ret ?_) | (refine awp_skip ?_))
        refine ret_ok tyOk (by first | exact .inr rfl | exact .inl rfl) pi0 rfl (by first | exact .cons (by first | exact .tmp | exact .cell rfl rfl rfl rfl rfl rfl | exact .cell1 rfl rfl rfl rfl rfl) .nil | exact .cons (by first | exact .tmp | exact .cell rfl rfl rfl rfl rfl rfl | exact .cell1 rfl rfl rfl rfl rfl) (.cons (by first | exact .tmp | exact .cell rfl rfl rfl rfl rfl rfl | exact .cell1 rfl rfl rfl rfl rfl) .nil) | exact .cons (by first | exact .tmp | exact .cell rfl rfl rfl rfl rfl rfl | exact .cell1 rfl rfl rfl rfl rfl) (.cons (by first | exact .tmp | exact .cell rfl rfl rfl rfl rfl rfl | exact .cell1 rfl rfl rfl rfl rfl) (.cons (by first | exact .tmp | exact .cell rfl rfl rfl rfl rfl rfl | exact .cell1 rfl rfl rfl rfl rfl) .nil)) | exact .cons (by first | exact .tmp | exact .cell rfl rfl rfl rfl rfl rfl | exact .cell1 rfl rfl rfl rfl rfl) (.cons (by first | exact .tmp | exact .cell rfl rfl rfl rfl rfl rfl | exact .cell1 rfl rfl rfl rfl rfl) (.cons (by first | exact .tmp | exact .cell rfl rfl rfl rfl rfl rfl | exact .cell1 rfl rfl rfl rfl rfl) (.cons (by first | exact .tmp | exact .cell rfl rfl rfl rfl rfl rfl | exact .cell1 rfl rfl rfl rfl rfl) .nil)))) ?_ trivial (injO_0 _)
        repeat' (first | exact RetRelL.nil | (refine RetRel.nil rfl ?_) | refine RetRelL.cons ?_ ?_ | refine rr_tup ?_ | refine rr_agg ?_ | refine rr_own rfl ?_ | exact RetRel.arg | exact RetRel.argc | refine rr_t ?_)
        simp only [and4, h1, h2, h3, Bool.true_and]
      · repeat (first | (refine w_q (h := ?_)) | (refine w_s (h := ?_)) | (refine w_t (h := ?_)) | (refine w_k (h := ?_)) | (refine lex_nil (by kernel_rfl) ?_) | (refine awp_sq ?_) | (refine awp_rg ?_) | (refine awp_rd (by kernel_rfl) (by kernel_rfl) ?_) | (refine awp_block ?_) | (refine awp_exit ?_) | (refine awp_ret ?_) | (refine awp_skip ?_))
        refine ret_ok tyOk (by first | exact .inr rfl | exact .inl rfl) pi0 rfl (by first | exact .cons (by first | exact .tmp | exact .cell rfl rfl rfl rfl rfl rfl | exact .cell1 rfl rfl rfl rfl rfl) .nil | exact .cons (by first | exact .tmp | exact .cell rfl rfl rfl rfl rfl rfl | exact .cell1 rfl rfl rfl rfl rfl) (.cons (by first | exact .tmp | exact .cell rfl rfl rfl rfl rfl rfl | exact .cell1 rfl rfl rfl rfl rfl) .nil) | exact .cons (by first | exact .tmp | exact .cell rfl rfl rfl rfl rfl rfl | exact .cell1 rfl rfl rfl rfl rfl) (.cons (by first | exact .tmp | exact .cell rfl rfl rfl rfl rfl rfl | exact .cell1 rfl rfl rfl rfl rfl) (.cons (by first | exact .tmp | exact .cell rfl rfl rfl rfl rfl rfl | exact .cell1 rfl rfl rfl rfl rfl) .nil)) | exact .cons (by first | exact .tmp | exact .cell rfl rfl rfl rfl rfl rfl | exact .cell1 rfl rfl rfl rfl rfl) (.cons (by first | exact .tmp | exact .cell rfl rfl rfl rfl rfl rfl | exact .cell1 rfl rfl rfl rfl rfl) (.cons (by first | exact .tmp | exact .cell rfl rfl rfl rfl rfl rfl | exact .cell1 rfl rfl rfl rfl rfl) (.cons (by first | exact .tmp | exact .cell rfl rfl rfl rfl rfl rfl | exact .cell1 rfl rfl rfl rfl rfl) .nil)))) ?_ trivial (injO_0 _)
        repeat' (first | exact RetRelL.nil | (refine RetRel.nil rfl ?_) | refine RetRelL.cons ?_ ?_ | refine rr_tup ?_ | refine rr_agg ?_ | refine rr_own rfl ?_ | exact RetRel.arg | exact RetRel.argc | refine rr_t ?_)
        simp [and4, h1, h2, h3]
    · repeat (first | (refine w_q (h := ?_)) | (refine w_s (h := ?_)) | (refine w_t (h := ?_)) | (refine w_k (h := ?_)) | (refine lex_nil (by kernel_rfl) ?_) | (refine awp_sq ?_) | (refine awp_rg ?_) | (refine awp_rd (by kernel_rfl) (by kernel_rfl) ?_) | (refine awp_block ?_) | (refine awp_exit ?_) | (refine awp_ret ?_) | (refine awp_skip ?_))
      refine ret_ok tyOk (by first | exact .inr rfl | exact .inl rfl) pi0 rfl (by first | exact .cons (by first | exact .tmp | exact .cell rfl rfl rfl rfl rfl rfl | exact .cell1 rfl rfl rfl rfl rfl) .nil | exact .cons (by first | exact .tmp | exact .cell rfl rfl rfl rfl rfl rfl | exact .cell1 rfl rfl rfl rfl rfl) (.cons (by first | exact .tmp | exact .cell rfl rfl rfl rfl rfl rfl | exact .cell1 rfl rfl rfl rfl rfl) .nil) | exact .cons (by first | exact .tmp | exact .cell rfl rfl rfl rfl rfl rfl | exact .cell1 rfl rfl rfl rfl rfl) (.cons (by first | exact .tmp | exact .cell rfl rfl rfl rfl rfl rfl | exact .cell1 rfl rfl rfl rfl rfl) (.cons (by first | exact .tmp | exact .cell rfl rfl rfl rfl rfl rfl | exact .cell1 rfl rfl rfl rfl rfl) .nil)) | exact .cons (by first | exact .tmp | exact .cell rfl rfl rfl rfl rfl rfl | exact .cell1 rfl rfl rfl rfl rfl) (.cons (by first | exact .tmp | exact .cell rfl rfl rfl rfl rfl rfl | exact .cell1 rfl rfl rfl rfl rfl) (.cons (by first | exact .tmp | exact .cell rfl rfl rfl rfl rfl rfl | exact .cell1 rfl rfl rfl rfl rfl) (.cons (by first | exact .tmp | exact .cell rfl rfl rfl rfl rfl rfl | exact .cell1 rfl rfl rfl rfl rfl) .nil)))) ?_ trivial (injO_0 _)
      repeat' (first | exact RetRelL.nil | (refine RetRel.nil rfl ?_) | refine RetRelL.cons ?_ ?_ | refine rr_tup ?_ | refine rr_agg ?_ | refine rr_own rfl ?_ | exact RetRel.arg | exact RetRel.argc | refine rr_t ?_)
      simp [and4, h1, h2]
  · repeat (first | (refine w_q (h := ?_)) | (refine w_s (h := ?_)) | (refine w_t (h := ?_)) | (refine w_k (h := ?_)) | (refine lex_nil (by kernel_rfl) ?_) | (refine awp_sq ?_) | (refine awp_rg ?_) | (refine awp_rd (by kernel_rfl) (by kernel_rfl) ?_) | (refine awp_block ?_) | (refine awp_exit ?_) | (refine awp_ret ?_) | (refine awp_skip ?_))
    refine ret_ok tyOk (by first | exact .inr rfl | exact .inl rfl) pi0 rfl (by first | exact .cons (by first | exact .tmp | exact .cell rfl rfl rfl rfl rfl rfl | exact .cell1 rfl rfl rfl rfl rfl) .nil | exact .cons (by first | exact .tmp | exact .cell rfl rfl rfl rfl rfl rfl | exact .cell1 rfl rfl rfl rfl rfl) (.cons (by first | exact .tmp | exact .cell rfl rfl rfl rfl rfl rfl | exact .cell1 rfl rfl rfl rfl rfl) .nil) | exact .cons (by first | exact .tmp | exact .cell rfl rfl rfl rfl rfl rfl | exact .cell1 rfl rfl rfl rfl rfl) (.cons (by first | exact .tmp | exact .cell rfl rfl rfl rfl rfl rfl | exact .cell1 rfl rfl rfl rfl rfl) (.cons (by first | exact .tmp | exact .cell rfl rfl rfl rfl rfl rfl | exact .cell1 rfl rfl rfl rfl rfl) .nil)) | exact .cons (by first | exact .tmp | exact .cell rfl rfl rfl rfl rfl rfl | exact .cell1 rfl rfl rfl rfl rfl) (.cons (by first | exact .tmp | exact .cell rfl rfl rfl rfl rfl rfl | exact .cell1 rfl rfl rfl rfl rfl) (.cons (by first | exact .tmp | exact .cell rfl rfl rfl rfl rfl rfl | exact .cell1 rfl rfl rfl rfl rfl) (.cons (by first | exact .tmp | exact .cell rfl rfl rfl rfl rfl rfl | exact .cell1 rfl rfl rfl rfl rfl) .nil)))) ?_ trivial (injO_0 _)
    repeat' (first | exact RetRelL.nil | (refine RetRel.nil rfl ?_) | refine RetRelL.cons ?_ ?_ | refine rr_tup ?_ | refine rr_agg ?_ | refine rr_own rfl ?_ | exact RetRel.arg | exact RetRel.argc | refine rr_t ?_)
    simp [and4, h1]
end Go.Proofs.Ytjjpjnhjnpplcaa
