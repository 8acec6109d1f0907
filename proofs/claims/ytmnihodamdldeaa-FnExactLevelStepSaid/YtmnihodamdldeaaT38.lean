import Derived.Test.YtmnihodamdldeaaT36
import Derived.Test.YtmnihodamdldeaaT37
import Derived.Test.YtmnihodamdldeaaT5
set_option linter.unusedVariables false
set_option linter.unusedSimpArgs false
set_option maxRecDepth 20000
set_option maxHeartbeats 8000000
namespace Go.Proofs.Ytmnihodamdldeaa
open Go.Aw
attribute [local irreducible] QRun LexD AWp TCall TMut fop fint fcmp fconv

theorem lawLevelStep_c (a b c d x : Nat) (s : Bool) : TCall Try.prog 8 [T4 a b c d, .f .f32 x, .v (.bool s)] (.t (.v (.bool true))) [] := by
  refine tcall_of Try.func8 rfl (by kernel_rfl) (Nat.le_of_ble_eq_true rfl) rfl ?_
  simp only [argsL, argAV, argCs, argS]
  repeat (first | (refine w_l (h := ?_)) | (refine w_s (h := ?_)) | (refine w_t (h := ?_)) | (refine w_k (h := ?_)) | (refine lex_nil (by kernel_rfl) ?_) | (refine awp_sq ?_) | (refine awp_rg ?_) | (refine awp_rd (by kernel_rfl) (by kernel_rfl) ?_) | (refine awp_block ?_) | (refine awp_exit ?_) | (refine awp_ret ?_) | (refine awp_skip ?_) | (refine awp_ifF rfl rfl ?_) | (refine c_q (sameFloat_refl _) (h := ?_)) | (refine c_s (toFloat32S_c _ ?_) (h := ?_); · (first | assumption | omega | (simp only [marks_len]; omega) | (simp only [marks_len]; assumption))) | (refine c_q (eqFloat32S_c _ ?_) (h := ?_); · (first | assumption | omega | (simp only [marks_len]; omega) | (simp only [marks_len]; assumption))) | (refine m_s [(900, _)] (mark_c _ _ ?_ ?_) (h := ?_); (· (first | assumption | omega | (simp only [marks_len]; omega) | (simp only [marks_len]; assumption))); (· omega)) | (refine c_q (held_c _ _ ?_ ?_) (h := ?_); (· (first | assumption | omega | (simp only [marks_len]; omega) | (simp only [marks_len]; assumption))); (· omega)) | (first | (refine c_q (toLevel_c _ _ _ _) (h := ?_)) | (refine z_q (toLevel_c _ _ _ _) (h := ?_))) | refine c_q (specStep_c a b c d x s) (h := ?_) | refine c_q (implStep_c a b c d x s) (h := ?_) | (first | (refine c_q (eqLevel_c _ _ _ _) (h := ?_)) | (refine z_q (eqLevel_c _ _ _ _) (h := ?_))))
  refine ret_ok tyOk (by first | exact .inr rfl | exact .inl rfl) pi0 rfl (by first | exact .cons (by first | exact .tmp | exact .cell rfl rfl rfl rfl rfl rfl | exact .cell1 rfl rfl rfl rfl rfl) .nil | exact .cons (by first | exact .tmp | exact .cell rfl rfl rfl rfl rfl rfl | exact .cell1 rfl rfl rfl rfl rfl) (.cons (by first | exact .tmp | exact .cell rfl rfl rfl rfl rfl rfl | exact .cell1 rfl rfl rfl rfl rfl) .nil) | exact .cons (by first | exact .tmp | exact .cell rfl rfl rfl rfl rfl rfl | exact .cell1 rfl rfl rfl rfl rfl) (.cons (by first | exact .tmp | exact .cell rfl rfl rfl rfl rfl rfl | exact .cell1 rfl rfl rfl rfl rfl) (.cons (by first | exact .tmp | exact .cell rfl rfl rfl rfl rfl rfl | exact .cell1 rfl rfl rfl rfl rfl) .nil)) | exact .cons (by first | exact .tmp | exact .cell rfl rfl rfl rfl rfl rfl | exact .cell1 rfl rfl rfl rfl rfl) (.cons (by first | exact .tmp | exact .cell rfl rfl rfl rfl rfl rfl | exact .cell1 rfl rfl rfl rfl rfl) (.cons (by first | exact .tmp | exact .cell rfl rfl rfl rfl rfl rfl | exact .cell1 rfl rfl rfl rfl rfl) (.cons (by first | exact .tmp | exact .cell rfl rfl rfl rfl rfl rfl | exact .cell1 rfl rfl rfl rfl rfl) .nil)))) ?_ trivial (injO_0 _)
  repeat' (first | exact RetRelL.nil | (refine RetRel.nil rfl ?_) | refine RetRelL.cons ?_ ?_ | refine rr_tup ?_ | refine rr_agg ?_ | refine rr_own rfl ?_ | exact RetRel.arg | exact RetRel.argc | refine rr_t ?_)
  all_goals rfl
end Go.Proofs.Ytmnihodamdldeaa
