import Derived.Test.YtmnpdipiffmnhaaYT12
import Derived.Test.YtmnpdipiffmnhaaYT14
set_option linter.unusedVariables false
set_option linter.unusedSimpArgs false
set_option maxRecDepth 20000
set_option maxHeartbeats 4000000
namespace Go.Proofs.Ytmnpdipiffmnhaa
open Go.Aw
attribute [local irreducible] QRun LexD AWp TCall TMut

theorem absolute_c (c : Nat) : TCall Try.prog 113 [.f .f32 c] (.t (.f .f32 (absF c))) [] := by
  refine tcall_of Try.func113 rfl (by kernel_rfl) (Nat.le_of_ble_eq_true rfl) rfl ?_
  simp only [argsL, argAV, argCs, argS]
  repeat (first | (refine w_q (h := ?_)) | (refine w_s (h := ?_)) | (refine w_t (h := ?_)) | (refine w_k (h := ?_)) | (refine lex_nil (by kernel_rfl) ?_) | (refine awp_sq ?_) | (refine awp_rg ?_) | (refine awp_rd (by kernel_rfl) (by kernel_rfl) ?_) | (refine awp_block ?_) | (refine awp_exit ?_) | (refine awp_ret ?_) | (refine awp_skip ?_))
  refine ret_ok tyOk (by first | exact .inr rfl | exact .inl rfl) pi0 rfl (by first | exact .cons (by first | exact .tmp | exact .cell rfl rfl rfl rfl rfl rfl | exact .cell1 rfl rfl rfl rfl rfl) .nil | exact .cons (by first | exact .tmp | exact .cell rfl rfl rfl rfl rfl rfl | exact .cell1 rfl rfl rfl rfl rfl) (.cons (by first | exact .tmp | exact .cell rfl rfl rfl rfl rfl rfl | exact .cell1 rfl rfl rfl rfl rfl) .nil) | exact .cons (by first | exact .tmp | exact .cell rfl rfl rfl rfl rfl rfl | exact .cell1 rfl rfl rfl rfl rfl) (.cons (by first | exact .tmp | exact .cell rfl rfl rfl rfl rfl rfl | exact .cell1 rfl rfl rfl rfl rfl) (.cons (by first | exact .tmp | exact .cell rfl rfl rfl rfl rfl rfl | exact .cell1 rfl rfl rfl rfl rfl) .nil)) | exact .cons (by first | exact .tmp | exact .cell rfl rfl rfl rfl rfl rfl | exact .cell1 rfl rfl rfl rfl rfl) (.cons (by first | exact .tmp | exact .cell rfl rfl rfl rfl rfl rfl | exact .cell1 rfl rfl rfl rfl rfl) (.cons (by first | exact .tmp | exact .cell rfl rfl rfl rfl rfl rfl | exact .cell1 rfl rfl rfl rfl rfl) (.cons (by first | exact .tmp | exact .cell rfl rfl rfl rfl rfl rfl | exact .cell1 rfl rfl rfl rfl rfl) .nil)))) ?_ trivial (injO_0 _)
  repeat' (first | exact RetRelL.nil | (refine RetRel.nil rfl ?_) | refine RetRelL.cons ?_ ?_ | refine rr_tup ?_ | refine rr_agg ?_ | refine rr_own rfl ?_ | exact RetRel.arg | exact RetRel.argc | refine rr_t ?_)
  rfl
end Go.Proofs.Ytmnpdipiffmnhaa
