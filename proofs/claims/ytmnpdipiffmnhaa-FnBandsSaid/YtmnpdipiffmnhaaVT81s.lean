import Derived.Test.YtmnpdipiffmnhaaVT118t
import Derived.Test.YtmnpdipiffmnhaaVAwJ
import Derived.Test.YtmnpdipiffmnhaaVT58
import Derived.Test.YtmnpdipiffmnhaaVT28
set_option linter.unusedVariables false
set_option linter.unusedSimpArgs false
set_option maxRecDepth 20000
set_option maxHeartbeats 8000000
namespace Go.Proofs.Ytmnpdipiffmnhaa
open Go.Aw

/-! ### series of bounded numbers: forecasts, misses, means -/
def SerB (a : List Nat) : Prop := (1 ≤ a.length ∧ a.length ≤ 96) ∧ ∀ i, i < a.length → Bd (a.getD i 0) 64
theorem SerB.ser {a : List Nat} (h : SerB a) : isSer a = true := by
  unfold isSer
  simp only [Bool.and_eq_true, decide_eq_true_eq]
  refine ⟨h.1, List.all_eq_true.2 fun c hc => ?_⟩
  obtain ⟨i, hi, rfl⟩ := List.getElem_of_mem hc
  have := (h.2 i hi).fin
  rw [List.getD_eq_getElem?_getD, List.getElem?_eq_getElem hi] at this
  exact this
theorem getD_take {a : List Nat} {n i : Nat} (h : i < n) : (a.take n).getD i 0 = a.getD i 0 := by
  simp [List.getD_eq_getElem?_getD, List.getElem?_take, h]
theorem SerB.take {a : List Nat} (h : SerB a) {n : Nat} (h1 : 1 ≤ n) (h2 : n ≤ a.length) : SerB (a.take n) ∧ (a.take n).length = n := by
  have hl : (a.take n).length = n := by simp; omega
  refine ⟨⟨by rw [hl]; have := h.1; omega, fun i hi => ?_⟩, hl⟩
  rw [hl] at hi
  rw [getD_take hi]
  exact h.2 i (by omega)
theorem neq_same {c : Nat} (h : Fnt .f32 c) : fcmp .neq .f32 c c = false := by
  rw [neq_rv h h]; simp
end Go.Proofs.Ytmnpdipiffmnhaa

set_option linter.unusedVariables false
set_option linter.unusedSimpArgs false
set_option maxRecDepth 20000
set_option maxHeartbeats 8000000
namespace Go.Proofs.Ytmnpdipiffmnhaa
open Go.Aw
attribute [local irreducible] QRun LexD AWp TCall TMut fop fint fcmp fconv

/-! ### numbers in order -/
def swp (m : List Nat) (j : Nat) : List Nat := (m.set j (m.getD (j - 1) 0)).set (j - 1) (m.getD j 0)
theorem swp_len (m : List Nat) (j : Nat) : (swp m j).length = m.length := by simp [swp]
def sink : Nat → List Nat → List Nat
  | 0, m => m
  | j + 1, m => if fcmp .lss .f32 (m.getD (j + 1) 0) (m.getD j 0) = true then sink j (swp m (j + 1)) else m
theorem sink_t {j : Nat} {m : List Nat} (h : fcmp .lss .f32 (m.getD (j + 1) 0) (m.getD j 0) = true) : sink (j + 1) m = sink j (swp m (j + 1)) := by rw [sink, if_pos h]
theorem sink_f {j : Nat} {m : List Nat} (h : fcmp .lss .f32 (m.getD (j + 1) 0) (m.getD j 0) = false) : sink (j + 1) m = m := by rw [sink, if_neg (by rw [h]; exact Bool.false_ne_true)]
theorem sink_len : ∀ (j : Nat) (m : List Nat), (sink j m).length = m.length
  | 0, m => rfl
  | j + 1, m => by
    rw [sink]
    split
    · rw [sink_len, swp_len]
    · rfl
def srt (l : List Nat) : Nat → List Nat
  | 0 => l
  | k + 1 => sink (k + 1) (srt l k)
theorem srt_len (l : List Nat) : ∀ k, (srt l k).length = l.length
  | 0 => rfl
  | k + 1 => by rw [srt, sink_len, srt_len]
def sortF (l : List Nat) : List Nat := srt l (l.length - 1)
theorem sortF_len (l : List Nat) : (sortF l).length = l.length := srt_len l _
def cmpI (x y : Nat) : Int := if fcmp .lss .f32 x y then -1 else if fcmp .gtr .f32 x y then 1 else 0
theorem cmpI_neg (x y : Nat) : icmp .lss (cmpI x y) 0 = fcmp .lss .f32 x y := by
  unfold cmpI
  cases fcmp .lss .f32 x y
  · simp only [Bool.false_eq_true, if_false]
    split <;> rfl
  · rfl
theorem sorted1_c (x y : Nat) : TCall Try.prog 214 [.f .f32 x, .f .f32 y] (.t (.v (.int .i64 (cmpI x y)))) [] := by
  refine tcall_of Try.func214 rfl (by kernel_rfl) (Nat.le_of_ble_eq_true rfl) rfl ?_
  simp only [argsL, argAV, argCs, argS]
  repeat (first | (refine w_q (h := ?_)) | (refine w_s (h := ?_)) | (refine w_t (h := ?_)) | (refine w_k (h := ?_)) | (refine y_q (h := ?_)) | (refine y_s (h := ?_)) | (refine y_t (h := ?_)) | (refine y_k (h := ?_)) | (refine lex_nil (by kernel_rfl) ?_) | (refine awp_sq ?_) | (refine awp_rg ?_) | (refine awp_rd (by kernel_rfl) (by kernel_rfl) ?_) | (refine awp_block ?_) | (refine awp_exit ?_) | (refine awp_ret ?_) | (refine awp_skip ?_))
  refine awp_if rfl (fun h1 => ?_) (fun h1 => ?_)
  · repeat (first | (refine w_q (h := ?_)) | (refine w_s (h := ?_)) | (refine w_t (h := ?_)) | (refine w_k (h := ?_)) | (refine y_q (h := ?_)) | (refine y_s (h := ?_)) | (refine y_t (h := ?_)) | (refine y_k (h := ?_)) | (refine lex_nil (by kernel_rfl) ?_) | (refine awp_sq ?_) | (refine awp_rg ?_) | (refine awp_rd (by kernel_rfl) (by kernel_rfl) ?_) | (refine awp_block ?_) | (refine awp_exit ?_) | (refine awp_ret ?_) | (refine awp_skip ?_))
    refine ret_ok tyOk (by first | exact .inr rfl | exact .inl rfl) pi0 rfl (by first | exact .cons (by first | exact .tmp | exact .cell rfl rfl rfl rfl rfl rfl | exact .cell1 rfl rfl rfl rfl rfl) .nil | exact .cons (by first | exact .tmp | exact .cell rfl rfl rfl rfl rfl rfl | exact .cell1 rfl rfl rfl rfl rfl) (.cons (by first | exact .tmp | exact .cell rfl rfl rfl rfl rfl rfl | exact .cell1 rfl rfl rfl rfl rfl) .nil) | exact .cons (by first | exact .tmp | exact .cell rfl rfl rfl rfl rfl rfl | exact .cell1 rfl rfl rfl rfl rfl) (.cons (by first | exact .tmp | exact .cell rfl rfl rfl rfl rfl rfl | exact .cell1 rfl rfl rfl rfl rfl) (.cons (by first | exact .tmp | exact .cell rfl rfl rfl rfl rfl rfl | exact .cell1 rfl rfl rfl rfl rfl) .nil)) | exact .cons (by first | exact .tmp | exact .cell rfl rfl rfl rfl rfl rfl | exact .cell1 rfl rfl rfl rfl rfl) (.cons (by first | exact .tmp | exact .cell rfl rfl rfl rfl rfl rfl | exact .cell1 rfl rfl rfl rfl rfl) (.cons (by first | exact .tmp | exact .cell rfl rfl rfl rfl rfl rfl | exact .cell1 rfl rfl rfl rfl rfl) (.cons (by first | exact .tmp | exact .cell rfl rfl rfl rfl rfl rfl | exact .cell1 rfl rfl rfl rfl rfl) .nil)))) ?_ trivial (injO_0 _)
    repeat' (first | exact RetRelL.nil | (refine RetRel.nil rfl ?_) | refine RetRelL.cons ?_ ?_ | refine rr_tup ?_ | refine rr_agg ?_ | refine rr_own rfl ?_ | exact RetRel.arg | exact RetRel.argc | refine rr_t ?_)
    unfold cmpI; rw [h1]; rfl
  · repeat (first | (refine w_q (h := ?_)) | (refine w_s (h := ?_)) | (refine w_t (h := ?_)) | (refine w_k (h := ?_)) | (refine y_q (h := ?_)) | (refine y_s (h := ?_)) | (refine y_t (h := ?_)) | (refine y_k (h := ?_)) | (refine lex_nil (by kernel_rfl) ?_) | (refine awp_sq ?_) | (refine awp_rg ?_) | (refine awp_rd (by kernel_rfl) (by kernel_rfl) ?_) | (refine awp_block ?_) | (refine awp_exit ?_) | (refine awp_ret ?_) | (refine awp_skip ?_))
    refine awp_if rfl (fun h2 => ?_) (fun h2 => ?_)
    · repeat (first | (refine w_q (h := ?_)) | (refine w_s (h := ?_)) | (refine w_t (h := ?_)) | (refine w_k (h := ?_)) | (refine y_q (h := ?_)) | (refine y_s (h := ?_)) | (refine y_t (h := ?_)) | (refine y_k (h := ?_)) | (refine lex_nil (by kernel_rfl) ?_) | (refine awp_sq ?_) | (refine awp_rg ?_) | (refine awp_rd (by kernel_rfl) (by kernel_rfl) ?_) | (refine awp_block ?_) | (refine awp_exit ?_) | (refine awp_ret ?_) | (refine awp_skip ?_))
      refine ret_ok tyOk (by first | exact .inr rfl | exact .inl rfl) pi0 rfl (by first | exact .cons (by first | exact .tmp | exact .cell rfl rfl rfl rfl rfl rfl | exact .cell1 rfl rfl rfl rfl rfl) .nil | exact .cons (by first | exact .tmp | exact .cell rfl rfl rfl rfl rfl rfl | exact .cell1 rfl rfl rfl rfl rfl) (.cons (by first | exact .tmp | exact .cell rfl rfl rfl rfl rfl rfl | exact .cell1 rfl rfl rfl rfl rfl) .nil) | exact .cons (by first | exact .tmp | exact .cell rfl rfl rfl rfl rfl rfl | exact .cell1 rfl rfl rfl rfl rfl) (.cons (by first | exact .tmp | exact .cell rfl rfl rfl rfl rfl rfl | exact .cell1 rfl rfl rfl rfl rfl) (.cons (by first | exact .tmp | exact .cell rfl rfl rfl rfl rfl rfl | exact .cell1 rfl rfl rfl rfl rfl) .nil)) | exact .cons (by first | exact .tmp | exact .cell rfl rfl rfl rfl rfl rfl | exact .cell1 rfl rfl rfl rfl rfl) (.cons (by first | exact .tmp | exact .cell rfl rfl rfl rfl rfl rfl | exact .cell1 rfl rfl rfl rfl rfl) (.cons (by first | exact .tmp | exact .cell rfl rfl rfl rfl rfl rfl | exact .cell1 rfl rfl rfl rfl rfl) (.cons (by first | exact .tmp | exact .cell rfl rfl rfl rfl rfl rfl | exact .cell1 rfl rfl rfl rfl rfl) .nil)))) ?_ trivial (injO_0 _)
      repeat' (first | exact RetRelL.nil | (refine RetRel.nil rfl ?_) | refine RetRelL.cons ?_ ?_ | refine rr_tup ?_ | refine rr_agg ?_ | refine rr_own rfl ?_ | exact RetRel.arg | exact RetRel.argc | refine rr_t ?_)
      unfold cmpI; rw [h1, h2]; rfl
    · repeat (first | (refine w_q (h := ?_)) | (refine w_s (h := ?_)) | (refine w_t (h := ?_)) | (refine w_k (h := ?_)) | (refine y_q (h := ?_)) | (refine y_s (h := ?_)) | (refine y_t (h := ?_)) | (refine y_k (h := ?_)) | (refine lex_nil (by kernel_rfl) ?_) | (refine awp_sq ?_) | (refine awp_rg ?_) | (refine awp_rd (by kernel_rfl) (by kernel_rfl) ?_) | (refine awp_block ?_) | (refine awp_exit ?_) | (refine awp_ret ?_) | (refine awp_skip ?_))
      refine ret_ok tyOk (by first | exact .inr rfl | exact .inl rfl) pi0 rfl (by first | exact .cons (by first | exact .tmp | exact .cell rfl rfl rfl rfl rfl rfl | exact .cell1 rfl rfl rfl rfl rfl) .nil | exact .cons (by first | exact .tmp | exact .cell rfl rfl rfl rfl rfl rfl | exact .cell1 rfl rfl rfl rfl rfl) (.cons (by first | exact .tmp | exact .cell rfl rfl rfl rfl rfl rfl | exact .cell1 rfl rfl rfl rfl rfl) .nil) | exact .cons (by first | exact .tmp | exact .cell rfl rfl rfl rfl rfl rfl | exact .cell1 rfl rfl rfl rfl rfl) (.cons (by first | exact .tmp | exact .cell rfl rfl rfl rfl rfl rfl | exact .cell1 rfl rfl rfl rfl rfl) (.cons (by first | exact .tmp | exact .cell rfl rfl rfl rfl rfl rfl | exact .cell1 rfl rfl rfl rfl rfl) .nil)) | exact .cons (by first | exact .tmp | exact .cell rfl rfl rfl rfl rfl rfl | exact .cell1 rfl rfl rfl rfl rfl) (.cons (by first | exact .tmp | exact .cell rfl rfl rfl rfl rfl rfl | exact .cell1 rfl rfl rfl rfl rfl) (.cons (by first | exact .tmp | exact .cell rfl rfl rfl rfl rfl rfl | exact .cell1 rfl rfl rfl rfl rfl) (.cons (by first | exact .tmp | exact .cell rfl rfl rfl rfl rfl rfl | exact .cell1 rfl rfl rfl rfl rfl) .nil)))) ?_ trivial (injO_0 _)
      repeat' (first | exact RetRelL.nil | (refine RetRel.nil rfl ?_) | refine RetRelL.cons ?_ ?_ | refine rr_tup ?_ | refine rr_agg ?_ | refine rr_own rfl ?_ | exact RetRel.arg | exact RetRel.argc | refine rr_t ?_)
      unfold cmpI; rw [h1, h2]; rfl
end Go.Proofs.Ytmnpdipiffmnhaa

