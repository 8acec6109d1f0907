import Derived.Test.YtmnpdipiffmnhaaVT58
import Derived.Test.YtmnpdipiffmnhaaVAwG
import Derived.Test.YtmnpdipiffmnhaaVT104
import Derived.Test.YtmnpdipiffmnhaaVT81s
import Derived.Test.YtmnpdipiffmnhaaVT105
set_option linter.unusedVariables false
set_option linter.unusedSimpArgs false
set_option maxRecDepth 20000
set_option maxHeartbeats 8000000
namespace Go.Proofs.Ytmnpdipiffmnhaa
open Go.Aw

/-! ### quantiles of short lists, at three quarters -/
def flV (c : Nat) : Nat := canon .f64 (FloatKind.f64.encode ((FloatKind.f64.decode c).integral .down))
theorem extFloor : ExtOk Try.prog 224 (Extern.MathFloor.toIntegral "math.archFloor" .down) := ⟨fun args w => by
  have hf := Try.func224
  have h1 : (Try.f224.name == "runtime.NumGoroutine") = false := by kernel_rfl
  have h2 : Try.f224.body = none := by kernel_rfl
  have h3 : Extern.findNext Try.f224 = none := by kernel_rfl
  have h4 : Extern.find Try.f224 = some (Extern.MathFloor.toIntegral "math.archFloor" .down) := by kernel_rfl
  simp only [callFunc, Sem.run_bind, run_program, Result.andThen_ok, hf]
  simp only [h1, h2, Bool.false_eq_true, if_false]
  simp [h3, h4]⟩
theorem floor_lt (c : Nat) : FloatKind.f64.encode ((FloatKind.f64.decode c).integral .down) < 2 ^ FloatKind.f64.format.width := by
  exact Ieee.Format.write_lt _ _
theorem q_floor {P : Program} {o : Oper} {F : List Nat} {ρ : Fr} {η : Hp} {f : FuncId} {x : Operand} {tys : Array TypeId} {c : Nat} (he : ExtOk P f (Extern.MathFloor.toIntegral "math.archFloor" .down)) (ho : o.op = .call { callee := .value (.func f), args := #[x], argTypes := tys })
    (hx : evA ρ x = .t (.f .f64 c)) (hn : isNan .f64 c = false) : QRun P o F [] ρ η (.t (.f .f64 (flV c))) (lkH []) := by
  refine qrun_val fun vs w0 μ η' a w h1 h2 h3 => ?_
  have hx' := h3 x (by simp [ho, Op.operands, Call.operands])
  rw [hx, VR, TR] at hx'
  obtain ⟨b, hb, hf⟩ := hx'
  have e := hf.eq hn
  subst e
  have ef : a.eval (.func f) = .func (.func f) #[] #[] := rfl
  have hd : ∀ s t, FloatKind.f64.decode b ≠ .nan s t := fun s t h => by
    have : isNan .f64 b = true := (isNan_iff .f64 b).2 ⟨s, t, h⟩
    rw [this] at hn; cases hn
  have eg : Extern.MathFloor.toIntegral "math.archFloor" .down #[.float .f64 b] = pure (.float .f64 (FloatKind.f64.encode ((FloatKind.f64.decode b).integral .down))) := by
    show (match FloatKind.f64.decode b with
      | .nan s t => if FloatKind.f64.format.quiet t = t then pure (Value.float .f64 b) else do
        let kept ← choose (.extern "math.Floor,Ceil,Trunc,RoundToEven.signallingNaN kept" 2)
        pure (Value.float .f64 (if kept == 1 then b else FloatKind.f64.encode (.nan s (FloatKind.f64.format.quiet t))))
      | d => pure (Value.float .f64 (FloatKind.f64.encode (d.integral .down)))) = _
    cases hdd : FloatKind.f64.decode b with
    | nan s t => exact absurd hdd (hd s t)
    | infinity s => rfl
    | number s m i => rfl
  refine ⟨.float .f64 (FloatKind.f64.encode ((FloatKind.f64.decode b).integral .down)), w.drawn, ?_, ?_⟩
  · simp [execOp, ho, hb, resolve, Deferred.ofValue, ef, invoke, he.run, eg]
  · rw [VR, TR]
    exact ⟨_, rfl, FR_of (floor_lt b)⟩
attribute [local irreducible] QRun LexD AWp TCall TMut fop fint fcmp fconv flV
theorem mathFloor_c (c : Nat) (hn : isNan .f64 c = false) : TCall Try.prog 215 [.f .f64 c] (.t (.f .f64 (flV c))) [] := by
  refine tcall_of Try.func215 rfl (by kernel_rfl) (Nat.le_of_ble_eq_true rfl) rfl ?_
  simp only [argsL, argAV, argCs, argS]
  repeat (first | (refine w_q (h := ?_)) | (refine w_s (h := ?_)) | (refine w_t (h := ?_)) | (refine w_k (h := ?_)) | (refine lex_nil (by kernel_rfl) ?_) | (refine awp_sq ?_) | (refine awp_rg ?_) | (refine awp_rd (by kernel_rfl) (by kernel_rfl) ?_) | (refine awp_block ?_) | (refine awp_exit ?_) | (refine awp_ret ?_) | (refine awp_skip ?_))
  refine awp_cond (b := true) rfl (fun _ => ?_) (fun h => by cases h)
  repeat (first | (refine w_q (h := ?_)) | (refine w_s (h := ?_)) | (refine w_t (h := ?_)) | (refine w_k (h := ?_)) | (refine lex_nil (by kernel_rfl) ?_) | (refine awp_sq ?_) | (refine awp_rg ?_) | (refine awp_rd (by kernel_rfl) (by kernel_rfl) ?_) | (refine awp_block ?_) | (refine awp_exit ?_) | (refine awp_ret ?_) | (refine awp_skip ?_))
  (first | (refine w_r (q_floor extFloor rfl rfl hn) (h := ?_)) | (refine y_r (q_floor extFloor rfl rfl hn) (h := ?_)))
  repeat (first | (refine w_q (h := ?_)) | (refine w_s (h := ?_)) | (refine w_t (h := ?_)) | (refine w_k (h := ?_)) | (refine lex_nil (by kernel_rfl) ?_) | (refine awp_sq ?_) | (refine awp_rg ?_) | (refine awp_rd (by kernel_rfl) (by kernel_rfl) ?_) | (refine awp_block ?_) | (refine awp_exit ?_) | (refine awp_ret ?_) | (refine awp_skip ?_))
  (refine ret_ok tyOk (by first | exact .inr rfl | exact .inl rfl) pi0 rfl (by first | exact .cons (by first | exact .tmp | exact .cell rfl rfl rfl rfl rfl rfl | exact .cell1 rfl rfl rfl rfl rfl) .nil | exact .cons (by first | exact .tmp | exact .cell rfl rfl rfl rfl rfl rfl | exact .cell1 rfl rfl rfl rfl rfl) (.cons (by first | exact .tmp | exact .cell rfl rfl rfl rfl rfl rfl | exact .cell1 rfl rfl rfl rfl rfl) .nil) | exact .cons (by first | exact .tmp | exact .cell rfl rfl rfl rfl rfl rfl | exact .cell1 rfl rfl rfl rfl rfl) (.cons (by first | exact .tmp | exact .cell rfl rfl rfl rfl rfl rfl | exact .cell1 rfl rfl rfl rfl rfl) (.cons (by first | exact .tmp | exact .cell rfl rfl rfl rfl rfl rfl | exact .cell1 rfl rfl rfl rfl rfl) .nil)) | exact .cons (by first | exact .tmp | exact .cell rfl rfl rfl rfl rfl rfl | exact .cell1 rfl rfl rfl rfl rfl) (.cons (by first | exact .tmp | exact .cell rfl rfl rfl rfl rfl rfl | exact .cell1 rfl rfl rfl rfl rfl) (.cons (by first | exact .tmp | exact .cell rfl rfl rfl rfl rfl rfl | exact .cell1 rfl rfl rfl rfl rfl) (.cons (by first | exact .tmp | exact .cell rfl rfl rfl rfl rfl rfl | exact .cell1 rfl rfl rfl rfl rfl) .nil)))) ?_ trivial (injO_0 _); (repeat' (first | exact RetRelL.nil | (refine RetRel.nil rfl ?_) | refine RetRelL.cons ?_ ?_ | refine rr_tup ?_ | refine rr_agg ?_ | refine rr_own rfl ?_ | exact RetRel.arg | exact RetRel.argc | refine rr_t ?_)); all_goals rfl)
theorem floorOf_c (c : Nat) (n : Int) (h1 : isNan .f64 (fconv .f32 .f64 c) = false) (h2 : isNan .f64 (flV (fconv .f32 .f64 c)) = false) (h3 : (FloatKind.f64.decode (flV (fconv .f32 .f64 c))).toInt .zero = some n) (h4 : IntKind.i64.min ≤ n ∧ n ≤ IntKind.i64.max) :
    TCall Try.prog 194 [.f .f32 c] (.t (.v (.int .i64 n))) [] := by
  refine tcall_of Try.func194 rfl (by kernel_rfl) (Nat.le_of_ble_eq_true rfl) rfl ?_
  simp only [argsL, argAV, argCs, argS]
  repeat (first | (refine w_q (h := ?_)) | (refine w_s (h := ?_)) | (refine w_t (h := ?_)) | (refine w_k (h := ?_)) | (refine lex_nil (by kernel_rfl) ?_) | (refine awp_sq ?_) | (refine awp_rg ?_) | (refine awp_rd (by kernel_rfl) (by kernel_rfl) ?_) | (refine awp_block ?_) | (refine awp_exit ?_) | (refine awp_ret ?_) | (refine awp_skip ?_))
  (first | (refine c_q (mathFloor_c _ h1) (h := ?_)) | (refine z_q (mathFloor_c _ h1) (h := ?_)))
  repeat (first | (refine w_q (h := ?_)) | (refine w_s (h := ?_)) | (refine w_t (h := ?_)) | (refine w_k (h := ?_)) | (refine lex_nil (by kernel_rfl) ?_) | (refine awp_sq ?_) | (refine awp_rg ?_) | (refine awp_rd (by kernel_rfl) (by kernel_rfl) ?_) | (refine awp_block ?_) | (refine awp_exit ?_) | (refine awp_ret ?_) | (refine awp_skip ?_))
  (first | (refine w_r (q_fi tyOk rfl rfl rfl rfl rfl rfl h2 h3 h4) (h := ?_)) | (refine y_r (q_fi tyOk rfl rfl rfl rfl rfl rfl h2 h3 h4) (h := ?_)))
  repeat (first | (refine w_q (h := ?_)) | (refine w_s (h := ?_)) | (refine w_t (h := ?_)) | (refine w_k (h := ?_)) | (refine lex_nil (by kernel_rfl) ?_) | (refine awp_sq ?_) | (refine awp_rg ?_) | (refine awp_rd (by kernel_rfl) (by kernel_rfl) ?_) | (refine awp_block ?_) | (refine awp_exit ?_) | (refine awp_ret ?_) | (refine awp_skip ?_))
  (refine ret_ok tyOk (by first | exact .inr rfl | exact .inl rfl) pi0 rfl (by first | exact .cons (by first | exact .tmp | exact .cell rfl rfl rfl rfl rfl rfl | exact .cell1 rfl rfl rfl rfl rfl) .nil | exact .cons (by first | exact .tmp | exact .cell rfl rfl rfl rfl rfl rfl | exact .cell1 rfl rfl rfl rfl rfl) (.cons (by first | exact .tmp | exact .cell rfl rfl rfl rfl rfl rfl | exact .cell1 rfl rfl rfl rfl rfl) .nil) | exact .cons (by first | exact .tmp | exact .cell rfl rfl rfl rfl rfl rfl | exact .cell1 rfl rfl rfl rfl rfl) (.cons (by first | exact .tmp | exact .cell rfl rfl rfl rfl rfl rfl | exact .cell1 rfl rfl rfl rfl rfl) (.cons (by first | exact .tmp | exact .cell rfl rfl rfl rfl rfl rfl | exact .cell1 rfl rfl rfl rfl rfl) .nil)) | exact .cons (by first | exact .tmp | exact .cell rfl rfl rfl rfl rfl rfl | exact .cell1 rfl rfl rfl rfl rfl) (.cons (by first | exact .tmp | exact .cell rfl rfl rfl rfl rfl rfl | exact .cell1 rfl rfl rfl rfl rfl) (.cons (by first | exact .tmp | exact .cell rfl rfl rfl rfl rfl rfl | exact .cell1 rfl rfl rfl rfl rfl) (.cons (by first | exact .tmp | exact .cell rfl rfl rfl rfl rfl rfl | exact .cell1 rfl rfl rfl rfl rfl) .nil)))) ?_ trivial (injO_0 _); (repeat' (first | exact RetRelL.nil | (refine RetRel.nil rfl ?_) | refine RetRelL.cons ?_ ?_ | refine rr_tup ?_ | refine rr_agg ?_ | refine rr_own rfl ?_ | exact RetRel.arg | exact RetRel.argc | refine rr_t ?_)); all_goals rfl)

end Go.Proofs.Ytmnpdipiffmnhaa

set_option linter.unusedVariables false
set_option linter.unusedSimpArgs false
set_option maxRecDepth 20000
set_option maxHeartbeats 8000000
namespace Go.Proofs.Ytmnpdipiffmnhaa
open Go.Aw

/-! ### quantiles of short lists, at three quarters -/
attribute [local irreducible] QRun LexD AWp TCall TMut fop fint fcmp fconv flV
theorem r8Gap_c (a b : Nat) : TCall Try.prog 57 [.f .f32 a, .f .f32 b] (.t (.f .f64 (fmx .f64 (fop .sub .f64 (fconv .f32 .f64 a) (fconv .f32 .f64 b)) (fop .sub .f64 (fconv .f32 .f64 b) (fconv .f32 .f64 a))))) [] := by
  refine tcall_of Try.func57 rfl (by kernel_rfl) (Nat.le_of_ble_eq_true rfl) rfl ?_
  simp only [argsL, argAV, argCs, argS]
  repeat (first | (refine w_q (h := ?_)) | (refine w_s (h := ?_)) | (refine w_t (h := ?_)) | (refine w_k (h := ?_)) | (refine y_q (h := ?_)) | (refine y_s (h := ?_)) | (refine y_t (h := ?_)) | (refine y_k (h := ?_)) | (refine lex_nil (by kernel_rfl) ?_) | (refine awp_sq ?_) | (refine awp_rg ?_) | (refine awp_rd (by kernel_rfl) (by kernel_rfl) ?_) | (refine awp_block ?_) | (refine awp_exit ?_) | (refine awp_ret ?_) | (refine awp_skip ?_))
  (refine ret_ok tyOk (by first | exact .inr rfl | exact .inl rfl) pi0 rfl (by first | exact .cons (by first | exact .tmp | exact .cell rfl rfl rfl rfl rfl rfl | exact .cell1 rfl rfl rfl rfl rfl) .nil | exact .cons (by first | exact .tmp | exact .cell rfl rfl rfl rfl rfl rfl | exact .cell1 rfl rfl rfl rfl rfl) (.cons (by first | exact .tmp | exact .cell rfl rfl rfl rfl rfl rfl | exact .cell1 rfl rfl rfl rfl rfl) .nil) | exact .cons (by first | exact .tmp | exact .cell rfl rfl rfl rfl rfl rfl | exact .cell1 rfl rfl rfl rfl rfl) (.cons (by first | exact .tmp | exact .cell rfl rfl rfl rfl rfl rfl | exact .cell1 rfl rfl rfl rfl rfl) (.cons (by first | exact .tmp | exact .cell rfl rfl rfl rfl rfl rfl | exact .cell1 rfl rfl rfl rfl rfl) .nil)) | exact .cons (by first | exact .tmp | exact .cell rfl rfl rfl rfl rfl rfl | exact .cell1 rfl rfl rfl rfl rfl) (.cons (by first | exact .tmp | exact .cell rfl rfl rfl rfl rfl rfl | exact .cell1 rfl rfl rfl rfl rfl) (.cons (by first | exact .tmp | exact .cell rfl rfl rfl rfl rfl rfl | exact .cell1 rfl rfl rfl rfl rfl) (.cons (by first | exact .tmp | exact .cell rfl rfl rfl rfl rfl rfl | exact .cell1 rfl rfl rfl rfl rfl) .nil)))) ?_ trivial (injO_0 _); (repeat' (first | exact RetRelL.nil | (refine RetRel.nil rfl ?_) | refine RetRelL.cons ?_ ?_ | refine rr_tup ?_ | refine rr_agg ?_ | refine rr_own rfl ?_ | exact RetRel.arg | exact RetRel.argc | refine rr_t ?_)); all_goals rfl)
end Go.Proofs.Ytmnpdipiffmnhaa

set_option linter.unusedVariables false
set_option linter.unusedSimpArgs false
set_option maxRecDepth 100000
set_option maxHeartbeats 8000000
namespace Go.Proofs.Ytmnpdipiffmnhaa
open Go.Aw

/-! ### what the b10 laws read out of bytes -/
theorem iE3 {k : IntKind} {a b : Int} (h : a = b) : AV.t (.v (.int k a)) = AV.t (.v (.int k b)) := by rw [h]
/-- a quarter of a whole number, as a word -/
def q4 (x : Int) : Nat := fop .quo .f32 (fint .f32 x) 1082130432
def e8 (x : Int) : Nat := fop .quo .f32 (fint .f32 x) 1090519040
theorem q4_tab : (List.range 65).all (fun n => decide (q4 ((n : Int) - 32) < 2 * FloatKind.f32.format.signWeight) && decide (q4 ((n : Int) - 32) % FloatKind.f32.format.signWeight < FloatKind.f32.format.infRung) && decide (rv .f32 (q4 ((n : Int) - 32)) * 4 = (((n : Int) - 32 : Int) : Rat))) = true := by decide +kernel
theorem q4_rv {x : Int} (h : -32 ≤ x ∧ x ≤ 32) : Fnt .f32 (q4 x) ∧ rv .f32 (q4 x) * 4 = (x : Rat) := by
  obtain ⟨n, hn⟩ : ∃ n : Nat, x = (n : Int) - 32 := ⟨(x + 32).toNat, by omega⟩
  have := List.all_eq_true.1 q4_tab n (List.mem_range.2 (by omega))
  subst hn
  simp only [Bool.and_eq_true, decide_eq_true_eq] at this
  exact ⟨⟨this.1.1, this.1.2⟩, this.2⟩
attribute [local irreducible] QRun LexD AWp TCall TMut fop fint fcmp fconv hw fmx dvD
end Go.Proofs.Ytmnpdipiffmnhaa

