/- Complex numbers whose parts are no NaN. No condition. -/
import Derived.Test.YtmnpdipiffmnhaaZAwG
import Derived.Test.YtmnpdipiffmnhaaZAwJ
import Derived.Test.YtmnpdipiffmnhaaZAwK
set_option linter.unusedVariables false
namespace Go.Aw
abbrev Cx (a b : Nat) : T := .v (.complex .f32 a b)
theorem okConst_Fn {c : Nat} (h : Fnt .f32 c) : okConst .f32 c = true := by
  unfold okConst
  rw [h.notnan]
  have := h.1
  have e : 2 * FloatKind.f32.format.signWeight = 2 ^ FloatKind.f32.format.width := by decide
  rw [e] at this
  simpa using this
section
variable {P : Program} {o : Oper} {F : List Nat} {ρ : Fr} {η : Hp}
theorem q_cplx {x y : Operand} {tys : Array TypeId} {a b : Nat} (ho : o.op = .call { callee := .builtin .complex, args := #[x, y], argTypes := tys })
    (hx : evA ρ x = .t (.f .f32 a)) (hy : evA ρ y = .t (.f .f32 b)) (ha : isNan .f32 a = false) (hb : isNan .f32 b = false) : QRun P o F [] ρ η (.t (Cx a b)) (lkH []) := by
  refine qrun_v fun vs w0 μ η' c w h1 h2 h3 => ?_
  have hx' := h3 x (by simp [ho, Op.operands, Call.operands])
  have hy' := h3 y (by simp [ho, Op.operands, Call.operands])
  rw [hx, VR, TR] at hx'; rw [hy, VR, TR] at hy'
  obtain ⟨p, hp, hp'⟩ := hx'
  obtain ⟨q, hq, hq'⟩ := hy'
  have e1 := hp'.eq ha
  have e2 := hq'.eq hb
  subst e1; subst e2
  have hc : ∀ tys ty, Builtin.complex_ tys ty #[.float .f32 p, .float .f32 q] = pure (.complex .f32 p q) := fun _ _ => rfl
  simp [execOp, ho, resolve, invoke, builtin, hc, hp, hq]
theorem q_real {x : Operand} {tys : Array TypeId} {a b : Nat} (ho : o.op = .call { callee := .builtin .real, args := #[x], argTypes := tys })
    (hx : evA ρ x = .t (Cx a b)) (ha : okConst .f32 a = true) : QRun P o F [] ρ η (.t (.f .f32 a)) (lkH []) := by
  refine qrun_val fun vs w0 μ η' c w h1 h2 h3 => ?_
  have hx' := h3 x (by simp [ho, Op.operands, Call.operands])
  rw [hx, VR, TR] at hx'
  simp only [okConst, Bool.and_eq_true, Bool.not_eq_true'] at ha
  refine ⟨.float .f32 a, w.drawn, ?_, by rw [VR, TR]; exact ⟨a, rfl, by simp [canon, ha.1], by simpa using ha.2⟩⟩
  have hc : ∀ tys ty, Builtin.real_ tys ty #[.complex .f32 a b] = pure (.float .f32 a) := fun _ _ => rfl
  simp [execOp, ho, resolve, invoke, builtin, hc, hx']
theorem q_imag {x : Operand} {tys : Array TypeId} {a b : Nat} (ho : o.op = .call { callee := .builtin .imag, args := #[x], argTypes := tys })
    (hx : evA ρ x = .t (Cx a b)) (hb : okConst .f32 b = true) : QRun P o F [] ρ η (.t (.f .f32 b)) (lkH []) := by
  refine qrun_val fun vs w0 μ η' c w h1 h2 h3 => ?_
  have hx' := h3 x (by simp [ho, Op.operands, Call.operands])
  rw [hx, VR, TR] at hx'
  simp only [okConst, Bool.and_eq_true, Bool.not_eq_true'] at hb
  refine ⟨.float .f32 b, w.drawn, ?_, by rw [VR, TR]; exact ⟨b, rfl, by simp [canon, hb.1], by simpa using hb.2⟩⟩
  have hc : ∀ tys ty, Builtin.imag_ tys ty #[.complex .f32 a b] = pure (.float .f32 b) := fun _ _ => rfl
  simp [execOp, ho, resolve, invoke, builtin, hc, hx']
theorem q_frombits64 {f : FuncId} {x : Operand} {tys : Array TypeId} {n : Int} (he : ExtOk P f Extern.MathFloatBits.float64frombits) (ho : o.op = .call { callee := .value (.func f), args := #[x], argTypes := tys })
    (hx : evA ρ x = .t (.v (.int .u64 n))) (hc : okConst .f64 n.toNat = true) : QRun P o F [] ρ η (.t (.f .f64 n.toNat)) (lkH []) := by
  refine qrun_val fun vs w0 μ η' a w h1 h2 h3 => ?_
  have hx' := h3 x (by simp [ho, Op.operands, Call.operands])
  rw [hx, VR, TR] at hx'
  have e : Extern.MathFloatBits.float64frombits #[.int .u64 n] = pure (.float .f64 n.toNat) := rfl
  have ef : a.eval (.func f) = .func (.func f) #[] #[] := rfl
  simp only [okConst, Bool.and_eq_true, Bool.not_eq_true'] at hc
  refine ⟨.float .f64 n.toNat, w.drawn, ?_, by rw [VR, TR]; exact ⟨n.toNat, rfl, by simp [canon, hc.1], by simpa using hc.2⟩⟩
  simp [execOp, ho, hx', resolve, Deferred.ofValue, ef, invoke, he.run, e]
end
end Go.Aw

