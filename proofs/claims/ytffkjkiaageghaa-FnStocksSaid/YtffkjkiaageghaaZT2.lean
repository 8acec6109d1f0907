import Derived.Test.YtffkjkiaageghaaZT1b
set_option linter.unusedVariables false
set_option linter.unusedSimpArgs false
set_option maxRecDepth 20000
namespace Go.Proofs.Ytffkjkiaageghaa
open Go.Aw
attribute [local irreducible] QRun LexD AWp TCall

theorem ext64 : ExtOk Try.prog 104 Extern.MathFloatBits.float64bits := ⟨fun args w => by
  have hf := Try.func104
  have h1 : (Try.f104.name == "runtime.NumGoroutine") = false := by kernel_rfl
  have h2 : Try.f104.body = none := by kernel_rfl
  have h3 : Extern.findNext Try.f104 = none := by kernel_rfl
  have h4 : Extern.find Try.f104 = some Extern.MathFloatBits.float64bits := by kernel_rfl
  simp only [callFunc, Sem.run_bind, run_program, Result.andThen_ok, hf]
  simp only [h1, h2, Bool.false_eq_true, if_false]
  simp [h3, h4]⟩

theorem order_self {k : FloatKind} {c : Nat} : k.format.order c c = if isNan k c then none else some .eq := by
  cases hc : isNan k c with
  | true => rw [order_nan_left hc]; rfl
  | false =>
    have hn : ∀ s t, k.format.read c ≠ .nan s t := fun s t h => by
      have := (isNan_iff k c).2 ⟨s, t, h⟩; rw [hc] at this; cases this
    unfold Ieee.Format.order
    cases hd : k.format.read c with
    | nan s t => exact absurd hd (hn s t)
    | infinity s => cases s <;> simp [Ieee.Datum.order]
    | number s m e => simp [Ieee.Datum.order]
theorem neq_self {k : FloatKind} {c : Nat} : fcmp .neq k c c = isNan k c := by
  simp only [fcmp, order_self]; cases isNan k c <;> simp

def bits (c : Nat) : Int := if fcmp .neq .f32 c c then 2143289344 else IntKind.i64.wrap c
end Go.Proofs.Ytffkjkiaageghaa
