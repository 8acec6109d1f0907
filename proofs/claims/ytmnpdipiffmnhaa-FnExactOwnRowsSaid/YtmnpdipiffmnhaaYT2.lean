import Derived.Test.YtmnpdipiffmnhaaYT1b
set_option linter.unusedVariables false
set_option linter.unusedSimpArgs false
set_option maxRecDepth 20000
namespace Go.Proofs.Ytmnpdipiffmnhaa
open Go.Aw
attribute [local irreducible] QRun LexD AWp TCall

theorem order_self {k : FloatKind} {c : Nat} : k.format.order c c = if isNan k c then none else some .eq := by
  cases hc : isNan k c with
  | true => rw [order_nan_left hc]; rfl
  | false =>
    have hn : ∀ s t, k.format.read c ≠ .nan s t := fun s t h => by
      have := (isNan_iff k c).2 ⟨s, t, h⟩; rw [hc] at this; cases this
    unfold Ieee.Format.order
    cases hd : k.format.read c with
    | nan s t => exact absurd hd (hn s t)
    | infinity s => cases s <;> simp [Ieee.Datum.order]
    | number s m e => simp [Ieee.Datum.order]
theorem neq_self {k : FloatKind} {c : Nat} : fcmp .neq k c c = isNan k c := by
  simp only [fcmp, order_self]; cases isNan k c <;> simp

def bits (c : Nat) : Int := if fcmp .neq .f32 c c then 2143289344 else IntKind.i64.wrap c
end Go.Proofs.Ytmnpdipiffmnhaa
