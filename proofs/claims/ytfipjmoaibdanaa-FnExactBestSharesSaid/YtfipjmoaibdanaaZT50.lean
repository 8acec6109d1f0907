import Derived.Test.YtfipjmoaibdanaaZT49
set_option linter.unusedVariables false
set_option linter.unusedSimpArgs false
set_option maxRecDepth 20000
set_option maxHeartbeats 8000000
namespace Go.Proofs.Ytfipjmoaibdanaa
open Go.Aw
attribute [local irreducible] QRun LexD AWp TCall TMut fop fint fcmp fconv

theorem bkA_t {l : List Nat} {p f ah : Int} {k : Nat} (h : k = 0 ∨ fcmp .lss .f32 (rolledF l (k : Nat) p f ah).1 (bkA l p f ah k).2 = true) : bkA l p f ah (k + 1) = ((k : Int), (rolledF l (k : Nat) p f ah).1) := by rw [bkA, if_pos h]
theorem bkA_f {l : List Nat} {p f ah : Int} {k : Nat} (h : ¬ (k = 0 ∨ fcmp .lss .f32 (rolledF l (k : Nat) p f ah).1 (bkA l p f ah k).2 = true)) : bkA l p f ah (k + 1) = bkA l p f ah k := by rw [bkA, if_neg h]
theorem vEq {k : IntKind} {a b : Int} (h : a = b) : AV.t (.v (.int k a)) = AV.t (.v (.int k b)) := by rw [h]
theorem fEq7 {k : FloatKind} {a b : Nat} (h : a = b) : AV.t (.f k a) = AV.t (.f k b) := by rw [h]
end Go.Proofs.Ytfipjmoaibdanaa
