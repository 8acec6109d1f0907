import Derived.Test.YtfipjmoaibdanaaZT45
set_option linter.unusedVariables false
set_option linter.unusedSimpArgs false
set_option maxRecDepth 20000
set_option maxHeartbeats 8000000
namespace Go.Proofs.Ytfipjmoaibdanaa
open Go.Aw
attribute [local irreducible] QRun LexD AWp TCall TMut fop fint fcmp fconv

theorem fEq6 {k : FloatKind} {a b : Nat} (h : a = b) : AV.t (.f k a) = AV.t (.f k b) := by rw [h]
def fcBase (l : List Nat) (kd : Nat) : Nat := if kd = 2 then meanF l else if kd = 4 then lev l 1050253722 (l.length - 1) else lastF l
def fcSlope (l : List Nat) (kd : Nat) : Nat := if kd = 3 then slopeF l else 0
end Go.Proofs.Ytfipjmoaibdanaa
