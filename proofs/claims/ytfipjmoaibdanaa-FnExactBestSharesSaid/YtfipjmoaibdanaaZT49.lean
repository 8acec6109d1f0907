import Derived.Test.YtfipjmoaibdanaaZT48
set_option linter.unusedVariables false
set_option linter.unusedSimpArgs false
set_option maxRecDepth 20000
set_option maxHeartbeats 8000000
namespace Go.Proofs.Ytfipjmoaibdanaa
open Go.Aw
attribute [local irreducible] QRun LexD AWp TCall TMut fop fint fcmp fconv

theorem dropz {l : List Nat} (n : Nat) : (l.take n).drop 0 = l.take n := List.drop_zero
end Go.Proofs.Ytfipjmoaibdanaa
