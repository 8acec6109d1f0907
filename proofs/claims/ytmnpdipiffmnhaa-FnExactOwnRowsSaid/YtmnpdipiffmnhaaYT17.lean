import Derived.Test.YtmnpdipiffmnhaaYT15
import Derived.Test.YtmnpdipiffmnhaaZAwC
set_option linter.unusedVariables false
set_option linter.unusedSimpArgs false
set_option maxRecDepth 20000
set_option maxHeartbeats 8000000
namespace Go.Proofs.Ytmnpdipiffmnhaa
open Go.Aw

/-! ### what terms tell -/
/-- a list if all of it is finite -/
def ifAllF (l : List Nat) : List Nat × Bool := if l.all fin then (l, true) else ([], false)
/-! ### what meets in the middle -/
end Go.Proofs.Ytmnpdipiffmnhaa
