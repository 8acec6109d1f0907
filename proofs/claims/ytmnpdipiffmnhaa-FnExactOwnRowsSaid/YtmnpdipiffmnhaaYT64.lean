import Derived.Test.YtmnpdipiffmnhaaYT58
import Derived.Test.YtmnpdipiffmnhaaYT28
import Derived.Test.YtmnpdipiffmnhaaYT15
import Derived.Test.YtmnpdipiffmnhaaYT21
set_option linter.unusedVariables false
set_option linter.unusedSimpArgs false
set_option maxRecDepth 20000
set_option maxHeartbeats 8000000
namespace Go.Proofs.Ytmnpdipiffmnhaa
open Go.Aw
attribute [local irreducible] QRun LexD AWp TCall TMut fop fint fcmp fconv

/-! ### likes -/
theorem ifAllF_le (l : List Nat) : (ifAllF l).1.length ≤ l.length := by unfold ifAllF; split <;> simp
end Go.Proofs.Ytmnpdipiffmnhaa
