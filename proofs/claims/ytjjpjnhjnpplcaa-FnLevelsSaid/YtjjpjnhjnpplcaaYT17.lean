import Derived.Test.YtjjpjnhjnpplcaaYT12
import Derived.Test.YtjjpjnhjnpplcaaYT14
import Derived.Test.YtjjpjnhjnpplcaaZAwC
set_option linter.unusedVariables false
set_option linter.unusedSimpArgs false
set_option maxRecDepth 20000
set_option maxHeartbeats 8000000
namespace Go.Proofs.Ytjjpjnhjnpplcaa
open Go.Aw

theorem fin_R (c : Nat) : fin c = finR .f32 c := finB_eq .f32 c
/-! ### what terms tell -/
/-! ### what meets in the middle -/
end Go.Proofs.Ytjjpjnhjnpplcaa
