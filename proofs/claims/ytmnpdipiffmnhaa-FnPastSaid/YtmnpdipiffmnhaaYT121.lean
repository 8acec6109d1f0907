import Derived.Test.YtmnpdipiffmnhaaYT120
import Derived.Test.YtmnpdipiffmnhaaYT1c
import Derived.Test.YtmnpdipiffmnhaaYT105
import Derived.Test.YtmnpdipiffmnhaaYT28
import Derived.Test.YtmnpdipiffmnhaaYT15
import Derived.Test.YtmnpdipiffmnhaaYT14
import Derived.Test.YtmnpdipiffmnhaaZAwC
import Derived.Test.YtmnpdipiffmnhaaYT22
import Derived.Test.YtmnpdipiffmnhaaYT106
import Derived.Test.YtmnpdipiffmnhaaZAwK
import Derived.Test.YtmnpdipiffmnhaaYT17
import Derived.Test.YtmnpdipiffmnhaaYT111
set_option linter.unusedVariables false
set_option linter.unusedSimpArgs false
set_option maxRecDepth 20000
set_option maxHeartbeats 8000000
namespace Go.Proofs.Ytmnpdipiffmnhaa
open Go.Aw

/-! ### the mean of squares in both precisions -/
theorem sq_nn (x : Rat) : 0 ≤ x * x := by
  rcases Rat.le_total (a := 0) (b := x) with h | h
  · exact Rat.mul_nonneg h h
  · have := Rat.mul_nonneg (show 0 ≤ -x by grind) (show 0 ≤ -x by grind)
    grind
theorem f0_32 : Fnt .f32 0 ∧ rv .f32 0 = 0 := by unfold Fnt; decide +kernel
end Go.Proofs.Ytmnpdipiffmnhaa
