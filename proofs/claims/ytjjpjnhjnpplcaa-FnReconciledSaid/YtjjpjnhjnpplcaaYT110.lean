import Derived.Test.YtjjpjnhjnpplcaaYT109
import Derived.Test.YtjjpjnhjnpplcaaYT28
import Derived.Test.YtjjpjnhjnpplcaaZAwD
import Derived.Test.YtjjpjnhjnpplcaaYT6
import Derived.Test.YtjjpjnhjnpplcaaYT2
import Derived.Test.YtjjpjnhjnpplcaaZAwC
import Derived.Test.YtjjpjnhjnpplcaaYT14
import Derived.Test.YtjjpjnhjnpplcaaZAwK
set_option linter.unusedVariables false
set_option linter.unusedSimpArgs false
set_option maxRecDepth 20000
set_option maxHeartbeats 8000000
namespace Go.Proofs.Ytjjpjnhjnpplcaa
open Go.Aw

/-! ### one step of a level -/
theorem fnt32_0 : Fnt .f32 0 ∧ rv .f32 0 = 0 := by unfold Fnt; decide +kernel
theorem F32_Fnt {c : Nat} (h : Fnt .f32 c) : F32 c := ⟨canon_not h.notnan, by have := h.1; rw [sw32] at this; omega⟩
/-! ### a run of levels -/
/-! ### and back -/
end Go.Proofs.Ytjjpjnhjnpplcaa
