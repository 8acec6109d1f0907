import Derived.Test.YtmnpdipiffmnhaaYT109
import Derived.Test.YtmnpdipiffmnhaaYT28
import Derived.Test.YtmnpdipiffmnhaaZAwD
import Derived.Test.YtmnpdipiffmnhaaYT6
import Derived.Test.YtmnpdipiffmnhaaYT2
import Derived.Test.YtmnpdipiffmnhaaZAwC
import Derived.Test.YtmnpdipiffmnhaaYT14
import Derived.Test.YtmnpdipiffmnhaaZAwK
set_option linter.unusedVariables false
set_option linter.unusedSimpArgs false
set_option maxRecDepth 20000
set_option maxHeartbeats 8000000
namespace Go.Proofs.Ytmnpdipiffmnhaa
open Go.Aw

/-! ### one step of a level -/
theorem F32_Fnt {c : Nat} (h : Fnt .f32 c) : F32 c := ⟨canon_not h.notnan, by have := h.1; rw [sw32] at this; omega⟩
theorem half32c : Fnt .f32 1056964608 ∧ rv .f32 1056964608 = 1 / 2 := by unfold Fnt; decide +kernel
/-! ### a run of levels -/
/-! ### and back -/
end Go.Proofs.Ytmnpdipiffmnhaa
