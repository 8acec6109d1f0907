import Derived.Test.YtmnpdipiffmnhaaYT118
import Derived.Test.YtmnpdipiffmnhaaYT111
import Derived.Test.YtmnpdipiffmnhaaYT2
import Derived.Test.YtmnpdipiffmnhaaZAwC
import Derived.Test.YtmnpdipiffmnhaaYT14
import Derived.Test.YtmnpdipiffmnhaaYT21
import Derived.Test.YtmnpdipiffmnhaaYT28
set_option linter.unusedVariables false
set_option linter.unusedSimpArgs false
set_option maxRecDepth 20000
set_option maxHeartbeats 8000000
namespace Go.Proofs.Ytmnpdipiffmnhaa
open Go.Aw

/-! ### a run stays finite -/
theorem k1_rv : Fnt .f32 1065353216 ∧ rv .f32 1065353216 = 1 := by unfold Fnt; decide +kernel
theorem addB {a b : Nat} {M N L : Rat} (ha : Bd a M) (hb : Bd b N) (hM : okM (M + N)) (hL : (M + N) * (1001 / 1000) ≤ L) : Bd (fop .add .f32 a b) L := by
  have h1 := ha.2; have h2 := hb.2; have hM1 := hM.1
  obtain ⟨e, p1, p3, p4, p5⟩ := add32 (M := M + N) ha.1 hb.1 (by grind) (by grind) hM
  exact ⟨p5, by rw [p1]; grind, by rw [p1]; grind⟩
theorem subB {a b : Nat} {M N L : Rat} (ha : Bd a M) (hb : Bd b N) (hM : okM (M + N)) (hL : (M + N) * (1001 / 1000) ≤ L) : Bd (fop .sub .f32 a b) L := by
  have h1 := ha.2; have h2 := hb.2; have hM1 := hM.1
  obtain ⟨e, p1, p3, p4, p5⟩ := sub32 (M := M + N) ha.1 hb.1 (by grind) (by grind) hM
  exact ⟨p5, by rw [p1]; grind, by rw [p1]; grind⟩
end Go.Proofs.Ytmnpdipiffmnhaa
