import Derived.Test.YtmnpdipiffmnhaaYT110
set_option linter.unusedVariables false
set_option linter.unusedSimpArgs false
set_option maxRecDepth 20000
set_option maxHeartbeats 8000000
namespace Go.Proofs.Ytmnpdipiffmnhaa
open Go.Aw

/-! ### what the law asks of a run of levels -/
abbrev W (c : Nat) : Nat := fconv .f32 .f64 c
end Go.Proofs.Ytmnpdipiffmnhaa
