import Derived.Test.YtjjpjnhjnpplcaaYT106
import Derived.Test.YtjjpjnhjnpplcaaYT105
import Derived.Test.YtjjpjnhjnpplcaaYT98
set_option linter.unusedVariables false
set_option linter.unusedSimpArgs false
set_option maxRecDepth 100000
set_option maxHeartbeats 8000000
namespace Go.Proofs.Ytjjpjnhjnpplcaa
open Go.Aw

/-! ### what the b10 laws read out of bytes -/
/-- a quarter of a whole number, as a word -/
def q4 (x : Int) : Nat := fop .quo .f32 (fint .f32 x) 1082130432
attribute [local irreducible] QRun LexD AWp TCall TMut fop fint fcmp fconv hw fmx dvD
end Go.Proofs.Ytjjpjnhjnpplcaa
