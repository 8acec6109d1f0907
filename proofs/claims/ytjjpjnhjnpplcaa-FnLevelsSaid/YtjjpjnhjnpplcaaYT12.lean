import Derived.Test.YtjjpjnhjnpplcaaYT9
set_option linter.unusedVariables false
set_option linter.unusedSimpArgs false
set_option maxRecDepth 20000
set_option maxHeartbeats 4000000
namespace Go.Proofs.Ytjjpjnhjnpplcaa
open Go.Aw
attribute [local irreducible] QRun LexD AWp TCall
theorem getD_mapR {n i : Nat} (f : Nat → Nat) (h : i < n) : ((List.range n).map f).getD i 0 = f i := by simp [List.getD_eq_getElem?_getD, h]
end Go.Proofs.Ytjjpjnhjnpplcaa
