import Derived.Test.YtjjpjnhjnpplcaaYT3
import Derived.Test.YtjjpjnhjnpplcaaZAwD
set_option linter.unusedVariables false
set_option linter.unusedSimpArgs false
set_option maxRecDepth 20000
set_option maxHeartbeats 4000000
namespace Go.Proofs.Ytjjpjnhjnpplcaa
open Go.Aw
attribute [local irreducible] QRun LexD AWp TCall

theorem getD_set {m : List Nat} {i j v : Nat} (hi : i < m.length) : (m.set i v).getD j 0 = if j = i then v else m.getD j 0 := by
  by_cases h : j = i
  · subst h; simp [List.getD_eq_getElem?_getD, hi]
  · simp [List.getD_eq_getElem?_getD, h, List.getElem?_set, Ne.symm h]
end Go.Proofs.Ytjjpjnhjnpplcaa
