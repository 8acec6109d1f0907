import Derived.Test.YtjjpjnhjnpplcaaYT17
import Derived.Test.YtjjpjnhjnpplcaaYT26
import Derived.Test.YtjjpjnhjnpplcaaYT12
import Derived.Test.YtjjpjnhjnpplcaaYT14
import Derived.Test.YtjjpjnhjnpplcaaZAwC
import Derived.Test.YtjjpjnhjnpplcaaYT4
set_option linter.unusedVariables false
set_option linter.unusedSimpArgs false
set_option maxRecDepth 20000
set_option maxHeartbeats 8000000
namespace Go.Proofs.Ytjjpjnhjnpplcaa
open Go.Aw
attribute [local irreducible] QRun LexD AWp TCall TMut fop fint fcmp fconv

/-! ### bytes, and what a law reads out of them -/
abbrev bT (x : Nat) : T := .v (.int .u8 (x : Int))
abbrev BY (l : List Nat) : T := .tl (l.map bT)
theorem by_len (l : List Nat) : (l.map bT).length = l.length := by simp
theorem by_get {l : List Nat} {i : Nat} (h : i < l.length) : T.get i (BY l) = bT (l.getD i 0) := by
  simp [T.get, List.getD_eq_getElem?_getD, h]
end Go.Proofs.Ytjjpjnhjnpplcaa
