import Derived.Test.YtmnpdipiffmnhaaYT17
import Derived.Test.YtmnpdipiffmnhaaYT28
import Derived.Test.YtmnpdipiffmnhaaYT15
import Derived.Test.YtmnpdipiffmnhaaYT22
import Derived.Test.YtmnpdipiffmnhaaYT21
import Derived.Test.YtmnpdipiffmnhaaYT14
import Derived.Test.YtmnpdipiffmnhaaZAwC
import Derived.Test.YtmnpdipiffmnhaaYT2
import Derived.Test.YtmnpdipiffmnhaaYT58
set_option linter.unusedVariables false
set_option linter.unusedSimpArgs false
set_option maxRecDepth 20000
set_option maxHeartbeats 8000000
namespace Go.Proofs.Ytmnpdipiffmnhaa
open Go.Aw
attribute [local irreducible] QRun LexD AWp TCall TMut fop fint fcmp fconv

/-! ### bytes, and what a law reads out of them -/
abbrev bT (x : Nat) : T := .v (.int .u8 (x : Int))
abbrev BY (l : List Nat) : T := .tl (l.map bT)
theorem by_len (l : List Nat) : (l.map bT).length = l.length := by simp
theorem by_get {l : List Nat} {i : Nat} (h : i < l.length) : T.get i (BY l) = bT (l.getD i 0) := by
  simp [T.get, List.getD_eq_getElem?_getD, h]
end Go.Proofs.Ytmnpdipiffmnhaa
