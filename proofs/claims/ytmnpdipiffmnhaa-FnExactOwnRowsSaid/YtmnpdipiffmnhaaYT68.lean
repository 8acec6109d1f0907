import Derived.Test.YtmnpdipiffmnhaaYT64
import Derived.Test.YtmnpdipiffmnhaaYT14
set_option linter.unusedVariables false
set_option linter.unusedSimpArgs false
set_option maxRecDepth 20000
set_option maxHeartbeats 8000000
namespace Go.Proofs.Ytmnpdipiffmnhaa
open Go.Aw
attribute [local irreducible] QRun LexD AWp TCall TMut fop fint fcmp fconv

/-! ### terms told by likes -/
structure OP where
  p : List Nat
  s : Nat
  ok : Bool
abbrev opR (o : OP) : RV := .tup [.own 0 o.p.length, .t (.f .f32 o.s), .t (.v (.bool o.ok))]
abbrev opH (o : OP) : List (Nat × Blk) := [(0, .sl 30 (.fl o.p))]

end Go.Proofs.Ytmnpdipiffmnhaa
