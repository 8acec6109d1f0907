import Derived.Test.YtffkjkiaageghaaZT2
set_option linter.unusedVariables false
set_option linter.unusedSimpArgs false
set_option maxRecDepth 20000
namespace Go.Proofs.Ytffkjkiaageghaa
open Go.Aw
attribute [local irreducible] QRun LexD AWp TCall

def sgn (c : Nat) : Bool := icmp .lss (IntKind.i64.wrap c) 0
def nn (c : Nat) : Bool := fcmp .neq .f32 c c
def sameN (c d : Nat) : Bool := if nn c || nn d then nn c && nn d else fcmp .eql .f32 c d && (sgn (fconv .f32 .f64 c) == sgn (fconv .f32 .f64 d))
end Go.Proofs.Ytffkjkiaageghaa
