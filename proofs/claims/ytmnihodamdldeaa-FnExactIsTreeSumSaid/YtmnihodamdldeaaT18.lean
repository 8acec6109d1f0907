import Derived.Test.YtmnihodamdldeaaT16
set_option linter.unusedVariables false
set_option linter.unusedSimpArgs false
set_option maxRecDepth 20000
set_option maxHeartbeats 8000000
namespace Go.Proofs.Ytmnihodamdldeaa
open Go.Aw
attribute [local irreducible] QRun LexD AWp TCall TMut

def isShr (c : Nat) : Bool := fcmp .geq .f32 c 0 && fcmp .leq .f32 c 1065353216
def qf (s m : Nat) (_ _ : Nat) : Nat := if fcmp .geq .f32 m 0 then fop .mul .f32 s m else fop .mul .f32 (fop .sub .f32 s 1065353216) m
def qmiss (s : Nat) (a b : List Nat) : Nat × Bool := if isShr s then missBy (qf s) a b else (0, false)
end Go.Proofs.Ytmnihodamdldeaa
