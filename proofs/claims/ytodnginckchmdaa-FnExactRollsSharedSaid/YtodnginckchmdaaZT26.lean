import Derived.Test.YtodnginckchmdaaZT18
import Derived.Test.YtodnginckchmdaaZAwC
set_option linter.unusedVariables false
set_option linter.unusedSimpArgs false
set_option maxRecDepth 20000
set_option maxHeartbeats 8000000
namespace Go.Proofs.Ytodnginckchmdaa
open Go.Aw
attribute [local irreducible] QRun LexD AWp TCall TMut

def orderF (n f h : Nat) : Nat × Bool := if least n && least f && above h then numF (rootF (fop .quo .f32 (fop .mul .f32 (fop .mul .f32 1073741824 n) f) h)) else (0, false)
end Go.Proofs.Ytodnginckchmdaa
