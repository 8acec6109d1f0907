import Derived.Test.YtodnginckchmdaaZT13
import Derived.Test.YtodnginckchmdaaZT14
set_option linter.unusedVariables false
set_option linter.unusedSimpArgs false
set_option maxRecDepth 20000
set_option maxHeartbeats 4000000
namespace Go.Proofs.Ytodnginckchmdaa
open Go.Aw
attribute [local irreducible] QRun LexD AWp TCall TMut

end Go.Proofs.Ytodnginckchmdaa
