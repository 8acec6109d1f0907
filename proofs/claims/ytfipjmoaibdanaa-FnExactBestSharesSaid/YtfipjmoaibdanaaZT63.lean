import Derived.Test.YtfipjmoaibdanaaZT62
import Derived.Test.YtfipjmoaibdanaaZT24
set_option linter.unusedVariables false
set_option linter.unusedSimpArgs false
set_option maxRecDepth 20000
set_option maxHeartbeats 8000000
namespace Go.Proofs.Ytfipjmoaibdanaa
open Go.Aw
attribute [local irreducible] QRun LexD AWp TCall TMut fop fint fcmp fconv

end Go.Proofs.Ytfipjmoaibdanaa
