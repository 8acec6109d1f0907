import Derived.Test.YtmnpdipiffmnhaaYT9
import Derived.Test.YtmnpdipiffmnhaaZAwC
set_option linter.unusedVariables false
set_option linter.unusedSimpArgs false
set_option maxRecDepth 20000
set_option maxHeartbeats 4000000
namespace Go.Proofs.Ytmnpdipiffmnhaa
open Go.Aw
attribute [local irreducible] QRun LexD AWp TCall TMut

/-- the marks -/
def marks (k : Int) (n : Nat) : List Nat := (List.range n).map fun (i : Nat) => fint .f32 (k + (i : Int))
theorem marks_len (k : Int) (n : Nat) : (marks k n).length = n := by simp [marks]
end Go.Proofs.Ytmnpdipiffmnhaa
