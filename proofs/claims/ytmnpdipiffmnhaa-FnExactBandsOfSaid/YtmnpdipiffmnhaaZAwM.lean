/- A function in parts. No condition. -/
import Derived.Test.YtmnpdipiffmnhaaZAwB
import Derived.Test.YtmnpdipiffmnhaaZAwL
set_option linter.unusedVariables false
namespace Go.Aw
/-- what is left of a sequence behind its first n parts -/
def tlC : Nat → Code → Code
  | 0, c => c
  | n + 1, .seq _ b => tlC n b
  | _ + 1, c => c
/-- the same from a function's body -/
def tlF (f : Func) (n : Nat) : Code := match f.body with
  | some c => tlC n c
  | none => .skip
end Go.Aw

