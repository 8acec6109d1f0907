import Derived.Test.YtjjpjnhjnpplcaaYT15
import Derived.Test.YtjjpjnhjnpplcaaZAwC
set_option linter.unusedVariables false
set_option linter.unusedSimpArgs false
set_option maxRecDepth 20000
set_option maxHeartbeats 8000000
namespace Go.Proofs.Ytjjpjnhjnpplcaa
open Go.Aw

/-! ### what terms tell -/
/-- a list if all of it is finite -/
def ifAllF (l : List Nat) : List Nat × Bool := if l.all fin then (l, true) else ([], false)
/-! ### what meets in the middle -/
def meetD (t : Nat) (l : List Nat) : Nat := fop .quo .f32 (fop .sub .f32 t (sumF l)) (fint .f32 ((l.length + 1 : Nat) : Int))
def meetL (t : Nat) (l : List Nat) : List Nat := l.map fun x => fop .add .f32 x (meetD t l)
def meetOk (t : Nat) (l : List Nat) : Bool := fin t && decide (1 ≤ l.length) && decide (l.length ≤ 12) && l.all fin
def meetF (t : Nat) (l : List Nat) : Nat × List Nat × Bool :=
  if meetOk t l && fin (fop .sub .f32 t (meetD t l)) && (meetL t l).all fin then (fop .sub .f32 t (meetD t l), meetL t l, true) else (0, [], false)
end Go.Proofs.Ytjjpjnhjnpplcaa
