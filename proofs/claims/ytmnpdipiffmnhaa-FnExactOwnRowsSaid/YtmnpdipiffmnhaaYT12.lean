import Derived.Test.YtmnpdipiffmnhaaYT9
set_option linter.unusedVariables false
set_option linter.unusedSimpArgs false
set_option maxRecDepth 20000
set_option maxHeartbeats 4000000
namespace Go.Proofs.Ytmnpdipiffmnhaa
open Go.Aw
attribute [local irreducible] QRun LexD AWp TCall
def zsub (a b : List Nat) : List Nat := (List.range a.length).map fun i => fop .sub .f32 (a.getD i 0) (b.getD i 0)
theorem getD_mapR {n i : Nat} (f : Nat → Nat) (h : i < n) : ((List.range n).map f).getD i 0 = f i := by simp [List.getD_eq_getElem?_getD, h]
theorem zsub_len (a b : List Nat) : (zsub a b).length = a.length := by simp [zsub]
end Go.Proofs.Ytmnpdipiffmnhaa
