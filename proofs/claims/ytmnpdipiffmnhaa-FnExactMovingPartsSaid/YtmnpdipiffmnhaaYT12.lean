import Derived.Test.YtmnpdipiffmnhaaYT9
set_option linter.unusedVariables false
set_option linter.unusedSimpArgs false
set_option maxRecDepth 20000
set_option maxHeartbeats 4000000
namespace Go.Proofs.Ytmnpdipiffmnhaa
open Go.Aw
attribute [local irreducible] QRun LexD AWp TCall
def sumF (l : List Nat) : Nat := l.foldl (fun s x => fop .add .f32 s x) 0
theorem getD_mapR {n i : Nat} (f : Nat → Nat) (h : i < n) : ((List.range n).map f).getD i 0 = f i := by simp [List.getD_eq_getElem?_getD, h]
theorem foldl_take {l : List Nat} {i : Nat} (h : i < l.length) (f : Nat → Nat → Nat) (z : Nat) : (l.take (i + 1)).foldl f z = f ((l.take i).foldl f z) (l.getD i 0) := by
  rw [List.take_succ_eq_append_getElem h, List.foldl_append]; simp [List.getD_eq_getElem?_getD, h]
def meanF (l : List Nat) : Nat := fop .quo .f32 (sumF l) (fint .f32 (l.length : Nat))
end Go.Proofs.Ytmnpdipiffmnhaa
