import Derived.Test.YtjjpjnhjnpplcaaZT28
import Derived.Test.YtjjpjnhjnpplcaaZT16
set_option linter.unusedVariables false
set_option linter.unusedSimpArgs false
set_option maxRecDepth 20000
set_option maxHeartbeats 8000000
namespace Go.Proofs.Ytjjpjnhjnpplcaa
open Go.Aw
attribute [local irreducible] QRun LexD AWp TCall TMut

def sqm (m _ _ : Nat) : Nat := fop .mul .f32 m m
theorem dotN_mm (a b : List Nat) (n : Nat) (h : n ≤ a.length) : dotN (zsub a b) (zsub a b) n = mm sqm a b n := by
  induction n with
  | zero => rfl
  | succ n ih =>
    rw [dotN, mm, ih (by omega)]
    rw [show (zsub a b).getD n 0 = _ from getD_mapR _ (by omega)]
    rfl
def rootMiss (a b : List Nat) : Nat × Bool := if two a b then numF (rootF (fop .quo .f32 (mm sqm a b a.length) (fint .f32 (a.length : Nat)))) else (0, false)
theorem numF_bad {c : Nat} (h : fin c = false) : numF c = (0, false) := by simp [numF, h]
theorem numF_ok {c : Nat} (h : fin c = true) : numF c = (c, true) := by simp [numF, h]
def orderP (l : List Nat) (n : Int) (f : Nat) : Nat × Bool :=
  if isSer l && inR n 1 32 && fin f then numF (fop .add .f32 (fop .mul .f32 (fint .f32 n) (meanF l)) (fop .mul .f32 (fop .mul .f32 f (sprF l)) (rootF (fint .f32 n)))) else (0, false)
end Go.Proofs.Ytjjpjnhjnpplcaa
