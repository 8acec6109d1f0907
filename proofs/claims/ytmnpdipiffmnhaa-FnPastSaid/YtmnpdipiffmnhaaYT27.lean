import Derived.Test.YtmnpdipiffmnhaaYT22
set_option linter.unusedVariables false
set_option linter.unusedSimpArgs false
set_option maxRecDepth 20000
set_option maxHeartbeats 8000000
namespace Go.Proofs.Ytmnpdipiffmnhaa
open Go.Aw

/-! ### the spreads of what comes -/
def xin (terms w : List Nat) (k : Nat) : Nat → Nat
  | 0 => if k = 0 then 1065353216 else 0
  | i + 1 => fop .add .f32 (xin terms w k i) (fop .mul .f32 (terms.getD i 0) (w.getD (k - 1 - i) 0))
def wL (terms : List Nat) : Nat → List Nat
  | 0 => []
  | n + 1 => wL terms n ++ [xin terms (wL terms n) n (min n terms.length)]
def smW (terms : List Nat) : Nat → Nat
  | 0 => 0
  | n + 1 => fop .add .f32 (smW terms n) (fop .mul .f32 (xin terms (wL terms n) n (min n terms.length)) (xin terms (wL terms n) n (min n terms.length)))
def spL (terms : List Nat) (s : Nat) : Nat → List Nat
  | 0 => []
  | n + 1 => spL terms s n ++ [fop .mul .f32 s (smW terms (n + 1))]
theorem wL_len (terms : List Nat) (n : Nat) : (wL terms n).length = n := by
  induction n with
  | zero => rfl
  | succ n ih => simp [wL, ih]
theorem spL_len (terms : List Nat) (s n : Nat) : (spL terms s n).length = n := by
  induction n with
  | zero => rfl
  | succ n ih => simp [spL, ih]
def pastSpreads (terms : List Nat) (s : Nat) (count : Int) : List Nat × Bool := if isTerms terms && least s && decide (0 ≤ count) && decide (count ≤ 32) then ifAllF (spL terms s count.toNat) else ([], false)
end Go.Proofs.Ytmnpdipiffmnhaa
