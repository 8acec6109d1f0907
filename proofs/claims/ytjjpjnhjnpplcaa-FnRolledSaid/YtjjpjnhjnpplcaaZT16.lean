import Derived.Test.YtjjpjnhjnpplcaaZT15
set_option linter.unusedVariables false
set_option linter.unusedSimpArgs false
set_option maxRecDepth 20000
set_option maxHeartbeats 8000000
namespace Go.Proofs.Ytjjpjnhjnpplcaa
open Go.Aw
attribute [local irreducible] QRun LexD AWp TCall TMut

def offB (f : Nat → Nat → Nat → Nat) (a b : List Nat) : List Nat := (List.range a.length).map fun i => f (fop .sub .f32 (a.getD i 0) (b.getD i 0)) (a.getD i 0) (b.getD i 0)
theorem offB_len (f : Nat → Nat → Nat → Nat) (a b : List Nat) : (offB f a b).length = a.length := by simp [offB]
theorem mm_off (f : Nat → Nat → Nat → Nat) (a b : List Nat) (n : Nat) (h : n ≤ a.length) : mm f a b n = sumF ((offB f a b).take n) := by
  induction n with
  | zero => rfl
  | succ n ih =>
    unfold sumF at *
    rw [foldl_take (by rw [offB_len]; omega), mm, ih (by omega)]
    rw [show (offB f a b).getD n 0 = _ from getD_mapR _ (by omega)]
theorem missBy_off (f : Nat → Nat → Nat → Nat) (a b : List Nat) : missBy f a b = if two a b then numF (meanF (offB f a b)) else (0, false) := by
  unfold missBy meanF
  rw [mm_off f a b _ (Nat.le_refl _), offB_len, List.take_of_length_le (by rw [offB_len]; exact Nat.le_refl _)]
theorem sizes_off (a b : List Nat) : (zsub a b).map szF = offB (fun m _ _ => absF m) a b := by
  unfold zsub offB
  rw [List.map_map]
  refine List.map_congr_left fun i _ => ?_
  simp only [Function.comp]
  rw [szF_eq (F32_fop _ _ _), absF_eq (F32_fop _ _ _)]
theorem map_szF_len (l : List Nat) : (l.map szF).length = l.length := by simp

def sizeMiss (a b : List Nat) : Nat × Bool := missBy (fun m _ _ => absF m) a b
end Go.Proofs.Ytjjpjnhjnpplcaa
