import Derived.Test.YtjjpjnhjnpplcaaZT12
set_option linter.unusedVariables false
set_option linter.unusedSimpArgs false
set_option maxRecDepth 20000
set_option maxHeartbeats 8000000
namespace Go.Proofs.Ytjjpjnhjnpplcaa
open Go.Aw
attribute [local irreducible] QRun LexD AWp TCall
def mm (f : Nat → Nat → Nat → Nat) (a b : List Nat) : Nat → Nat
  | 0 => 0
  | n + 1 => fop .add .f32 (mm f a b n) (f (fop .sub .f32 (a.getD n 0) (b.getD n 0)) (a.getD n 0) (b.getD n 0))
theorem mm_sum (a b : List Nat) (n : Nat) (h : n ≤ a.length) : mm (fun m _ _ => m) a b n = sumF ((zsub a b).take n) := by
  induction n with
  | zero => rfl
  | succ n ih =>
    unfold sumF at *
    rw [foldl_take (by rw [zsub_len]; omega), mm, ih (by omega)]
    rw [show (zsub a b).getD n 0 = fop .sub .f32 (a.getD n 0) (b.getD n 0) from getD_mapR _ (by omega)]
def missBy (f : Nat → Nat → Nat → Nat) (a b : List Nat) : Nat × Bool := if two a b then numF (fop .quo .f32 (mm f a b a.length) (fint .f32 (a.length : Nat))) else (0, false)
theorem missBy_mean (a b : List Nat) : missBy (fun m _ _ => m) a b = miss a b := by
  unfold missBy miss meanF
  rw [mm_sum a b _ (Nat.le_refl _), zsub_len, List.take_of_length_le (by rw [zsub_len]; exact Nat.le_refl _)]
end Go.Proofs.Ytjjpjnhjnpplcaa
