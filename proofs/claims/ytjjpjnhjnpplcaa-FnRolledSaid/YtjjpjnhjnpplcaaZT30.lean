import Derived.Test.YtjjpjnhjnpplcaaZT29
import Derived.Test.YtjjpjnhjnpplcaaZT22
set_option linter.unusedVariables false
set_option linter.unusedSimpArgs false
set_option maxRecDepth 20000
set_option maxHeartbeats 8000000
namespace Go.Proofs.Ytjjpjnhjnpplcaa
open Go.Aw
attribute [local irreducible] QRun LexD AWp TCall TMut

def lagL (l : List Nat) (k : Nat) : List Nat := zsub ((l.take l.length).drop k) l
theorem lagL_len (l : List Nat) (k : Nat) : (lagL l k).length = l.length - k := by simp [lagL, zsub]
theorem lagL_get {l : List Nat} {k i : Nat} (h1 : k ≤ i) (h2 : i < l.length) : (lagL l k).getD (i - k) 0 = fop .sub .f32 (l.getD i 0) (l.getD (i - k) 0) := by
  unfold lagL zsub
  rw [getD_mapR _ (by simp; omega)]
  have : ((l.take l.length).drop k).getD (i - k) 0 = l.getD i 0 := by
    rw [List.take_length, List.getD_eq_getElem?_getD, List.getElem?_drop, List.getD_eq_getElem?_getD, show k + (i - k) = i by omega]
  rw [this]
def lagF (l : List Nat) (k : Int) : List Nat × Bool := if isSer l && inR k 1 ((l.length : Int) - 1) then ifAllF (lagL l k.toNat) else ([], false)
theorem lagF_len (l : List Nat) (k : Int) : (lagF l k).1.length ≤ 96 := by
  unfold lagF
  split
  · rename_i h
    unfold ifAllF
    split
    · simp only [lagL_len]
      simp only [Bool.and_eq_true] at h
      have := isSer_len h.1; omega
    · simp
  · simp
end Go.Proofs.Ytjjpjnhjnpplcaa
