import Derived.Test.YtmnpdipiffmnhaaYT64
set_option linter.unusedVariables false
set_option linter.unusedSimpArgs false
set_option maxRecDepth 20000
set_option maxHeartbeats 8000000
namespace Go.Proofs.Ytmnpdipiffmnhaa
open Go.Aw
attribute [local irreducible] QRun LexD AWp TCall TMut fop fint fcmp fconv

/-! ### what is left of likes -/
theorem set_mix {A P : List Nat} {n v : Nat} (hA : A.length = P.length) (hn : n < P.length) (hv : A.getD n 0 = v) : (A.take n ++ P.drop n).set n v = A.take (n + 1) ++ P.drop (n + 1) := by
  have hl : (A.take n).length = n := by simp; omega
  rw [List.set_append_right _ _ (by omega), hl, Nat.sub_self, List.drop_eq_getElem_cons hn, List.set_cons_zero, ← List.take_append_getElem (by omega : n < A.length)]
  have : A[n] = v := by rw [← hv]; simp [List.getD_eq_getElem?_getD, (by omega : n < A.length)]
  rw [this]; simp

theorem fE {k : FloatKind} {a b : Nat} (h : a = b) : AV.t (.f k a) = AV.t (.f k b) := by rw [h]
end Go.Proofs.Ytmnpdipiffmnhaa
