import Derived.Test.YtffkjkiaageghaaZT23
set_option linter.unusedVariables false
set_option linter.unusedSimpArgs false
set_option maxRecDepth 20000
set_option maxHeartbeats 8000000
namespace Go.Proofs.Ytffkjkiaageghaa
open Go.Aw
attribute [local irreducible] QRun LexD AWp TCall TMut

def sz1 (n : Nat) (left : Int) : Int := if left - n < 0 then -1 else left - n
theorem sz1_rng {n : Nat} {left : Int} (hl : -1 ≤ left ∧ left ≤ 1048576) : -1 ≤ sz1 n left ∧ sz1 n left ≤ 1048576 := by
  unfold sz1; split <;> omega
theorem sz1_ok {n : Nat} {left : Int} (h : ¬ sz1 n left < 0) : sz1 n left = left - n ∧ (n : Int) ≤ left := by
  unfold sz1 at h ⊢; split at h
  · omega
  · rename_i h1; rw [if_neg h1]; omega
/-- the size of four lists: -1 if they are too great -/
def szR (a b c d : List Nat) (left : Int) : Int :=
  if sz1 a.length left < 0 then -1 else if sz1 b.length (sz1 a.length left) < 0 then -1 else if sz1 c.length (sz1 b.length (sz1 a.length left)) < 0 then -1 else
  if sz1 d.length (sz1 c.length (sz1 b.length (sz1 a.length left))) < 0 then -1 else sz1 d.length (sz1 c.length (sz1 b.length (sz1 a.length left)))
theorem szR_ok {a b c d : List Nat} {left : Int} (h : ¬ szR a b c d left < 0) : szR a b c d left = left - a.length - b.length - c.length - d.length ∧ (a.length + b.length + c.length + d.length : Int) ≤ left := by
  unfold szR at h ⊢
  split at h
  · omega
  rename_i h1
  split at h
  · omega
  rename_i h2
  split at h
  · omega
  rename_i h3
  split at h
  · omega
  rename_i h4
  rw [if_neg h1, if_neg h2, if_neg h3, if_neg h4]
  obtain ⟨e1, g1⟩ := sz1_ok h1
  obtain ⟨e2, g2⟩ := sz1_ok h2
  obtain ⟨e3, g3⟩ := sz1_ok h3
  obtain ⟨e4, g4⟩ := sz1_ok h4
  omega
theorem szR_rng {a b c d : List Nat} {left : Int} (hl : -1 ≤ left ∧ left ≤ 1048576) : -1 ≤ szR a b c d left ∧ szR a b c d left ≤ 1048576 := by
  unfold szR
  split
  · omega
  split
  · omega
  split
  · omega
  split
  · omega
  exact sz1_rng (sz1_rng (sz1_rng (sz1_rng hl)))
end Go.Proofs.Ytffkjkiaageghaa
