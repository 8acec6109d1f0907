import Derived.Test.YtffkjkiaageghaaZT4
import Derived.Test.YtffkjkiaageghaaZT14
import Derived.Test.YtffkjkiaageghaaZAwC
set_option linter.unusedVariables false
set_option linter.unusedSimpArgs false
set_option maxRecDepth 20000
set_option maxHeartbeats 8000000
namespace Go.Proofs.Ytffkjkiaageghaa
open Go.Aw

def allS (p : Nat → Nat → Bool) (a b : List Nat) : Bool := decide (a.length = b.length) && (List.range a.length).all fun i => p (a.getD i 0) (b.getD i 0)
theorem allS_hit {p : Nat → Nat → Bool} {a b : List Nat} {i : Nat} (hi : i < a.length) (h : p (a.getD i 0) (b.getD i 0) = false) : allS p a b = false := by
  unfold allS
  rw [Bool.and_eq_false_iff]; right
  exact List.all_eq_false.2 ⟨i, List.mem_range.2 hi, by rw [h]; simp⟩
theorem allS_none {p : Nat → Nat → Bool} {a b : List Nat} (hl : a.length = b.length) (h : ∀ j, j < a.length → p (a.getD j 0) (b.getD j 0) = true) : allS p a b = true := by
  unfold allS
  rw [Bool.and_eq_true]
  exact ⟨decide_eq_true hl, List.all_eq_true.2 fun j hj => h j (List.mem_range.1 hj)⟩
theorem allS_len {p : Nat → Nat → Bool} {a b : List Nat} (hl : a.length ≠ b.length) : allS p a b = false := by
  unfold allS; rw [decide_eq_false hl]; rfl
theorem allS_congr {p q : Nat → Nat → Bool} {a b : List Nat} (h : ∀ j, p (a.getD j 0) (b.getD j 0) = q (a.getD j 0) (b.getD j 0)) : allS p a b = allS q a b := by
  unfold allS; congr 2; funext j; exact h j
theorem getD_F32' {l : List Nat} (h : ∀ c ∈ l, F32 c) (i : Nat) : F32 (l.getD i 0) := by
  rw [List.getD_eq_getElem?_getD]
  cases hi : l[i]? with
  | none => exact ⟨canon_not (zero_notnan _), by decide⟩
  | some c => exact h c (List.mem_of_getElem? hi)
def sameB (c d : Nat) : Bool := bits c == bits d
theorem allS_same {a b : List Nat} (ha : ∀ c ∈ a, F32 c) (hb : ∀ c ∈ b, F32 c) : allS sameN a b = allS sameB a b :=
  allS_congr fun j => sameN_eq (getD_F32' ha j).1 (getD_F32' ha j).2 (getD_F32' hb j).1 (getD_F32' hb j).2
attribute [local irreducible] QRun LexD AWp TCall TMut

abbrev R4 (a b c d : List Nat) : T := .agg [.fl a, .fl b, .fl c, .fl d]
def and4R (p : Nat → Nat → Bool) (a b c d a' b' c' d' : List Nat) : Bool := allS p a a' && allS p b b' && allS p c c' && allS p d d'
end Go.Proofs.Ytffkjkiaageghaa
