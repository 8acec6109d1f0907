/- More names of results. -/
import Derived.Test.YtodnginckchmdaaAwLoan
set_option linter.unusedVariables false
namespace Go.Aw
def piL : List (Nat × Nat) → Nat → Option Nat
  | [], _ => none
  | (a, b) :: r, j => bif Nat.beq j a then some b else piL r j
def injB (π : Nat → Option Nat) (hs : List (Nat × Blk)) : Bool := hs.all fun p => hs.all fun q => (match π p.1, π q.1 with | some a, some b => !Nat.beq a b | _, _ => true) || Nat.beq p.1 q.1
theorem injO_dec {π : Nat → Option Nat} {hs : List (Nat × Blk)} (h : injB π hs = true) : injO π hs := fun i j a hi hj h1 h2 => by
  obtain ⟨B, hB⟩ := Option.isSome_iff_exists.1 hi
  obtain ⟨C, hC⟩ := Option.isSome_iff_exists.1 hj
  have h3 := List.all_eq_true.1 (List.all_eq_true.1 h _ (lkH_mem hB)) _ (lkH_mem hC)
  simp only [h1, h2, Nat.beq_refl, Bool.not_true, Bool.false_or] at h3
  exact Nat.eq_of_beq_eq_true h3
end Go.Aw
