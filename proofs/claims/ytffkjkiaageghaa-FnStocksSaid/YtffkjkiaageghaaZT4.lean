import Derived.Test.YtffkjkiaageghaaZT3
import Derived.Test.YtffkjkiaageghaaZAwC
set_option linter.unusedVariables false
set_option linter.unusedSimpArgs false
set_option maxRecDepth 20000
set_option maxHeartbeats 4000000
namespace Go.Proofs.Ytffkjkiaageghaa
open Go.Aw

theorem nn_eq (c : Nat) : nn c = isNan .f32 c := by unfold nn; exact neq_self
theorem sgn_eq {c : Nat} (h : isNan .f32 c = false) : sgn (fconv .f32 .f64 c) = (c / 2147483648 % 2 == 1) := by unfold sgn; exact widen_sgn h
theorem sameN_eq {c d : Nat} (hc : canon .f32 c = c) (hc' : c < 4294967296) (hd : canon .f32 d = d) (hd' : d < 4294967296) : sameN c d = (bits c == bits d) := by
  have hb : ∀ x : Nat, x < 4294967296 → isNan .f32 x = false → IntKind.i64.wrap (x : Int) = x ∧ (x : Int) ≠ 2143289344 := by
    intro x hx hn
    refine ⟨wrap_in (by omega), fun he => ?_⟩
    have : x = 2143289344 := by omega
    subst this
    revert hn; rw [nanB_eq]; decide
  unfold sameN bits
  rw [nn_eq, nn_eq]
  have e1 : fcmp .neq .f32 c c = isNan .f32 c := neq_self
  have e2 : fcmp .neq .f32 d d = isNan .f32 d := neq_self
  rw [e1, e2]
  cases h1 : isNan .f32 c with
  | true =>
    cases h2 : isNan .f32 d with
    | true => simp
    | false =>
      obtain ⟨e3, e4⟩ := hb d hd' h2
      simp [e3]; omega
  | false =>
    obtain ⟨e3, e4⟩ := hb c hc' h1
    cases h2 : isNan .f32 d with
    | true => simp [e3]; omega
    | false =>
      obtain ⟨e5, e6⟩ := hb d hd' h2
      simp only [Bool.or_self, Bool.false_eq_true, if_false, e3, e5, sgn_eq h1, sgn_eq h2]
      rw [Bool.eq_iff_iff]
      simp only [Bool.and_eq_true, beq_iff_eq]
      constructor
      · rintro ⟨h3, h4⟩
        exact congrArg _ (eq_of_order hc' hd' h1 h2 h3 h4)
      · intro h3
        have : c = d := by omega
        subst this
        exact ⟨order_refl h1, rfl⟩

attribute [local irreducible] QRun LexD AWp TCall
abbrev T4 (a b c d : Nat) : T := .agg [.f .f32 a, .f .f32 b, .f .f32 c, .f .f32 d]
def and4 (f : Nat → Nat → Bool) (a b c d a' b' c' d' : Nat) : Bool := f a a' && f b b' && f c c' && f d d'
end Go.Proofs.Ytffkjkiaageghaa
