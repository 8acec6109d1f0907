import Derived.Test.YtcgimnafomnjcaaYT47
import Derived.Test.YtcgimnafomnjcaaYT28
import Derived.Test.YtcgimnafomnjcaaZAwD
import Derived.Test.YtcgimnafomnjcaaYT6
import Derived.Test.YtcgimnafomnjcaaYT4
import Derived.Test.YtcgimnafomnjcaaZAwC
import Derived.Test.YtcgimnafomnjcaaYT18
import Derived.Test.YtcgimnafomnjcaaZAwK
set_option linter.unusedVariables false
set_option linter.unusedSimpArgs false
set_option maxRecDepth 20000
set_option maxHeartbeats 8000000
namespace Go.Proofs.Ytcgimnafomnjcaa
open Go.Aw

/-! ### what the law asks of a run of levels -/
theorem fmx_rv {k : FloatKind} {a b : Nat} (ha : Fnt k a) (hb : Fnt k b) : Fnt k (fmx k a b) ∧ rv k a ≤ rv k (fmx k a b) ∧ rv k b ≤ rv k (fmx k a b) := by
  unfold fmx
  rw [order_sv k ha.notnan hb.notnan]
  have hs := sv_rv k (a := a) (b := b)
  have hs2 := sv_rv k (a := b) (b := a)
  rcases Int.lt_trichotomy (sv k a) (sv k b) with h | h | h
  · rw [cmp_lt h]; have := hs.1.1 h; exact ⟨hb, by grind, Rat.le_refl⟩
  · rw [cmp_eq h]
    have := hs.2.1 h
    simp only []
    split
    · exact ⟨hb, by grind, Rat.le_refl⟩
    · exact ⟨ha, Rat.le_refl, by grind⟩
  · rw [cmp_gt h]; have := hs2.1.1 h; exact ⟨ha, Rat.le_refl, by grind⟩
theorem fmx_or {k : FloatKind} {a b : Nat} : fmx k a b = a ∨ fmx k a b = b ∨ fmx k a b = nan0 k := by
  unfold fmx; split
  · exact .inr (.inr rfl)
  · exact .inr (.inl rfl)
  · exact .inl rfl
  · split
    · exact .inr (.inl rfl)
    · exact .inl rfl
abbrev W (c : Nat) : Nat := fconv .f32 .f64 c
theorem k001 : (Fnt .f64 4562254508917369340 ∧ 999 / 1000000 ≤ rv .f64 4562254508917369340 ∧ rv .f64 4562254508917369340 ≤ 1001 / 1000000) ∧ (Fnt .f64 13785626545772145148 ∧ rv .f64 13785626545772145148 ≤ -(999 / 1000000)) ∧ fcmp .lss .f64 0 4547007122018943789 = true := by unfold Fnt; decide +kernel
theorem sameN_self {c : Nat} (h : Fnt .f32 c) : sameN c c = true := by
  have hn : nn c = false := by rw [nn_eq]; exact h.notnan
  unfold sameN
  rw [hn]
  have ho : fcmp .eql .f32 c c = true := order_refl h.notnan
  simp only [Bool.or_self, Bool.false_eq_true, if_false, ho, beq_self_eq_true, Bool.and_self]
end Go.Proofs.Ytcgimnafomnjcaa

