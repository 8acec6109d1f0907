import Derived.Test.YtjjpjnhjnpplcaaYT110
set_option linter.unusedVariables false
set_option linter.unusedSimpArgs false
set_option maxRecDepth 20000
set_option maxHeartbeats 8000000
namespace Go.Proofs.Ytjjpjnhjnpplcaa
open Go.Aw

/-! ### what the law asks of a run of levels -/
theorem fmx_rv {k : FloatKind} {a b : Nat} (ha : Fnt k a) (hb : Fnt k b) : Fnt k (fmx k a b) ∧ rv k a ≤ rv k (fmx k a b) ∧ rv k b ≤ rv k (fmx k a b) := by
  unfold fmx
  rw [order_sv k ha.notnan hb.notnan]
  have hs := sv_rv k (a := a) (b := b)
  have hs2 := sv_rv k (a := b) (b := a)
  rcases Int.lt_trichotomy (sv k a) (sv k b) with h | h | h
  · rw [cmp_lt h]; have := hs.1.1 h; exact ⟨hb, by grind, Rat.le_refl⟩
  · rw [cmp_eq h]
    have := hs.2.1 h
    simp only []
    split
    · exact ⟨hb, by grind, Rat.le_refl⟩
    · exact ⟨ha, Rat.le_refl, by grind⟩
  · rw [cmp_gt h]; have := hs2.1.1 h; exact ⟨ha, Rat.le_refl, by grind⟩
theorem fmx_or {k : FloatKind} {a b : Nat} : fmx k a b = a ∨ fmx k a b = b ∨ fmx k a b = nan0 k := by
  unfold fmx; split
  · exact .inr (.inr rfl)
  · exact .inr (.inl rfl)
  · exact .inl rfl
  · split
    · exact .inr (.inl rfl)
    · exact .inl rfl
abbrev W (c : Nat) : Nat := fconv .f32 .f64 c
theorem W_fact {c : Nat} {M : Rat} (h : Bd c M) (hM : okM M) : Fnt .f64 (W c) ∧ rv .f64 (W c) ≤ rv .f32 c + M / 4000000000000000 ∧ rv .f32 c ≤ rv .f64 (W c) + M / 4000000000000000 := by
  obtain ⟨e, h1, h2, h3, h4⟩ := wide_e h hM
  exact ⟨h4, by rw [h1]; grind, by rw [h1]; grind⟩
theorem k001 : (Fnt .f64 4562254508917369340 ∧ 999 / 1000000 ≤ rv .f64 4562254508917369340 ∧ rv .f64 4562254508917369340 ≤ 1001 / 1000000) ∧ (Fnt .f64 13785626545772145148 ∧ rv .f64 13785626545772145148 ≤ -(999 / 1000000)) ∧ fcmp .lss .f64 0 4547007122018943789 = true := by unfold Fnt; decide +kernel
end Go.Proofs.Ytjjpjnhjnpplcaa
