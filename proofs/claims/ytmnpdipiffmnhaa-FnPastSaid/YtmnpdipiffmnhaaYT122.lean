import Derived.Test.YtmnpdipiffmnhaaYT121
set_option linter.unusedVariables false
set_option linter.unusedSimpArgs false
set_option maxRecDepth 20000
set_option maxHeartbeats 8000000
namespace Go.Proofs.Ytmnpdipiffmnhaa
open Go.Aw

theorem narrow_bd2 {c : Nat} {M : Rat} (h : Bd64 c M) (hM : M ≤ 1000000000000000000000000000000) : fconvOk .f64 .f32 c = true := by
  refine narrow_ok (.inl ?_)
  obtain ⟨s, r, hc, hr, hv⟩ := h.1.ex
  have hw := word_parts .f64 s (r := r) (by have := inf_sw .f64; omega)
  have e : c % 9223372036854775808 = r := by have := hw.1; rw [sw64] at this; rw [hc]; exact this
  rw [e]
  have hb : (1000000000000000000000000000001 : Rat) ≤ rvR .f64 (1150 * 4503599627370496 - 1) := by decide +kernel
  rcases Nat.lt_or_ge r (1150 * 4503599627370496 - 1) with h1 | h1
  · omega
  · have := rvR_mono .f64 h1
    have h2 := h.2
    rw [hv] at h2
    cases s
    · simp only [Bool.false_eq_true, if_false] at h2; grind
    · simp only [if_true] at h2; grind
end Go.Proofs.Ytmnpdipiffmnhaa
