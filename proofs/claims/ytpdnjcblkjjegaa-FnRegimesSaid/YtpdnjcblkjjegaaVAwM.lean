/- A function in parts. No condition. -/
import Derived.Test.YtpdnjcblkjjegaaVAwJ
import Derived.Test.YtpdnjcblkjjegaaVAwD
import Derived.Test.YtpdnjcblkjjegaaVAwB
import Derived.Test.YtpdnjcblkjjegaaVAwG
set_option linter.unusedVariables false
set_option linter.unusedSimpArgs false
namespace Go.Aw

theorem ep64 : ep .f64 = 1 / 4503599627370496 := by decide +kernel
theorem u64 : uU .f64 ≤ 1 / 1000000000000000000000000000000000000000000000000000000000000 := by decide +kernel
theorem top64 : 1000000000000000000000000000000 ≤ topR .f64 := by decide +kernel
theorem rds64 {x M : Rat} {c : Nat} (h : RdS .f64 x c) (h1 : x ≤ M) (h2 : -M ≤ x) (hM : okM M) : ∃ e, rv .f64 c = x + e ∧ -(M / 4000000000000000) ≤ e ∧ e ≤ M / 4000000000000000 ∧ Fnt .f64 c := by
  have ht := top64
  obtain ⟨g1, g2, g3⟩ := h.err h1 h2 (by have := hM.2; grind)
  rw [ep64] at g2 g3
  have hu := u64
  have := hM.1
  refine ⟨rv .f64 c - x, by grind, ?_, ?_, g1⟩ <;> grind
theorem add64 {a b : Nat} {M : Rat} (ha : Fnt .f64 a) (hb : Fnt .f64 b) (h1 : rv .f64 a + rv .f64 b ≤ M) (h2 : -M ≤ rv .f64 a + rv .f64 b) (hM : okM M) :
    ∃ e, rv .f64 (fop .add .f64 a b) = rv .f64 a + rv .f64 b + e ∧ -(M / 4000000000000000) ≤ e ∧ e ≤ M / 4000000000000000 ∧ Fnt .f64 (fop .add .f64 a b) := rds64 (add_rds ha hb) h1 h2 hM
theorem sub64 {a b : Nat} {M : Rat} (ha : Fnt .f64 a) (hb : Fnt .f64 b) (h1 : rv .f64 a - rv .f64 b ≤ M) (h2 : -M ≤ rv .f64 a - rv .f64 b) (hM : okM M) :
    ∃ e, rv .f64 (fop .sub .f64 a b) = rv .f64 a - rv .f64 b + e ∧ -(M / 4000000000000000) ≤ e ∧ e ≤ M / 4000000000000000 ∧ Fnt .f64 (fop .sub .f64 a b) := rds64 (sub_rds ha hb) h1 h2 hM
theorem mul64 {a b : Nat} {M : Rat} (ha : Fnt .f64 a) (hb : Fnt .f64 b) (h1 : rv .f64 a * rv .f64 b ≤ M) (h2 : -M ≤ rv .f64 a * rv .f64 b) (hM : okM M) :
    ∃ e, rv .f64 (fop .mul .f64 a b) = rv .f64 a * rv .f64 b + e ∧ -(M / 4000000000000000) ≤ e ∧ e ≤ M / 4000000000000000 ∧ Fnt .f64 (fop .mul .f64 a b) := rds64 (mul_rds ha hb) h1 h2 hM
theorem quo64 {a b : Nat} {z M : Rat} (ha : Fnt .f64 a) (hb : Fnt .f64 b) (hb0 : rv .f64 b ≠ 0) (hz : z * rv .f64 b = rv .f64 a) (h1 : z ≤ M) (h2 : -M ≤ z) (hM : okM (2 * M)) :
    ∃ e, rv .f64 (fop .quo .f64 a b) = z + e ∧ -(M / 1000000000000000) ≤ e ∧ e ≤ M / 1000000000000000 ∧ Fnt .f64 (fop .quo .f64 a b) := by
  obtain ⟨x, hx, hc⟩ := quo_rds ha hb hb0 hz
  rw [ep64] at hc
  obtain ⟨e, g1, g2, g3, g4⟩ := rds64 (M := 2 * M) hx (by rcases hc with hc | hc <;> grind) (by rcases hc with hc | hc <;> grind) hM
  refine ⟨x - z + e, by grind, ?_, ?_, g4⟩
  · rcases hc with hc | hc <;> grind
  · rcases hc with hc | hc <;> grind
def Bd64 (c : Nat) (M : Rat) : Prop := Fnt .f64 c ∧ rv .f64 c ≤ M ∧ -M ≤ rv .f64 c
theorem Bd64.mono {c : Nat} {M N : Rat} (h : Bd64 c M) (hM : M ≤ N) : Bd64 c N := ⟨h.1, by have := h.2.1; grind, by have := h.2.2; grind⟩
theorem Bd64.add {a b : Nat} {M N L : Rat} (ha : Bd64 a M) (hb : Bd64 b N) (hL : (M + N) * (1001 / 1000) ≤ L) (hM : okM (M + N)) : Bd64 (fop .add .f64 a b) L := by
  obtain ⟨a1, a2, a3⟩ := ha
  obtain ⟨b1, b2, b3⟩ := hb
  obtain ⟨e, h1, h2, h3, h4⟩ := add64 (M := M + N) a1 b1 (by grind) (by grind) hM
  exact ⟨h4, by rw [h1]; grind, by rw [h1]; grind⟩
theorem Bd64.mul {a b : Nat} {M N L : Rat} (ha : Bd64 a M) (hb : Bd64 b N) (hL : (M * N) * (1001 / 1000) ≤ L) (hM : okM (M * N)) : Bd64 (fop .mul .f64 a b) L := by
  obtain ⟨a1, a2, a3⟩ := ha
  obtain ⟨b1, b2, b3⟩ := hb
  obtain ⟨p1, p2⟩ := mul_bd a2 a3 b2 b3
  obtain ⟨e, h1, h2, h3, h4⟩ := mul64 (M := M * N) a1 b1 p1 p2 hM
  exact ⟨h4, by rw [h1]; grind, by rw [h1]; grind⟩
/-- a float32 as a float64 -/
theorem wide_e {c : Nat} {M : Rat} (h : Bd c M) (hM : okM M) : ∃ e, rv .f64 (fconv .f32 .f64 c) = rv .f32 c + e ∧ -(M / 4000000000000000) ≤ e ∧ e ≤ M / 4000000000000000 ∧ Fnt .f64 (fconv .f32 .f64 c) := rds64 (wide_rds h.1) h.2.1 h.2.2 hM
theorem thin_e {c : Nat} {M : Rat} (h : Bd64 c M) (hM : okM M) : ∃ e, rv .f32 (fconv .f64 .f32 c) = rv .f64 c + e ∧ -(M / 8000000) ≤ e ∧ e ≤ M / 8000000 ∧ Fnt .f32 (fconv .f64 .f32 c) := rds32 (thin_rds h.1) h.2.1 h.2.2 hM

/-! ### the logarithm -/
theorem lq_tab : (List.range 13).all (fun n => decide (fop .quo .f64 4607182418800017408 (fint .f64 (25 - 2 * (n : Int))) < 2 * FloatKind.f64.format.signWeight) && decide (fop .quo .f64 4607182418800017408 (fint .f64 (25 - 2 * (n : Int))) % FloatKind.f64.format.signWeight < FloatKind.f64.format.infRung) &&
    decide (rv .f64 (fop .quo .f64 4607182418800017408 (fint .f64 (25 - 2 * (n : Int)))) ≤ 1) && decide (0 ≤ rv .f64 (fop .quo .f64 4607182418800017408 (fint .f64 (25 - 2 * (n : Int)))))) = true := by decide +kernel
theorem fnt_0 : Fnt .f64 0 ∧ rv .f64 0 = 0 := by unfold Fnt; decide +kernel
theorem lgQ_bd {u : Nat} (hu : Bd64 u (1 / 10)) : ∀ n, n ≤ 13 → Bd64 (lgQ u n) (6 / 5)
  | 0, _ => by simp only [lgQ]; exact ⟨fnt_0.1, by rw [fnt_0.2]; grind, by rw [fnt_0.2]; grind⟩
  | n + 1, h => by
    have ih := lgQ_bd hu n (by omega)
    have t := List.all_eq_true.1 lq_tab n (List.mem_range.2 (by omega))
    simp only [Bool.and_eq_true, decide_eq_true_eq] at t
    simp only [lgQ]
    have h1 : Bd64 (fop .quo .f64 4607182418800017408 (fint .f64 (25 - 2 * (n : Int)))) 1 := ⟨⟨t.1.1.1, t.1.1.2⟩, t.1.2, by have := t.2; grind⟩
    have h2 := hu.mul ih (L := 13 / 100) (by grind) (by unfold okM; constructor <;> grind)
    exact h1.add h2 (by grind) (by unfold okM; constructor <;> grind)
theorem c64 : (Fnt .f64 4607182418800017408 ∧ rv .f64 4607182418800017408 = 1) ∧ (Fnt .f64 4611686018427387904 ∧ rv .f64 4611686018427387904 = 2) ∧ (Fnt .f64 4604418534313441775 ∧ rv .f64 4604418534313441775 ≤ 7 / 10 ∧ 0 ≤ rv .f64 4604418534313441775) ∧ rvR .f64 4604930618986332160 = 3 / 4 ∧ rvR .f64 4609434218613702656 = 3 / 2 := by
  unfold Fnt; decide +kernel
theorem lgP_bd {y : Nat} {e : Int} (h1 : 4604930618986332160 ≤ y) (h2 : y < 4609434218613702656) (he : -300 ≤ e ∧ e ≤ 300) : Bd64 (lgP y e) 300 := by
  have hi : y < FloatKind.f64.format.infRung := by rw [inf64]; omega
  have hF : Fnt .f64 y := by have := Fn_word .f64 false hi; rwa [word_f] at this
  have hr : rv .f64 y = rvR .f64 y := by have := rv_word .f64 false hi; rw [word_f] at this; simpa using this
  have hc := c64
  have hlo := rvR_mono .f64 h1
  have hhi := rvR_mono .f64 (Nat.le_of_lt h2)
  rw [hc.2.2.2.1, ← hr] at hlo
  rw [hc.2.2.2.2, ← hr] at hhi
  obtain ⟨e1, k1, k2, k3, k4⟩ := sub64 (M := 1) hF hc.1.1 (by rw [hc.1.2]; grind) (by rw [hc.1.2]; grind) (by unfold okM; constructor <;> grind)
  obtain ⟨e2, j1, j2, j3, j4⟩ := add64 (M := 3) hF hc.1.1 (by rw [hc.1.2]; grind) (by rw [hc.1.2]; grind) (by unfold okM; constructor <;> grind)
  rw [hc.1.2] at k1 j1
  -- the quotient
  have hb : 174 / 100 ≤ rv .f64 (fop .add .f64 y 4607182418800017408) := by rw [j1]; grind
  obtain ⟨z, z1, z2, z3⟩ := quo_ex (x := rv .f64 (fop .sub .f64 y 4607182418800017408)) (y := rv .f64 (fop .add .f64 y 4607182418800017408)) (M := 501 / 1000) (by rw [k1]; grind) (by rw [k1]; grind) (by grind)
  have hz : z ≤ 29 / 100 ∧ -(29 / 100) ≤ z := by
    have hS1 : rv .f64 (fop .sub .f64 y 4607182418800017408) ≤ 501 / 1000 := by rw [k1]; grind
    have hS2 : -(501 / 1000) ≤ rv .f64 (fop .sub .f64 y 4607182418800017408) := by rw [k1]; grind
    generalize rv .f64 (fop .sub .f64 y 4607182418800017408) = S at *
    generalize rv .f64 (fop .add .f64 y 4607182418800017408) = A at *
    constructor
    · rcases Rat.le_total (a := z) (b := 29 / 100) with h | h
      · exact h
      · have := Rat.mul_nonneg (show 0 ≤ z - 29 / 100 by grind) (show 0 ≤ A - 174 / 100 by grind); grind
    · rcases Rat.le_total (a := -(29 / 100)) (b := z) with h | h
      · exact h
      · have := Rat.mul_nonneg (show 0 ≤ -(29 / 100) - z by grind) (show 0 ≤ A - 174 / 100 by grind); grind
  obtain ⟨e3, q1, q2, q3, q4⟩ := quo64 (M := 29 / 100) k4 j4 (by grind) z1 hz.1 hz.2 (by unfold okM; constructor <;> grind)
  have hS : Bd64 (lgS y) (3 / 10) := ⟨q4, by unfold lgS; rw [q1]; grind, by unfold lgS; rw [q1]; grind⟩
  have hU := hS.mul hS (L := 1 / 10) (by grind) (by unfold okM; constructor <;> grind)
  have hQ := lgQ_bd hU 13 (Nat.le_refl _)
  have hSQ := hS.mul hQ (L := 4 / 10) (by grind) (by unfold okM; constructor <;> grind)
  have h2' : Bd64 4611686018427387904 2 := ⟨hc.2.1.1, by rw [hc.2.1.2]; grind, by rw [hc.2.1.2]; grind⟩
  have hA := h2'.mul hSQ (L := 9 / 10) (by grind) (by unfold okM; constructor <;> grind)
  have hl2 : Bd64 4604418534313441775 (7 / 10) := ⟨hc.2.2.1.1, hc.2.2.1.2.1, by have := hc.2.2.1.2.2; grind⟩
  have h3 : (e : Rat) ≤ 300 := by have := Rat.intCast_le_intCast.2 he.2; exact this
  have h4 : (-300 : Rat) ≤ (e : Rat) := by have := Rat.intCast_le_intCast.2 he.1; exact this
  have hE : Bd64 (fint .f64 e) 301 := by
    obtain ⟨e4, r1, r2, r3, r4⟩ := rds64 (M := 300) (fint_rds .f64 e) h3 h4 (by unfold okM; constructor <;> grind)
    exact ⟨r4, by rw [r1]; grind, by rw [r1]; grind⟩
  have hB := hE.mul hl2 (L := 220) (by grind) (by unfold okM; constructor <;> grind)
  unfold lgP
  exact hA.add hB (by grind) (by unfold okM; constructor <;> grind)
theorem lgW_bd {y : Nat} (h1 : 874 * 4503599627370496 ≤ y) (h2 : y ≤ 1151 * 4503599627370496) : Bd64 (lgW y) 300 := by
  obtain ⟨a1, a2, a3, a4, a5⟩ := lgN1_spec h2
  have hy1 : 874 * 4503599627370496 ≤ lgY1 y := by
    unfold lgY1
    generalize lgN1 y = N at a5 a4 ⊢
    rcases a5 with h | h
    · rw [h, Nat.zero_mul, Nat.sub_zero]; exact h1
    · exact Nat.le_trans (by decide) h
  obtain ⟨b1, b2, b3, b4⟩ := lgN2_spec (y := lgY1 y) hy1 (by unfold lgY1; exact a3)
  unfold lgW
  exact lgP_bd (by unfold lgY2; exact b3) (by unfold lgY2; exact b4) ⟨by omega, by omega⟩
end Go.Aw

set_option linter.unusedVariables false
namespace Go.Aw
/-- what is left of a sequence behind its first n parts -/
def tlC : Nat → Code → Code
  | 0, c => c
  | n + 1, .seq _ b => tlC n b
  | _ + 1, c => c
/-- the same from a function's body -/
def tlF (f : Func) (n : Nat) : Code := match f.body with
  | some c => tlC n c
  | none => .skip
end Go.Aw

