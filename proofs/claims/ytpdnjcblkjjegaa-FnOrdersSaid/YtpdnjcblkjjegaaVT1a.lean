import Derived.Test.YtpdnjcblkjjegaaVT200
import Derived.Test.YtpdnjcblkjjegaaProg
import Derived.Test.YtpdnjcblkjjegaaVAwB
import Derived.Test.YtpdnjcblkjjegaaVAwC
set_option linter.unusedVariables false
set_option linter.unusedSimpArgs false
namespace Go.Proofs.Ytpdnjcblkjjegaa
open Go.Aw

theorem quo_halfN {k : FloatKind} {r q : Nat} (hr : r < k.format.infRung) (hq : q < k.format.infRung) (hq0 : q ≠ 0) (s t : Bool) :
    ∃ r', fop .quo k (k.format.word s r) (k.format.word t q) = k.format.word (s ^^ t) r' ∧ r' ≤ k.format.infRung ∧ ∀ z, z * rvR k q = rvR k r → 0 ≤ z ∧ Hf k (uU k) z r' := by
  obtain ⟨m, i, h1, h2⟩ := read_word k s (r := r) hr
  obtain ⟨n, j, g1, g2⟩ := read_word k t (r := q) hq
  have hU := uU_pos k
  have hE := eh_pos k
  have hn : n ≠ 0 := by
    intro h
    rw [h, Nat.zero_mul] at g2
    have := valR_lt k.format (show 0 < q by omega)
    rw [valR_zero] at this; omega
  have hvq : (0 : Rat) < rvR k q := by
    have := rvR_lt k (show 0 < q by omega)
    have hz : rvR k 0 = 0 := by unfold rvR; rw [valR_zero]; simp
    grind
  have hz0 : ∀ z, z * rvR k q = rvR k r → 0 ≤ z := fun z hz => by
    have h5 := rvR_nn k r
    have h6 : 0 * rvR k q ≤ z * rvR k q := by rw [hz]; grind
    exact Rat.le_of_mul_le_mul_right h6 hvq
  generalize hd : k.format.fractionBits + 2 = d0
  generalize hmo : d0 + n.log2 - m.log2 = more
  have hf : floatBits .quo k (k.format.word s r) (k.format.word t q) = some (k.format.nearest (s ^^ t) (2 * ((m * 2 ^ more) / n) + ((m * 2 ^ more) % n != 0).toNat) (k.format.leastPlace + (i : Int) - (k.format.leastPlace + (j : Int)) - (more : Int) - 1)) := by
    unfold floatBits; simp only []; unfold Ieee.Format.div
    rw [h1, g1]
    simp only [Ieee.Datum.quotient, if_neg hn, Option.map_some, Ieee.Format.write, hd, hmo, Nat.shiftLeft_eq]
  rw [fop_eq hf]
  generalize hX : 2 * ((m * 2 ^ more) / n) + ((m * 2 ^ more) % n != 0).toNat = X
  have hlp := lp_N k
  have e1 := nearest_scale k.format false X (i + lpN k) (k.format.leastPlace + (i : Int) - (k.format.leastPlace + (j : Int)) - (more : Int) - 1)
  have e3 : k.format.leastPlace + (i : Int) - (k.format.leastPlace + (j : Int)) - (more : Int) - 1 - ((i + lpN k : Nat) : Int) = k.format.leastPlace - ((j + more + 1 : Nat) : Int) := by omega
  rw [e3] at e1
  refine ⟨_, rfl, nearest_inf _ _ _, fun z hz => ⟨hz0 z hz, ?_⟩⟩
  rw [← e1]
  have hI : (0 : Rat) < ((2 ^ i : Nat) : Rat) := by exact_mod_cast Nat.two_pow_pos i
  have hJ : (0 : Rat) < ((2 ^ j : Nat) : Rat) := by exact_mod_cast Nat.two_pow_pos j
  have hW : (0 : Rat) < ((2 ^ more : Nat) : Rat) := by exact_mod_cast Nat.two_pow_pos more
  have hnR : (0 : Rat) < (n : Rat) := by exact_mod_cast (show 0 < n by omega)
  have hzz : z * ((n : Rat) * ((2 ^ j : Nat) : Rat)) = (m : Rat) * ((2 ^ i : Nat) : Rat) := by
    unfold rvR at hz
    rw [← h2, ← g2] at hz
    have h6 : (z * ((n * 2 ^ j : Nat) : Rat)) * uU k = ((m * 2 ^ i : Nat) : Rat) * uU k := by rw [← hz]; grind
    have e : ∀ x y : Rat, x * uU k = y * uU k → x = y := fun x y h => Rat.le_antisymm (Rat.le_of_mul_le_mul_right (by rw [h]; exact Rat.le_refl) hU) (Rat.le_of_mul_le_mul_right (by rw [h]; exact Rat.le_refl) hU)
    have := e _ _ h6
    push_cast at this ⊢
    exact this
  generalize hA : m * 2 ^ more = A at *
  have hAR : (A : Rat) = (m : Rat) * ((2 ^ more : Nat) : Rat) := by rw [← hA]; push_cast; rfl
  intro hr'
  by_cases hm : m = 0
  · have hA0 : A = 0 := by rw [← hA, hm, Nat.zero_mul]
    have hX0 : X = 0 := by rw [← hX, hA0]; simp
    have hz00 : z = 0 := by
      rw [hm] at hzz
      have hnJ := Rat.mul_pos hnR hJ
      have : z * ((n : Rat) * ((2 ^ j : Nat) : Rat)) ≤ 0 * ((n : Rat) * ((2 ^ j : Nat) : Rat)) := by rw [hzz]; simp
      have := Rat.le_of_mul_le_mul_right this hnJ
      exact Rat.le_antisymm this (hz0 z hz)
    rw [hX0, Nat.zero_mul, nearest_zero, hz00]
    have hzz : rvR k 0 = 0 := by unfold rvR; rw [valR_zero]; simp
    rw [hzz]
    constructor <;> grind
  · have b0 := Nat.div_add_mod A n
    have b1 := Nat.mod_lt A (show 0 < n by omega)
    have hbig : 2 * k.format.binade ≤ A / n := by
      rw [Nat.le_div_iff_mul_le (by omega)]
      have a1 : n < 2 ^ (n.log2 + 1) := Nat.lt_log2_self
      have a2 : 2 ^ (m.log2 + more) ≤ m * 2 ^ more := by rw [Nat.pow_add]; exact Nat.mul_le_mul_right _ (Nat.log2_self_le hm)
      have a3 : 2 ^ (n.log2 + 1) * 2 ^ (k.format.fractionBits + 1) ≤ 2 ^ (m.log2 + more) := by rw [← Nat.pow_add]; exact Nat.pow_le_pow_right (by decide) (by omega)
      have a4 : 2 * k.format.binade = 2 ^ (k.format.fractionBits + 1) := by rw [Nat.pow_succ, Nat.mul_comm]; rfl
      rw [a4, ← hA, Nat.mul_comm]
      exact Nat.le_trans (Nat.mul_le_mul_right _ (Nat.le_of_lt a1)) (Nat.le_trans a3 a2)
    have hBp : k.format.binade = 2 ^ k.format.fractionBits := rfl
    have hB0 : 0 < k.format.binade := Nat.two_pow_pos _
    generalize hst : ((A % n != 0).toNat) = st at hX
    have hst1 : st = 0 ∧ A % n = 0 ∨ st = 1 ∧ 0 < A % n := by
      by_cases h0 : A % n = 0
      · left; rw [← hst]; simp [h0]
      · right
        have : (A % n != 0) = true := by simpa using h0
        rw [← hst, this]; simp; omega
    generalize hQ : A / n = Q at *
    have hX4 : 4 * k.format.binade ≤ X := by omega
    have hXne : X ≠ 0 := by omega
    have hS : 0 < 2 ^ (i + lpN k) := Nat.two_pow_pos _
    have hmne : X * 2 ^ (i + lpN k) ≠ 0 := by
      intro h; rcases Nat.mul_eq_zero.1 h with h | h <;> omega
    obtain ⟨d, c, hc, v1, v2, v3, v4⟩ := nearest_cut k.format (X * 2 ^ (i + lpN k)) (j + more + 1) hmne hr'
    obtain ⟨u1, u2⟩ := cut_half (X * 2 ^ (i + lpN k)) d
    rw [← hc] at u1 u2
    rw [log2_mul_pow hXne] at v3 v4
    have hl2 : k.format.fractionBits + 2 ≤ X.log2 := by
      rw [Nat.le_log2 hXne]
      refine Nat.le_trans (Nat.le_of_eq ?_) hX4
      have : (2 : Nat) ^ (k.format.fractionBits + 2) = 2 ^ k.format.fractionBits * 4 := Nat.pow_add ..
      rw [this, ← hBp, Nat.mul_comm]
    obtain ⟨w, hw⟩ : ∃ w, d = (i + lpN k) + (2 + w) := ⟨d - (i + lpN k) - 2, by omega⟩
    -- the bounds as whole numbers
    have hd4 : 2 ^ d = 2 ^ (i + lpN k) * (4 * 2 ^ w) := by rw [hw, Nat.pow_add _ (i + lpN k), Nat.pow_add _ 2]
    have y1 : 2 * (c * 2 ^ w) ≤ Q + 2 ^ w := by
      have : 2 ^ (i + lpN k) * (8 * (c * 2 ^ w)) ≤ 2 ^ (i + lpN k) * (2 * X + 4 * 2 ^ w) := by
        have e : 2 * (c * 2 ^ d) = 2 ^ (i + lpN k) * (8 * (c * 2 ^ w)) := by rw [hd4]; grind
        have e' : 2 * (X * 2 ^ (i + lpN k)) + 2 ^ d = 2 ^ (i + lpN k) * (2 * X + 4 * 2 ^ w) := by rw [hd4]; grind
        rw [← e, ← e']; exact u1
      have := Nat.le_of_mul_le_mul_left this hS
      omega
    have y2 : (st = 0 → Q ≤ 2 * (c * 2 ^ w) + 2 ^ w) ∧ (st = 1 → Q + 1 ≤ 2 * (c * 2 ^ w) + 2 ^ w) := by
      have : 2 ^ (i + lpN k) * (2 * X) ≤ 2 ^ (i + lpN k) * (8 * (c * 2 ^ w) + 4 * 2 ^ w) := by
        have e : 2 * (X * 2 ^ (i + lpN k)) = 2 ^ (i + lpN k) * (2 * X) := by grind
        have e' : 2 * (c * 2 ^ d) + 2 ^ d = 2 ^ (i + lpN k) * (8 * (c * 2 ^ w) + 4 * 2 ^ w) := by rw [hd4]; grind
        rw [← e, ← e']; exact u2
      have := Nat.le_of_mul_le_mul_left this hS
      constructor <;> intro h <;> omega
    have y3 : d = j + more + 1 ∨ 2 * k.format.binade * 2 ^ w ≤ Q := by
      rcases v4 with h | h
      · exact .inl h
      · right
        have e : X.log2 = k.format.fractionBits + (2 + w) := by omega
        have := Nat.log2_self_le hXne
        rw [e, Nat.pow_add, ← hBp, Nat.pow_add] at this
        have e2 : k.format.binade * (2 ^ 2 * 2 ^ w) = 2 * (2 * k.format.binade * 2 ^ w) := by grind
        rw [e2] at this
        omega
    have z1 : 2 * (c * 2 ^ w) * n ≤ A + 2 ^ w * n := by
      have := Nat.mul_le_mul_right n y1
      rw [Nat.add_mul] at this
      have : Q * n ≤ A := by rw [Nat.mul_comm]; omega
      omega
    have z2 : A ≤ 2 * (c * 2 ^ w) * n + 2 ^ w * n := by
      rcases hst1 with ⟨a, b⟩ | ⟨a, b⟩
      · have := Nat.mul_le_mul_right n (y2.1 a)
        rw [Nat.add_mul] at this
        have : Q * n = A := by rw [Nat.mul_comm]; omega
        omega
      · have := Nat.mul_le_mul_right n (y2.2 a)
        rw [Nat.add_mul, Nat.add_mul] at this
        have : A ≤ Q * n + 1 * n := by rw [Nat.mul_comm Q]; omega
        omega
    -- as rationals
    generalize k.format.nearest false (X * 2 ^ (i + lpN k)) (k.format.leastPlace - ((j + more + 1 : Nat) : Int)) = r' at *
    have vR : (valR k.format r' : Rat) * ((2 ^ (j + more + 1) : Nat) : Rat) = (c : Rat) * ((2 ^ d : Nat) : Rat) := by exact_mod_cast v1
    have hdR : ((2 ^ d : Nat) : Rat) = ((2 ^ i : Nat) : Rat) * ((2 ^ lpN k : Nat) : Rat) * (4 * ((2 ^ w : Nat) : Rat)) := by
      rw [hd4, Nat.pow_add]; push_cast; grind
    have hPe : ((2 ^ (j + more + 1) : Nat) : Rat) = ((2 ^ j : Nat) : Rat) * ((2 ^ more : Nat) : Rat) * 2 := by
      have : (2 : Nat) ^ (j + more + 1) = 2 ^ j * 2 ^ more * 2 := by rw [Nat.pow_succ, Nat.pow_add]
      rw [this]; push_cast; rfl
    have hut := uU_two k
    have z1R : 2 * ((c : Rat) * ((2 ^ w : Nat) : Rat)) * n ≤ A + ((2 ^ w : Nat) : Rat) * n := by exact_mod_cast z1
    have z2R : (A : Rat) ≤ 2 * ((c : Rat) * ((2 ^ w : Nat) : Rat)) * n + ((2 ^ w : Nat) : Rat) * n := by exact_mod_cast z2
    have y3R : ((2 ^ d : Nat) : Rat) = ((2 ^ (j + more + 1) : Nat) : Rat) ∨ 2 * (k.format.binade : Rat) * ((2 ^ w : Nat) : Rat) * n ≤ A := by
      rcases y3 with h | h
      · left; rw [h]
      · right
        have h5 := Nat.mul_le_mul_right n h
        have : Q * n ≤ A := by rw [Nat.mul_comm]; omega
        exact_mod_cast Nat.le_trans h5 this
    have hGw : (0 : Rat) < ((2 ^ w : Nat) : Rat) := by exact_mod_cast Nat.two_pow_pos w
    have hehB := eh_B k
    rw [hdR, hPe] at vR y3R
    unfold rvR
    generalize ((2 ^ w : Nat) : Rat) = G at *
    generalize ((2 ^ i : Nat) : Rat) = I at *
    generalize ((2 ^ j : Nat) : Rat) = J at *
    generalize ((2 ^ more : Nat) : Rat) = W at *
    generalize ((2 ^ lpN k : Nat) : Rat) = L at *
    generalize (valR k.format r' : Rat) = v at *
    generalize (k.format.binade : Rat) = B at *
    generalize uU k = U at *
    generalize eh k = E at *
    generalize (n : Rat) = n at *
    generalize (A : Rat) = A at *
    generalize (c : Rat) = c at *
    generalize (m : Rat) = m at *
    have hD : (0 : Rat) < n * J * W * 2 := Rat.mul_pos (Rat.mul_pos (Rat.mul_pos hnR hJ) hW) (by decide)
    have f1 : v * U * (n * J * W * 2) = 4 * G * c * n * I := by
      have : v * U * (n * J * W * 2) = (v * (J * W * 2)) * U * n := by grind
      rw [this, vR]
      have : c * (I * L * (4 * G)) * U * n = c * (I * (4 * G)) * n * (L * U) := by grind
      rw [this, hut]; grind
    have f2 : z * (n * J * W * 2) = 2 * A * I := by
      have : z * (n * J * W * 2) = (z * (n * J)) * W * 2 := by grind
      rw [this, hzz, hAR]; grind
    have f3 : 2 * G * n * I ≤ E * (2 * A * I) + U * (n * J * W * 2) := by
      have hA0 : 0 ≤ 2 * A * I := by
        rw [← f2]; exact Rat.mul_nonneg (hz0 z hz) (Rat.le_of_lt hD)
      have hp := Rat.mul_nonneg (Rat.le_of_lt hE) hA0
      have hq := Rat.le_of_lt (Rat.mul_pos hU hD)
      have hGnI := Rat.mul_pos (Rat.mul_pos hGw hnR) hI
      rcases y3R with h | h
      · have : U * (n * J * W * 2) = 4 * G * n * I := by
          have : U * (n * J * W * 2) = U * n * (J * W * 2) := by grind
          rw [this, ← h]
          have : U * n * (I * L * (4 * G)) = n * I * 4 * G * (L * U) := by grind
          rw [this, hut]; grind
        grind
      · have h7 := Rat.mul_le_mul_of_nonneg_right h (Rat.le_of_lt (Rat.mul_pos hE hI))
        have : 2 * B * G * n * (E * I) = (2 * B * E) * (G * n * I) := by grind
        rw [this, hehB] at h7
        grind
    have z1I := Rat.mul_le_mul_of_nonneg_right z1R (Rat.le_of_lt hI)
    have z2I := Rat.mul_le_mul_of_nonneg_right z2R (Rat.le_of_lt hI)
    constructor
    · refine Rat.le_of_mul_le_mul_right ?_ hD
      have : (z + E * z + U) * (n * J * W * 2) = z * (n * J * W * 2) + E * (z * (n * J * W * 2)) + U * (n * J * W * 2) := by grind
      rw [this, f1, f2]
      grind
    · refine Rat.le_of_mul_le_mul_right ?_ hD
      have : (v * U + E * z + U) * (n * J * W * 2) = v * U * (n * J * W * 2) + E * (z * (n * J * W * 2)) + U * (n * J * W * 2) := by grind
      rw [this, f1, f2]
      grind
/-- a quotient, within half a unit -/
theorem quo_half {k : FloatKind} {a b : Nat} {z : Rat} (ha : Fnt k a) (hb : Fnt k b) (hb0 : rv k b ≠ 0) (hz : z * rv k b = rv k a) : HfS k (uU k) z (fop .quo k a b) := by
  obtain ⟨s, r, rfl, hr, hv⟩ := ha.ex
  obtain ⟨t, q, rfl, hq, hw⟩ := hb.ex
  have hq0 : q ≠ 0 := by
    rintro rfl
    have hzz : rvR k 0 = 0 := by unfold rvR; rw [valR_zero]; simp
    rw [hw, hzz] at hb0; cases t <;> simp at hb0
  obtain ⟨r', e1, e2, e3⟩ := quo_halfN hr hq hq0 s t
  rw [e1]
  rw [hv, hw] at hz
  have h6 := e3 (if s ^^ t then -z else z) (by cases s <;> cases t <;> simp at hz ⊢ <;> grind)
  have h7 := hfS_of (s := s ^^ t) h6.1 h6.2 e2
  have e : (if (s ^^ t) = true then -(if (s ^^ t) = true then -z else z) else (if (s ^^ t) = true then -z else z)) = z := by
    cases (s ^^ t) <;> simp
  rw [e] at h7
  exact h7

end Go.Proofs.Ytpdnjcblkjjegaa

set_option linter.unusedVariables false
set_option maxRecDepth 20000
namespace Go.Proofs.Ytpdnjcblkjjegaa
open Go.Aw
def ty : Ty := [
  (30, ⟨.f .f32, 1, 4, .float .f32 0⟩),
  (3, ⟨.i .i64, 1, 8, .int .i64 0⟩),
  (2, ⟨.i .i64, 1, 8, .int .i64 0⟩),
  (4, ⟨.b, 1, 1, .bool false⟩),
  (24, ⟨.sl 30, 1, 24, .slice none 0 0⟩),
  (42, ⟨.f .f64, 1, 8, .float .f64 0⟩),
  (5, ⟨.i .u8, 1, 1, .int .u8 0⟩),
  (21, ⟨.i .i32, 1, 4, .int .i32 0⟩),
  (22, ⟨.sl 5, 1, 24, .slice none 0 0⟩),
  (25, ⟨.st [(0, 1), (1, 1), (2, 1), (3, 1)], 4, 96, .agg #[.slice none 0 0, .slice none 0 0, .slice none 0 0, .slice none 0 0]⟩),
  (26, ⟨.st [(0, 1), (1, 1), (2, 1), (3, 1)], 4, 96, .agg #[.slice none 0 0, .slice none 0 0, .slice none 0 0, .slice none 0 0]⟩),
  (33, ⟨.sl 2, 1, 24, .slice none 0 0⟩),
  (38, ⟨.sl 24, 1, 24, .slice none 0 0⟩),
  (51, ⟨.ptr 89, 1, 8, .pointer none⟩),
  (56, ⟨.ptr 26, 1, 8, .pointer none⟩),
  (64, ⟨.sl 65, 1, 24, .slice none 0 0⟩),
  (65, ⟨.sl 3, 1, 24, .slice none 0 0⟩),
  (87, ⟨.i .u64, 1, 8, .int .u64 0⟩),
  (88, ⟨.st [(0, 1), (1, 1), (2, 1)], 3, 40, .agg #[.slice none 0 0, .int .i64 0, .int .u64 0]⟩),
  (89, ⟨.st [(0, 1), (1, 1), (2, 1)], 3, 40, .agg #[.slice none 0 0, .int .i64 0, .int .u64 0]⟩),
  (111, ⟨.i .u32, 1, 4, .int .u32 0⟩),
  (118, ⟨.i .u64, 1, 8, .int .u64 0⟩),
  (137, ⟨.ptr 5, 1, 8, .pointer none⟩)]
theorem tyOk : TyOk Try.prog ty :=
  ⟨⟨by kernel_rfl, by kernel_rfl⟩, ⟨⟨by kernel_rfl, by kernel_rfl⟩, ⟨⟨by kernel_rfl, by kernel_rfl⟩, ⟨⟨by kernel_rfl, by kernel_rfl⟩, ⟨⟨by kernel_rfl, by kernel_rfl⟩, ⟨⟨by kernel_rfl, by kernel_rfl⟩, ⟨⟨by kernel_rfl, by kernel_rfl⟩, ⟨⟨by kernel_rfl, by kernel_rfl⟩, ⟨⟨by kernel_rfl, by kernel_rfl⟩, ⟨⟨by kernel_rfl, by kernel_rfl⟩, ⟨⟨by kernel_rfl, by kernel_rfl⟩, ⟨⟨by kernel_rfl, by kernel_rfl⟩, ⟨⟨by kernel_rfl, by kernel_rfl⟩, ⟨⟨by kernel_rfl, by kernel_rfl⟩, ⟨⟨by kernel_rfl, by kernel_rfl⟩, ⟨⟨by kernel_rfl, by kernel_rfl⟩, ⟨⟨by kernel_rfl, by kernel_rfl⟩, ⟨⟨by kernel_rfl, by kernel_rfl⟩, ⟨⟨by kernel_rfl, by kernel_rfl⟩, ⟨⟨by kernel_rfl, by kernel_rfl⟩, ⟨⟨by kernel_rfl, by kernel_rfl⟩, ⟨⟨by kernel_rfl, by kernel_rfl⟩, ⟨⟨by kernel_rfl, by kernel_rfl⟩, trivial⟩⟩⟩⟩⟩⟩⟩⟩⟩⟩⟩⟩⟩⟩⟩⟩⟩⟩⟩⟩⟩⟩⟩

end Go.Proofs.Ytpdnjcblkjjegaa

