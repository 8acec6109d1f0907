/- How great the results of operations on 64-bit numbers are, by powers of two. -/
import Derived.Test.YtmnihodamdldeaaAwSqrt
set_option linter.unusedVariables false
namespace Go.Aw

/-- less than 2 to the power of E - 1023 -/
def Lt64 (c E : Nat) : Prop := c % 9223372036854775808 < E * 4503599627370496
theorem Lt64.mono {c E E' : Nat} (h : Lt64 c E) (hE : E ≤ E') : Lt64 c E' := Nat.lt_of_lt_of_le h (Nat.mul_le_mul_right _ hE)
theorem Lt64.notnan {c E : Nat} (h : Lt64 c E) (hE : E ≤ 2047) : isNan .f64 c = false := by
  unfold Lt64 at h
  rw [isNan_rung, sw64, inf64]; exact decide_eq_false (by omega)
theorem Lt64.read {c E : Nat} (h : Lt64 c E) (hE : E ≤ 2047) : ∃ (s : Bool) (m : Nat) (i : Int), FloatKind.f64.format.read c = .number s m i ∧ (m ≠ 0 → (m.log2 : Int) + i ≤ (E : Int) - 1024) := by
  unfold Lt64 at h
  unfold Ieee.Format.read
  dsimp only
  rw [sw64, bin64, inf64, lp64]
  by_cases h1 : c % 9223372036854775808 < 4503599627370496
  · rw [if_pos h1]
    refine ⟨_, _, _, rfl, fun h0 => ?_⟩
    have : (c % 9223372036854775808).log2 < 52 := (Nat.log2_lt h0).2 (by omega)
    omega
  · rw [if_neg h1, if_pos (by omega)]
    refine ⟨_, _, _, rfl, fun h0 => ?_⟩
    have : (4503599627370496 + c % 9223372036854775808 % 4503599627370496).log2 < 53 := (Nat.log2_lt h0).2 (by omega)
    omega
theorem near_Lt {s : Bool} {m : Nat} {e K : Int} (h : m ≠ 0 → (m.log2 : Int) + e ≤ K) (hK : -1022 ≤ K) (hK2 : K ≤ 1021) : Lt64 (canon .f64 (FloatKind.f64.format.nearest s m e)) (K + 1025).toNat := by
  have hcan : ∀ r, r ≤ 2045 * 4503599627370496 → (canon .f64 (FloatKind.f64.format.word s r)) % 9223372036854775808 = r := fun r hr => by
    have h1 := word_rung64 s (r := r) (by omega)
    rw [canon_not (by rw [isNan_rung, sw64, inf64, h1]; exact decide_eq_false (by omega))]
    exact h1
  unfold Lt64
  by_cases hm : m = 0
  · have : FloatKind.f64.format.nearest s m e = FloatKind.f64.format.word s 0 := by rw [hm]; simp [Ieee.Format.nearest]
    rw [this, hcan 0 (by omega)]; omega
  · obtain ⟨r, h1, _, h2⟩ := nearest_E FloatKind.f64.format s m e K hm (by have := h hm; omega) (by rw [lp64, fb64]; omega)
    rw [lp64, fb64, bin64] at h1
    have e1 : (K - ((52 : Nat) : Int) - -1074).toNat + 2 = (K + 1024).toNat := by omega
    rw [e1] at h1
    have hr' : r ≤ 2045 * 4503599627370496 := by
      have : (K + 1024).toNat ≤ 2045 := by omega
      exact Nat.le_trans h1 (Nat.mul_le_mul_right _ this)
    have h3 := hcan r hr'
    rw [← h2] at h3
    rw [h3]
    have : (K + 1025).toNat = (K + 1024).toNat + 1 := by omega
    rw [this, Nat.add_mul]; exact Nat.lt_of_le_of_lt h1 (by omega)
theorem fop_near {op : BinOp} {a b : Nat} {s : Bool} {m : Nat} {e : Int} (h : floatBits op .f64 a b = some (FloatKind.f64.format.nearest s m e)) : fop op .f64 a b = canon .f64 (FloatKind.f64.format.nearest s m e) := by
  unfold fop; rw [h]

theorem log2_mul_le {m n : Nat} (hm : m ≠ 0) (hn : n ≠ 0) : (m * n).log2 ≤ m.log2 + n.log2 + 1 := by
  have h1 : m < 2 ^ (m.log2 + 1) := Nat.lt_log2_self
  have h2 : n < 2 ^ (n.log2 + 1) := Nat.lt_log2_self
  have h3 : m * n < 2 ^ (m.log2 + n.log2 + 2) := by
    calc m * n < 2 ^ (m.log2 + 1) * 2 ^ (n.log2 + 1) := Nat.mul_lt_mul'' h1 h2
      _ = 2 ^ (m.log2 + n.log2 + 2) := by rw [← Nat.pow_add]; congr 1; omega
  have := (Nat.log2_lt (Nat.mul_ne_zero hm hn)).2 h3
  omega
theorem mul_Lt {a b Ea Eb : Nat} (ha : Lt64 a Ea) (hb : Lt64 b Eb) (h1 : Ea ≤ 2047) (h2 : Eb ≤ 2047) (h3 : 1025 ≤ Ea + Eb) (h4 : Ea + Eb ≤ 3068) : Lt64 (fop .mul .f64 a b) (Ea + Eb - 1022) := by
  obtain ⟨s, m, i, hr, hm⟩ := ha.read h1
  obtain ⟨t, n, j, hs, hn⟩ := hb.read h2
  have hf : floatBits .mul .f64 a b = some (FloatKind.f64.format.nearest (s ^^ t) (m * n) (i + j)) := by
    unfold floatBits; simp only []; unfold Ieee.Format.mul
    rw [hr, hs]; rfl
  rw [fop_near hf]
  have := near_Lt (s := (s ^^ t)) (m := m * n) (e := i + j) (K := (Ea : Int) + Eb - 2047) (fun h0 => by
    have hm0 : m ≠ 0 := fun h => h0 (by simp [h])
    have hn0 : n ≠ 0 := fun h => h0 (by simp [h])
    have := log2_mul_le hm0 hn0
    have := hm hm0
    have := hn hn0
    omega) (by omega) (by omega)
  have e : ((Ea : Int) + Eb - 2047 + 1025).toNat = Ea + Eb - 1022 := by omega
  rwa [e] at this

theorem pow_le_of {m : Nat} {i base M : Int} (hm : m ≠ 0) (h : (m.log2 : Int) + i ≤ M) (hb : base ≤ i) : m * 2 ^ (i - base).toNat < 2 ^ (M + 1 - base).toNat := by
  have h1 : m < 2 ^ (m.log2 + 1) := Nat.lt_log2_self
  calc m * 2 ^ (i - base).toNat < 2 ^ (m.log2 + 1) * 2 ^ (i - base).toNat := Nat.mul_lt_mul_of_pos_right h1 (Nat.two_pow_pos _)
    _ = 2 ^ (m.log2 + 1 + (i - base).toNat) := (Nat.pow_add ..).symm
    _ ≤ 2 ^ (M + 1 - base).toNat := Nat.pow_le_pow_right (by decide) (by omega)
theorem sum_Lt {s t : Bool} {m n : Nat} {i j : Int} {E : Nat} (hm : m ≠ 0 → (m.log2 : Int) + i ≤ (E : Int) - 1024) (hn : n ≠ 0 → (n.log2 : Int) + j ≤ (E : Int) - 1024) (h1 : 1 ≤ E) (h2 : E ≤ 2044) {r : Nat}
    (hr : ((Ieee.Datum.number s m i).sum (.number t n j)).map FloatKind.f64.format.write = some r) : Lt64 (canon .f64 r) (E + 2) := by
  unfold Ieee.Datum.sum at hr
  simp only [Option.map_some, Option.some.injEq, Ieee.Format.write] at hr
  rw [← hr, signed_eq, signed_eq]
  have := near_Lt (s := if sg1 s (m * 2 ^ (i - min i j).toNat) + sg1 t (n * 2 ^ (j - min i j).toNat) = 0 then s && t else decide (sg1 s (m * 2 ^ (i - min i j).toNat) + sg1 t (n * 2 ^ (j - min i j).toNat) < 0))
    (m := (sg1 s (m * 2 ^ (i - min i j).toNat) + sg1 t (n * 2 ^ (j - min i j).toNat)).natAbs) (e := min i j) (K := (E : Int) - 1023) (fun h0 => by
    generalize hM : ((E : Int) - 1024 + 1 - min i j).toNat = M
    have hp := Nat.two_pow_pos M
    have g1 : m * 2 ^ (i - min i j).toNat < 2 ^ M := by
      by_cases hm0 : m = 0
      · rw [hm0, Nat.zero_mul]; exact hp
      · rw [← hM]; exact pow_le_of hm0 (hm hm0) (Int.min_le_left _ _)
    have g2 : n * 2 ^ (j - min i j).toNat < 2 ^ M := by
      by_cases hn0 : n = 0
      · rw [hn0, Nat.zero_mul]; exact hp
      · rw [← hM]; exact pow_le_of hn0 (hn hn0) (Int.min_le_right _ _)
    have hbase : min i j ≤ (E : Int) - 1024 := by
      rcases Nat.eq_zero_or_pos m with hm0 | hm0
      · rcases Nat.eq_zero_or_pos n with hn0 | hn0
        · exfalso; apply h0; rw [hm0, hn0]; simp [sg1]
        · have := hn (by omega); omega
      · have := hm (by omega); omega
    have g3 : (sg1 s (m * 2 ^ (i - min i j).toNat) + sg1 t (n * 2 ^ (j - min i j).toNat)).natAbs < 2 ^ (M + 1) := by
      rw [Nat.pow_succ]
      generalize m * 2 ^ (i - min i j).toNat = x at *
      generalize n * 2 ^ (j - min i j).toNat = y at *
      generalize 2 ^ M = z at *
      unfold sg1; cases s <;> cases t <;> simp only [Bool.false_eq_true, if_false, if_true] <;> omega
    have := (Nat.log2_lt h0).2 g3
    omega) (by omega) (by omega)
  have e : ((E : Int) - 1023 + 1025).toNat = E + 2 := by omega
  rwa [e] at this
theorem add_Lt {a b E : Nat} (ha : Lt64 a E) (hb : Lt64 b E) (h1 : 1 ≤ E) (h2 : E ≤ 2044) : Lt64 (fop .add .f64 a b) (E + 2) := by
  obtain ⟨s, m, i, hr, hm⟩ := ha.read (by omega)
  obtain ⟨t, n, j, hs, hn⟩ := hb.read (by omega)
  have hf : floatBits .add .f64 a b = ((Ieee.Datum.number s m i).sum (.number t n j)).map FloatKind.f64.format.write := by
    unfold floatBits; simp only []; unfold Ieee.Format.add
    rw [hr, hs]
  cases hc : ((Ieee.Datum.number s m i).sum (.number t n j)).map FloatKind.f64.format.write with
  | none => simp [Ieee.Datum.sum] at hc
  | some r =>
    have := sum_Lt hm hn h1 h2 hc
    unfold fop; rw [hf, hc]; exact this
theorem sub_Lt {a b E : Nat} (ha : Lt64 a E) (hb : Lt64 b E) (h1 : 1 ≤ E) (h2 : E ≤ 2044) : Lt64 (fop .sub .f64 a b) (E + 2) := by
  obtain ⟨s, m, i, hr, hm⟩ := ha.read (by omega)
  obtain ⟨t, n, j, hs, hn⟩ := hb.read (by omega)
  have hf : floatBits .sub .f64 a b = ((Ieee.Datum.number s m i).sum (.number (!t) n j)).map FloatKind.f64.format.write := by
    unfold floatBits; simp only []; unfold Ieee.Format.sub
    rw [hr, hs]; rfl
  cases hc : ((Ieee.Datum.number s m i).sum (.number (!t) n j)).map FloatKind.f64.format.write with
  | none => simp [Ieee.Datum.sum] at hc
  | some r =>
    have := sum_Lt hm hn h1 h2 hc
    unfold fop; rw [hf, hc]; exact this

/-- at least 2 to the power of L - 1023 -/
def Ge64 (c L : Nat) : Prop := L * 4503599627370496 ≤ c % 9223372036854775808 ∧ c % 9223372036854775808 < 9218868437227405312
theorem Ge64.read {c L : Nat} (h : Ge64 c L) (hL : 1 ≤ L) : ∃ (s : Bool) (m : Nat) (i : Int), FloatKind.f64.format.read c = .number s m i ∧ m ≠ 0 ∧ (L : Int) - 1023 ≤ (m.log2 : Int) + i := by
  obtain ⟨h1, h2⟩ := h
  unfold Ieee.Format.read
  dsimp only
  rw [sw64, bin64, inf64, lp64]
  rw [if_neg (by omega), if_pos h2]
  refine ⟨_, _, _, rfl, by omega, ?_⟩
  have : 52 ≤ (4503599627370496 + c % 9223372036854775808 % 4503599627370496).log2 := (Nat.le_log2 (by omega)).2 (by omega)
  omega
theorem quo_Lt {a b Ea L : Nat} (ha : Lt64 a Ea) (hb : Ge64 b L) (h1 : Ea ≤ 2047) (h2 : 1 ≤ L) (h3 : L ≤ Ea + 1021) (h4 : Ea ≤ L + 1022) : Lt64 (fop .quo .f64 a b) (Ea + 1024 - L) := by
  obtain ⟨s, m, i, hr, hm⟩ := ha.read h1
  obtain ⟨t, n, j, hs, hn0, hn⟩ := hb.read h2
  have hf : floatBits .quo .f64 a b = some (FloatKind.f64.format.nearest (s ^^ t) (2 * (m <<< (54 + n.log2 - m.log2) / n) + (m <<< (54 + n.log2 - m.log2) % n != 0).toNat) (i - j - ((54 + n.log2 - m.log2 : Nat) : Int) - 1)) := by
    unfold floatBits; simp only []; unfold Ieee.Format.div
    rw [hr, hs]
    unfold Ieee.Datum.quotient
    simp only [if_neg hn0]
    rfl
  rw [fop_near hf]
  have := near_Lt (s := (s ^^ t)) (m := 2 * (m <<< (54 + n.log2 - m.log2) / n) + (m <<< (54 + n.log2 - m.log2) % n != 0).toNat) (e := i - j - ((54 + n.log2 - m.log2 : Nat) : Int) - 1) (K := (Ea : Int) - L - 1) (fun h0 => by
    by_cases hm0 : m = 0
    · exfalso; apply h0; rw [hm0]; simp
    · have hma := hm hm0
      generalize hmo : 54 + n.log2 - m.log2 = more at *
      have hq : m <<< more / n < 2 ^ (m.log2 + 1 + more - n.log2) := by
        rw [Nat.shiftLeft_eq]
        refine Nat.div_lt_of_lt_mul ?_
        have g1 : m < 2 ^ (m.log2 + 1) := Nat.lt_log2_self
        have g2 : 2 ^ n.log2 ≤ n := Nat.log2_self_le hn0
        calc m * 2 ^ more < 2 ^ (m.log2 + 1) * 2 ^ more := Nat.mul_lt_mul_of_pos_right g1 (Nat.two_pow_pos _)
          _ = 2 ^ n.log2 * 2 ^ (m.log2 + 1 + more - n.log2) := by rw [← Nat.pow_add, ← Nat.pow_add]; congr 1; omega
          _ ≤ n * 2 ^ (m.log2 + 1 + more - n.log2) := Nat.mul_le_mul_right _ g2
      have hb1 : (m <<< more % n != 0).toNat ≤ 1 := by cases (m <<< more % n != 0) <;> simp
      have hlt : 2 * (m <<< more / n) + (m <<< more % n != 0).toNat < 2 ^ (m.log2 + 2 + more - n.log2) := by
        have : m.log2 + 2 + more - n.log2 = m.log2 + 1 + more - n.log2 + 1 := by omega
        rw [this, Nat.pow_succ]; omega
      have := (Nat.log2_lt h0).2 hlt
      omega) (by omega) (by omega)
  have e : ((Ea : Int) - L - 1 + 1025).toNat = Ea + 1024 - L := by omega
  rwa [e] at this
end Go.Aw
