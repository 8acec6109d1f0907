/- Bounds of float arithmetic, and from a contract to a given statement. No condition. -/
import Derived.Test.YtpdnjcblkjjegaaVAwC
import Derived.ProofKit
import Derived.Lib.SmallJoins
import Derived.Laws.Cover2
import Derived.Deep.Slices
set_option linter.unusedVariables false
namespace Go.Aw

/-- less than 2 to the power of E - 1023 -/
def Lt64 (c E : Nat) : Prop := c % 9223372036854775808 < E * 4503599627370496
theorem Lt64.mono {c E E' : Nat} (h : Lt64 c E) (hE : E ≤ E') : Lt64 c E' := Nat.lt_of_lt_of_le h (Nat.mul_le_mul_right _ hE)
theorem Lt64.notnan {c E : Nat} (h : Lt64 c E) (hE : E ≤ 2047) : isNan .f64 c = false := by
  unfold Lt64 at h
  rw [isNan_rung, sw64, inf64]; exact decide_eq_false (by omega)
theorem Lt64.read {c E : Nat} (h : Lt64 c E) (hE : E ≤ 2047) : ∃ (s : Bool) (m : Nat) (i : Int), FloatKind.f64.format.read c = .number s m i ∧ (m ≠ 0 → (m.log2 : Int) + i ≤ (E : Int) - 1024) := by
  unfold Lt64 at h
  unfold Ieee.Format.read
  dsimp only
  rw [sw64, bin64, inf64, lp64]
  by_cases h1 : c % 9223372036854775808 < 4503599627370496
  · rw [if_pos h1]
    refine ⟨_, _, _, rfl, fun h0 => ?_⟩
    have : (c % 9223372036854775808).log2 < 52 := (Nat.log2_lt h0).2 (by omega)
    omega
  · rw [if_neg h1, if_pos (by omega)]
    refine ⟨_, _, _, rfl, fun h0 => ?_⟩
    have : (4503599627370496 + c % 9223372036854775808 % 4503599627370496).log2 < 53 := (Nat.log2_lt h0).2 (by omega)
    omega
theorem near_Lt {s : Bool} {m : Nat} {e K : Int} (h : m ≠ 0 → (m.log2 : Int) + e ≤ K) (hK : -1022 ≤ K) (hK2 : K ≤ 1021) : Lt64 (canon .f64 (FloatKind.f64.format.nearest s m e)) (K + 1025).toNat := by
  have hcan : ∀ r, r ≤ 2045 * 4503599627370496 → (canon .f64 (FloatKind.f64.format.word s r)) % 9223372036854775808 = r := fun r hr => by
    have h1 := word_rung64 s (r := r) (by omega)
    rw [canon_not (by rw [isNan_rung, sw64, inf64, h1]; exact decide_eq_false (by omega))]
    exact h1
  unfold Lt64
  by_cases hm : m = 0
  · have : FloatKind.f64.format.nearest s m e = FloatKind.f64.format.word s 0 := by rw [hm]; simp [Ieee.Format.nearest]
    rw [this, hcan 0 (by omega)]; omega
  · obtain ⟨r, h1, _, h2⟩ := nearest_E FloatKind.f64.format s m e K hm (by have := h hm; omega) (by rw [lp64, fb64]; omega)
    rw [lp64, fb64, bin64] at h1
    have e1 : (K - ((52 : Nat) : Int) - -1074).toNat + 2 = (K + 1024).toNat := by omega
    rw [e1] at h1
    have hr' : r ≤ 2045 * 4503599627370496 := by
      have : (K + 1024).toNat ≤ 2045 := by omega
      exact Nat.le_trans h1 (Nat.mul_le_mul_right _ this)
    have h3 := hcan r hr'
    rw [← h2] at h3
    rw [h3]
    have : (K + 1025).toNat = (K + 1024).toNat + 1 := by omega
    rw [this, Nat.add_mul]; exact Nat.lt_of_le_of_lt h1 (by omega)
theorem fop_near {op : BinOp} {a b : Nat} {s : Bool} {m : Nat} {e : Int} (h : floatBits op .f64 a b = some (FloatKind.f64.format.nearest s m e)) : fop op .f64 a b = canon .f64 (FloatKind.f64.format.nearest s m e) := by
  unfold fop; rw [h]

theorem log2_mul_le {m n : Nat} (hm : m ≠ 0) (hn : n ≠ 0) : (m * n).log2 ≤ m.log2 + n.log2 + 1 := by
  have h1 : m < 2 ^ (m.log2 + 1) := Nat.lt_log2_self
  have h2 : n < 2 ^ (n.log2 + 1) := Nat.lt_log2_self
  have h3 : m * n < 2 ^ (m.log2 + n.log2 + 2) := by
    calc m * n < 2 ^ (m.log2 + 1) * 2 ^ (n.log2 + 1) := Nat.mul_lt_mul'' h1 h2
      _ = 2 ^ (m.log2 + n.log2 + 2) := by rw [← Nat.pow_add]; congr 1; omega
  have := (Nat.log2_lt (Nat.mul_ne_zero hm hn)).2 h3
  omega
theorem mul_Lt {a b Ea Eb : Nat} (ha : Lt64 a Ea) (hb : Lt64 b Eb) (h1 : Ea ≤ 2047) (h2 : Eb ≤ 2047) (h3 : 1025 ≤ Ea + Eb) (h4 : Ea + Eb ≤ 3068) : Lt64 (fop .mul .f64 a b) (Ea + Eb - 1022) := by
  obtain ⟨s, m, i, hr, hm⟩ := ha.read h1
  obtain ⟨t, n, j, hs, hn⟩ := hb.read h2
  have hf : floatBits .mul .f64 a b = some (FloatKind.f64.format.nearest (s ^^ t) (m * n) (i + j)) := by
    unfold floatBits; simp only []; unfold Ieee.Format.mul
    rw [hr, hs]; rfl
  rw [fop_near hf]
  have := near_Lt (s := (s ^^ t)) (m := m * n) (e := i + j) (K := (Ea : Int) + Eb - 2047) (fun h0 => by
    have hm0 : m ≠ 0 := fun h => h0 (by simp [h])
    have hn0 : n ≠ 0 := fun h => h0 (by simp [h])
    have := log2_mul_le hm0 hn0
    have := hm hm0
    have := hn hn0
    omega) (by omega) (by omega)
  have e : ((Ea : Int) + Eb - 2047 + 1025).toNat = Ea + Eb - 1022 := by omega
  rwa [e] at this

theorem pow_le_of {m : Nat} {i base M : Int} (hm : m ≠ 0) (h : (m.log2 : Int) + i ≤ M) (hb : base ≤ i) : m * 2 ^ (i - base).toNat < 2 ^ (M + 1 - base).toNat := by
  have h1 : m < 2 ^ (m.log2 + 1) := Nat.lt_log2_self
  calc m * 2 ^ (i - base).toNat < 2 ^ (m.log2 + 1) * 2 ^ (i - base).toNat := Nat.mul_lt_mul_of_pos_right h1 (Nat.two_pow_pos _)
    _ = 2 ^ (m.log2 + 1 + (i - base).toNat) := (Nat.pow_add ..).symm
    _ ≤ 2 ^ (M + 1 - base).toNat := Nat.pow_le_pow_right (by decide) (by omega)
theorem sum_Lt {s t : Bool} {m n : Nat} {i j : Int} {E : Nat} (hm : m ≠ 0 → (m.log2 : Int) + i ≤ (E : Int) - 1024) (hn : n ≠ 0 → (n.log2 : Int) + j ≤ (E : Int) - 1024) (h1 : 1 ≤ E) (h2 : E ≤ 2044) {r : Nat}
    (hr : ((Ieee.Datum.number s m i).sum (.number t n j)).map FloatKind.f64.format.write = some r) : Lt64 (canon .f64 r) (E + 2) := by
  unfold Ieee.Datum.sum at hr
  simp only [Option.map_some, Option.some.injEq, Ieee.Format.write] at hr
  rw [← hr, signed_eq, signed_eq]
  have := near_Lt (s := if sg1 s (m * 2 ^ (i - min i j).toNat) + sg1 t (n * 2 ^ (j - min i j).toNat) = 0 then s && t else decide (sg1 s (m * 2 ^ (i - min i j).toNat) + sg1 t (n * 2 ^ (j - min i j).toNat) < 0))
    (m := (sg1 s (m * 2 ^ (i - min i j).toNat) + sg1 t (n * 2 ^ (j - min i j).toNat)).natAbs) (e := min i j) (K := (E : Int) - 1023) (fun h0 => by
    generalize hM : ((E : Int) - 1024 + 1 - min i j).toNat = M
    have hp := Nat.two_pow_pos M
    have g1 : m * 2 ^ (i - min i j).toNat < 2 ^ M := by
      by_cases hm0 : m = 0
      · rw [hm0, Nat.zero_mul]; exact hp
      · rw [← hM]; exact pow_le_of hm0 (hm hm0) (Int.min_le_left _ _)
    have g2 : n * 2 ^ (j - min i j).toNat < 2 ^ M := by
      by_cases hn0 : n = 0
      · rw [hn0, Nat.zero_mul]; exact hp
      · rw [← hM]; exact pow_le_of hn0 (hn hn0) (Int.min_le_right _ _)
    have hbase : min i j ≤ (E : Int) - 1024 := by
      rcases Nat.eq_zero_or_pos m with hm0 | hm0
      · rcases Nat.eq_zero_or_pos n with hn0 | hn0
        · exfalso; apply h0; rw [hm0, hn0]; simp [sg1]
        · have := hn (by omega); omega
      · have := hm (by omega); omega
    have g3 : (sg1 s (m * 2 ^ (i - min i j).toNat) + sg1 t (n * 2 ^ (j - min i j).toNat)).natAbs < 2 ^ (M + 1) := by
      rw [Nat.pow_succ]
      generalize m * 2 ^ (i - min i j).toNat = x at *
      generalize n * 2 ^ (j - min i j).toNat = y at *
      generalize 2 ^ M = z at *
      unfold sg1; cases s <;> cases t <;> simp only [Bool.false_eq_true, if_false, if_true] <;> omega
    have := (Nat.log2_lt h0).2 g3
    omega) (by omega) (by omega)
  have e : ((E : Int) - 1023 + 1025).toNat = E + 2 := by omega
  rwa [e] at this
theorem add_Lt {a b E : Nat} (ha : Lt64 a E) (hb : Lt64 b E) (h1 : 1 ≤ E) (h2 : E ≤ 2044) : Lt64 (fop .add .f64 a b) (E + 2) := by
  obtain ⟨s, m, i, hr, hm⟩ := ha.read (by omega)
  obtain ⟨t, n, j, hs, hn⟩ := hb.read (by omega)
  have hf : floatBits .add .f64 a b = ((Ieee.Datum.number s m i).sum (.number t n j)).map FloatKind.f64.format.write := by
    unfold floatBits; simp only []; unfold Ieee.Format.add
    rw [hr, hs]
  cases hc : ((Ieee.Datum.number s m i).sum (.number t n j)).map FloatKind.f64.format.write with
  | none => simp [Ieee.Datum.sum] at hc
  | some r =>
    have := sum_Lt hm hn h1 h2 hc
    unfold fop; rw [hf, hc]; exact this
/-- at least 2 to the power of L - 1023 -/
def Ge64 (c L : Nat) : Prop := L * 4503599627370496 ≤ c % 9223372036854775808 ∧ c % 9223372036854775808 < 9218868437227405312
theorem Ge64.read {c L : Nat} (h : Ge64 c L) (hL : 1 ≤ L) : ∃ (s : Bool) (m : Nat) (i : Int), FloatKind.f64.format.read c = .number s m i ∧ m ≠ 0 ∧ (L : Int) - 1023 ≤ (m.log2 : Int) + i := by
  obtain ⟨h1, h2⟩ := h
  unfold Ieee.Format.read
  dsimp only
  rw [sw64, bin64, inf64, lp64]
  rw [if_neg (by omega), if_pos h2]
  refine ⟨_, _, _, rfl, by omega, ?_⟩
  have : 52 ≤ (4503599627370496 + c % 9223372036854775808 % 4503599627370496).log2 := (Nat.le_log2 (by omega)).2 (by omega)
  omega
theorem quo_Lt {a b Ea L : Nat} (ha : Lt64 a Ea) (hb : Ge64 b L) (h1 : Ea ≤ 2047) (h2 : 1 ≤ L) (h3 : L ≤ Ea + 1021) (h4 : Ea ≤ L + 1022) : Lt64 (fop .quo .f64 a b) (Ea + 1024 - L) := by
  obtain ⟨s, m, i, hr, hm⟩ := ha.read h1
  obtain ⟨t, n, j, hs, hn0, hn⟩ := hb.read h2
  have hf : floatBits .quo .f64 a b = some (FloatKind.f64.format.nearest (s ^^ t) (2 * (m <<< (54 + n.log2 - m.log2) / n) + (m <<< (54 + n.log2 - m.log2) % n != 0).toNat) (i - j - ((54 + n.log2 - m.log2 : Nat) : Int) - 1)) := by
    unfold floatBits; simp only []; unfold Ieee.Format.div
    rw [hr, hs]
    unfold Ieee.Datum.quotient
    simp only [if_neg hn0]
    rfl
  rw [fop_near hf]
  have := near_Lt (s := (s ^^ t)) (m := 2 * (m <<< (54 + n.log2 - m.log2) / n) + (m <<< (54 + n.log2 - m.log2) % n != 0).toNat) (e := i - j - ((54 + n.log2 - m.log2 : Nat) : Int) - 1) (K := (Ea : Int) - L - 1) (fun h0 => by
    by_cases hm0 : m = 0
    · exfalso; apply h0; rw [hm0]; simp
    · have hma := hm hm0
      generalize hmo : 54 + n.log2 - m.log2 = more at *
      have hq : m <<< more / n < 2 ^ (m.log2 + 1 + more - n.log2) := by
        rw [Nat.shiftLeft_eq]
        refine Nat.div_lt_of_lt_mul ?_
        have g1 : m < 2 ^ (m.log2 + 1) := Nat.lt_log2_self
        have g2 : 2 ^ n.log2 ≤ n := Nat.log2_self_le hn0
        calc m * 2 ^ more < 2 ^ (m.log2 + 1) * 2 ^ more := Nat.mul_lt_mul_of_pos_right g1 (Nat.two_pow_pos _)
          _ = 2 ^ n.log2 * 2 ^ (m.log2 + 1 + more - n.log2) := by rw [← Nat.pow_add, ← Nat.pow_add]; congr 1; omega
          _ ≤ n * 2 ^ (m.log2 + 1 + more - n.log2) := Nat.mul_le_mul_right _ g2
      have hb1 : (m <<< more % n != 0).toNat ≤ 1 := by cases (m <<< more % n != 0) <;> simp
      have hlt : 2 * (m <<< more / n) + (m <<< more % n != 0).toNat < 2 ^ (m.log2 + 2 + more - n.log2) := by
        have : m.log2 + 2 + more - n.log2 = m.log2 + 1 + more - n.log2 + 1 := by omega
        rw [this, Nat.pow_succ]; omega
      have := (Nat.log2_lt h0).2 hlt
      omega) (by omega) (by omega)
  have e : ((Ea : Int) - L - 1 + 1025).toNat = Ea + 1024 - L := by omega
  rwa [e] at this
end Go.Aw

set_option linter.unusedVariables false
set_option maxRecDepth 20000
namespace Go.Aw

theorem cut_ge (s : Bool) (n d : Nat) : n / 2 ^ d ≤ Ieee.Toward.even.cut s n d := by
  unfold Ieee.Toward.cut
  simp only [Nat.shiftLeft_eq, Nat.one_mul]
  refine Nat.le_trans ?_ (Nat.le_add_right _ _)
  exact Nat.div_le_div_left (Nat.pow_le_pow_right (by decide) (Nat.min_le_left _ _)) (Nat.two_pow_pos _)
/-- the rung of the nearest word is not small -/
theorem nearest_G (f : Ieee.Format) (s : Bool) (m : Nat) (e E : Int) (hm : m ≠ 0) (hE : E ≤ e + (m.log2 : Int)) (hlp : f.leastPlace ≤ E - (f.fractionBits : Int)) :
    ∃ r, min (((E - (f.fractionBits : Int) - f.leastPlace).toNat + 1) * f.binade) f.infRung ≤ r ∧ r ≤ f.infRung ∧ f.nearest s m e = f.word s r := by
  unfold Ieee.Format.nearest
  simp only [if_neg hm]
  refine ⟨_, ?_, Nat.min_le_right _ _, rfl⟩
  have hB : f.binade = 2 ^ f.fractionBits := rfl
  generalize hla : max (e + (m.log2 : Int) - (f.fractionBits : Int)) f.leastPlace = last
  have hl : last = e + (m.log2 : Int) - (f.fractionBits : Int) := by omega
  have hkept : f.binade ≤ Ieee.Toward.even.cut s (m <<< (e - last).toNat) (last - e).toNat := by
    refine Nat.le_trans ?_ (cut_ge _ _ _)
    rw [Nat.le_div_iff_mul_le (Nat.two_pow_pos _), Nat.shiftLeft_eq, hB, ← Nat.pow_add]
    calc 2 ^ (f.fractionBits + (last - e).toNat) ≤ 2 ^ (m.log2 + (e - last).toNat) := Nat.pow_le_pow_right (by decide) (by omega)
      _ = 2 ^ m.log2 * 2 ^ (e - last).toNat := Nat.pow_add ..
      _ ≤ m * 2 ^ (e - last).toNat := Nat.mul_le_mul_right _ (Nat.log2_self_le hm)
  have h2 : (E - (f.fractionBits : Int) - f.leastPlace).toNat * f.binade ≤ (last - f.leastPlace).toNat * f.binade := Nat.mul_le_mul_right _ (by omega)
  rw [Nat.add_mul]
  omega

theorem word_f (f : Ieee.Format) (r : Nat) : f.word false r = r := rfl
theorem read_pos {c : Nat} (h1 : 4503599627370496 ≤ c) (h2 : c < 9218868437227405312) :
    FloatKind.f64.format.read c = .number false (4503599627370496 + c % 4503599627370496) (-1074 + ((c / 4503599627370496 - 1 : Nat) : Int)) := by
  have e1 : c % 9223372036854775808 = c := Nat.mod_eq_of_lt (by omega)
  have e2 : c / 9223372036854775808 = 0 := Nat.div_eq_of_lt (by omega)
  unfold Ieee.Format.read
  dsimp only
  rw [sw64, bin64, inf64, lp64, e1, e2, if_neg (by omega), if_pos h2]
  rfl
theorem nearest_pos {c : Nat} (h1 : 4503599627370496 ≤ c) (h2 : c < 9218868437227405312) :
    FloatKind.f64.format.nearest false (4503599627370496 + c % 4503599627370496) (-1074 + ((c / 4503599627370496 - 1 : Nat) : Int)) = c := by
  have := (nearest_read FloatKind.f64.format (fmt_sum .f64) false c (by rw [inf64]; exact h2)).2 (by rw [bin64]; exact h1)
  rw [bin64, lp64, word_f] at this
  exact this
theorem pos_notnan {c : Nat} (h2 : c < 9218868437227405312) : isNan .f64 c = false := by
  rw [isNan_rung, sw64, inf64]; exact decide_eq_false (by omega)
theorem half64 {c : Nat} (h1 : 9007199254740992 ≤ c) (h2 : c < 9218868437227405312) : fop .quo .f64 c 4611686018427387904 = c - 4503599627370496 := by
  have hf : floatBits .quo .f64 c 4611686018427387904 = some (c - 4503599627370496) := by
    unfold floatBits
    simp only []
    unfold Ieee.Format.div
    rw [read_pos (by omega) h2, read_two64]
    have hd : 4503599627370496 + c % 4503599627370496 ≠ 0 → (4503599627370496 + c % 4503599627370496).log2 ≤ FloatKind.f64.format.fractionBits + 2 := fun h0 => by
      have : (4503599627370496 + c % 4503599627370496).log2 < 53 := (Nat.log2_lt h0).2 (by omega)
      rw [fb64]; omega
    have h := quot_pow (f := FloatKind.f64.format) (s := false) (i := -1074 + ((c / 4503599627370496 - 1 : Nat) : Int)) (j := -51) (p := 52) hd
    have e : (2 : Nat) ^ 52 = 4503599627370496 := by decide
    rw [e] at h
    rw [h]
    have h3 := nearest_pos (c := c - 4503599627370496) (by omega) (by omega)
    have e1 : (c - 4503599627370496) % 4503599627370496 = c % 4503599627370496 := by omega
    have e2 : (-1074 : Int) + (((c - 4503599627370496) / 4503599627370496 - 1 : Nat) : Int) = -1074 + ((c / 4503599627370496 - 1 : Nat) : Int) - (-51) - ((52 : Nat) : Int) := by omega
    rw [e1, e2] at h3
    rw [h3]
  unfold fop
  rw [hf]
  exact canon_not (pos_notnan (by omega))
theorem double64 {c : Nat} (h1 : 4503599627370496 ≤ c) (h2 : c < 9214364837600034816) : fop .mul .f64 c 4611686018427387904 = c + 4503599627370496 := by
  have hf : floatBits .mul .f64 c 4611686018427387904 = some (c + 4503599627370496) := by
    unfold floatBits
    simp only []
    unfold Ieee.Format.mul
    rw [read_pos h1 (by omega), read_two64]
    simp only [Ieee.Datum.product, Option.map_some, Ieee.Format.write, Bool.false_xor, Option.some.injEq]
    have e : (2 : Nat) ^ 52 = 4503599627370496 := by decide
    have h3 := nearest_scale FloatKind.f64.format false (4503599627370496 + c % 4503599627370496) 52 (-1074 + ((c / 4503599627370496 : Nat) : Int))
    rw [e] at h3
    have e1 : (-1074 : Int) + ((c / 4503599627370496 - 1 : Nat) : Int) + -51 = -1074 + ((c / 4503599627370496 : Nat) : Int) - ((52 : Nat) : Int) := by omega
    rw [e1, h3]
    have h4 := nearest_pos (c := c + 4503599627370496) (by omega) (by omega)
    have e2 : (c + 4503599627370496) % 4503599627370496 = c % 4503599627370496 := by omega
    have e3 : (c + 4503599627370496) / 4503599627370496 - 1 = c / 4503599627370496 := by omega
    rw [e2, e3] at h4
    exact h4
  unfold fop
  rw [hf]
  exact canon_not (pos_notnan (by omega))
theorem sv_pos {c : Nat} (h : c < 9218868437227405312) : sv .f64 c = (c : Int) := by
  unfold sv
  rw [sw64]
  have e1 : c % 9223372036854775808 = c := Nat.mod_eq_of_lt (by omega)
  have e2 : c / 9223372036854775808 = 0 := Nat.div_eq_of_lt (by omega)
  rw [e1, e2]; rfl
theorem ord_pos {a b : Nat} (ha : a < 9218868437227405312) (hb : b < 9218868437227405312) : FloatKind.f64.format.order a b = some (compare (a : Int) (b : Int)) := by
  rw [order_sv .f64 (pos_notnan ha) (pos_notnan hb), sv_pos ha, sv_pos hb]
theorem geq_pos {a b : Nat} (ha : a < 9218868437227405312) (hb : b < 9218868437227405312) : fcmp .geq .f64 a b = decide (b ≤ a) := by
  unfold fcmp
  simp only []
  rw [ord_pos ha hb]
  rcases Int.lt_trichotomy (a : Int) (b : Int) with h | h | h
  · rw [cmp_lt h, decide_eq_false (by omega)]; rfl
  · rw [cmp_eq h, decide_eq_true (by omega)]; rfl
  · rw [cmp_gt h, decide_eq_true (by omega)]; rfl
theorem lss_pos {a b : Nat} (ha : a < 9218868437227405312) (hb : b < 9218868437227405312) : fcmp .lss .f64 a b = decide (a < b) := by
  unfold fcmp
  simp only []
  rw [ord_pos ha hb]
  rcases Int.lt_trichotomy (a : Int) (b : Int) with h | h | h
  · rw [cmp_lt h, decide_eq_true (by omega)]; rfl
  · rw [cmp_eq h, decide_eq_false (by omega)]; rfl
  · rw [cmp_gt h, decide_eq_false (by omega)]; rfl

/-- a finite number of 32 bits that is not nought, widened: it is far from the ends -/
theorem widen_mid {c : Nat} (h0 : c % 2147483648 ≠ 0) (h1 : c % 2147483648 < 2139095040) :
    ∃ r, fconv .f32 .f64 c = FloatKind.f64.format.word (c / 2147483648 % 2 == 1) r ∧ 874 * 4503599627370496 ≤ r ∧ r ≤ 1151 * 4503599627370496 := by
  have hn : isNan .f32 c = false := by rw [isNan_rung, sw32, inf32]; exact decide_eq_false (by omega)
  have key : ∀ s m (i : Int), m ≠ 0 → (-149 : Int) ≤ i + (m.log2 : Int) → i + (m.log2 : Int) ≤ 127 → ∃ r, FloatKind.f64.format.nearest s m i = FloatKind.f64.format.word s r ∧ 874 * 4503599627370496 ≤ r ∧ r ≤ 1151 * 4503599627370496 := by
    intro s m i hm hl hh
    obtain ⟨r, a1, a2, a3⟩ := nearest_G FloatKind.f64.format s m i (-149) hm hl (by rw [lp64, fb64]; decide)
    obtain ⟨r', b1, b2, b3⟩ := nearest_E FloatKind.f64.format s m i 127 hm hh (by rw [lp64, fb64]; decide)
    rw [lp64, fb64, bin64] at a1 b1
    rw [inf64] at a1 a2 b2
    have e1 : ((-149 : Int) - ((52 : Nat) : Int) - -1074).toNat = 873 := by decide
    have e2 : ((127 : Int) - ((52 : Nat) : Int) - -1074).toNat = 1149 := by decide
    rw [e1] at a1
    rw [e2] at b1
    have : r = r' := by
      have h := a3.symm.trans b3
      have g1 := word_rung64 s (r := r) a2
      have g2 := word_rung64 s (r := r') b2
      rw [h, g2] at g1
      exact g1.symm
    subst this
    exact ⟨r, a3, by omega, by omega⟩
  rw [fconv_eq hn]
  unfold FloatKind.encode FloatKind.decode
  rcases read32 hn with ⟨hr, h⟩ | ⟨g1, g2, h⟩ | ⟨g, h⟩
  · rw [h]
    refine key _ _ _ h0 ?_ ?_
    · omega
    · have : (c % 2147483648).log2 < 23 := (Nat.log2_lt h0).2 (by omega)
      omega
  · rw [h]
    refine key _ _ _ (by omega) ?_ ?_
    · omega
    · have : (8388608 + c % 2147483648 % 8388608).log2 < 24 := (Nat.log2_lt (by omega)).2 (by omega)
      omega
  · exfalso; omega

/-! ### one more than a number -/
theorem add_one_Ge {a : Nat} (ha : a < 9218868437227405312) (h4 : Lt64 a 1026) (h1 : 4503599627370496 ≤ a) : Ge64 (fop .add .f64 a 4607182418800017408) 1023 := by
  have hr1 : FloatKind.f64.format.read 4607182418800017408 = .number false 4503599627370496 (-52) := by decide +kernel
  have h1' : Lt64 4607182418800017408 1026 := by unfold Lt64; omega
  have hlt := add_Lt h4 h1' (by omega) (by omega)
  have hr := read_pos h1 ha
  generalize hm : 4503599627370496 + a % 4503599627370496 = m at hr
  generalize hi : (-1074 : Int) + ((a / 4503599627370496 - 1 : Nat) : Int) = i at hr
  have hf : ∃ n b, n ≠ 0 ∧ (0 : Int) ≤ b + (n.log2 : Int) ∧ floatBits .add .f64 a 4607182418800017408 = some (FloatKind.f64.format.nearest false n b) := by
    unfold floatBits
    simp only []
    unfold Ieee.Format.add
    rw [hr, hr1]
    unfold Ieee.Datum.sum
    simp only [Option.map_some, Ieee.Format.write]
    rw [signed_eq, signed_eq]
    generalize hb : min i (-52) = b
    have hp : 0 < 4503599627370496 * 2 ^ ((-52 : Int) - b).toNat := Nat.mul_pos (by decide) (Nat.two_pow_pos _)
    have hs : sg1 false (m * 2 ^ (i - b).toNat) + sg1 false (4503599627370496 * 2 ^ ((-52 : Int) - b).toNat) = ((m * 2 ^ (i - b).toNat + 4503599627370496 * 2 ^ ((-52 : Int) - b).toNat : Nat) : Int) := by
      unfold sg1; simp
    rw [hs]
    generalize hN : m * 2 ^ (i - b).toNat + 4503599627370496 * 2 ^ ((-52 : Int) - b).toNat = N at *
    have hN0 : N ≠ 0 := by omega
    refine ⟨N, b, hN0, ?_, ?_⟩
    · have e : (4503599627370496 : Nat) = 2 ^ 52 := by decide
      have : 2 ^ (52 + ((-52 : Int) - b).toNat) ≤ N := by rw [Nat.pow_add, ← e]; omega
      have := (Nat.le_log2 hN0).2 this
      omega
    · rw [if_neg (by omega), decide_eq_false (by omega), Int.natAbs_natCast]
  obtain ⟨n, b, hn, hnb, hf⟩ := hf
  obtain ⟨r, a1, a2, a3⟩ := nearest_G FloatKind.f64.format false n b 0 hn (by omega) (by rw [lp64, fb64]; decide)
  have e : fop .add .f64 a 4607182418800017408 = canon .f64 r := by rw [fop_near hf, a3, word_f]
  rw [lp64, fb64, bin64, inf64] at a1
  rw [inf64] at a2
  have e1 : ((0 : Int) - ((52 : Nat) : Int) - -1074).toNat = 1022 := by decide
  rw [e1] at a1
  have hnan : isNan .f64 r = false := by rw [isNan_rung, sw64, inf64]; exact decide_eq_false (by omega)
  rw [e, canon_not hnan] at hlt ⊢
  unfold Lt64 at hlt
  unfold Ge64
  have : r % 9223372036854775808 = r := Nat.mod_eq_of_lt (by omega)
  omega

/-! ### the natural logarithm -/
def lgQ (u : Nat) : Nat → Nat
  | 0 => 0
  | n + 1 => fop .add .f64 (fop .quo .f64 4607182418800017408 (fint .f64 (25 - 2 * (n : Int)))) (fop .mul .f64 u (lgQ u n))
def lgS (y : Nat) : Nat := fop .quo .f64 (fop .sub .f64 y 4607182418800017408) (fop .add .f64 y 4607182418800017408)
def lgP (y : Nat) (e : Int) : Nat :=
  fop .add .f64 (fop .mul .f64 4611686018427387904 (fop .mul .f64 (lgS y) (lgQ (fop .mul .f64 (lgS y) (lgS y)) 13))) (fop .mul .f64 (fint .f64 e) 4604418534313441775)
def lgN1 (y : Nat) : Nat := if y < 4609434218613702656 then 0 else (y - 4609434218613702656) / 4503599627370496 + 1
def lgY1 (y : Nat) : Nat := y - lgN1 y * 4503599627370496
def lgN2 (y : Nat) : Nat := if 4604930618986332160 ≤ y then 0 else (4604930618986332160 - y + 4503599627370495) / 4503599627370496
def lgY2 (y : Nat) : Nat := y + lgN2 y * 4503599627370496
def lgW (y : Nat) : Nat := lgP (lgY2 (lgY1 y)) ((lgN1 y : Int) - (lgN2 (lgY1 y) : Int))

theorem fint_small : (List.range 600).all (fun i => (fint .f64 ((i : Int) - 300)) % 9223372036854775808 < 1032 * 4503599627370496) = true := by decide +kernel
theorem fint_Lt {e : Int} (h1 : -300 ≤ e) (h2 : e < 300) : Lt64 (fint .f64 e) 1032 := by
  have := List.all_eq_true.1 fint_small (e + 300).toNat (List.mem_range.2 (by omega))
  have e1 : (((e + 300).toNat : Int) - 300) = e := by omega
  rw [e1] at this
  exact of_decide_eq_true (p := (fint .f64 e) % 9223372036854775808 < 1032 * 4503599627370496) this
theorem lgk_Lt : (List.range 13).all (fun n => (fop .quo .f64 4607182418800017408 (fint .f64 (25 - 2 * (n : Int)))) % 9223372036854775808 < 1024 * 4503599627370496) = true := by decide +kernel
theorem lgQ_Lt {u : Nat} (hu : Lt64 u 1026) : ∀ n, n ≤ 13 → Lt64 (lgQ u n) (1024 + 6 * n)
  | 0, _ => by unfold lgQ Lt64; omega
  | n + 1, h => by
    have ih := lgQ_Lt hu n (by omega)
    have h1 : Lt64 (fop .mul .f64 u (lgQ u n)) (1028 + 6 * n) := by
      have := mul_Lt hu ih (by omega) (by omega) (by omega) (by omega)
      exact this.mono (by omega)
    have h2 : Lt64 (fop .quo .f64 4607182418800017408 (fint .f64 (25 - 2 * (n : Int)))) (1028 + 6 * n) := by
      have := of_decide_eq_true (List.all_eq_true.1 lgk_Lt n (List.mem_range.2 (by omega)))
      exact Lt64.mono (E := 1024) this (by omega)
    have := add_Lt h2 h1 (by omega) (by omega)
    exact this.mono (by omega)
/-- a number near one, less one -/
theorem less_one_Lt {y : Nat} (h1 : 4604930618986332160 ≤ y) (h2 : y < 4609434218613702656) : Lt64 (fop .sub .f64 y 4607182418800017408) 1023 := by
  have hr1 : FloatKind.f64.format.read 4607182418800017408 = .number false 4503599627370496 (-52) := by decide +kernel
  have hr := read_pos (c := y) (by omega) (by omega)
  have hdat : ∃ (m : Nat), ∃ (i : Int), FloatKind.f64.format.read y = .number false m i ∧ ((i = -52 ∧ 4503599627370496 ≤ m ∧ m < 6755399441055744) ∨ (i = -53 ∧ 6755399441055744 ≤ m ∧ m < 9007199254740992)) :=
    ⟨_, _, hr, by first | omega | (rcases Nat.lt_or_ge y 4607182418800017408 with h | h; · exact .inr (by omega); · exact .inl (by omega))⟩
  obtain ⟨m, i, hr, hmi⟩ := hdat
  have hf : floatBits .sub .f64 y 4607182418800017408 = ((Ieee.Datum.number false m i).sum (.number true 4503599627370496 (-52))).map FloatKind.f64.format.write := by
    unfold floatBits; simp only []; unfold Ieee.Format.sub
    rw [hr, hr1]; rfl
  have hf2 : ∃ (s : Bool), ∃ (n : Nat), ∃ (b : Int), (n ≠ 0 → (n.log2 : Int) + b ≤ -2) ∧ floatBits .sub .f64 y 4607182418800017408 = some (FloatKind.f64.format.nearest s n b) := by
    rw [hf]
    unfold Ieee.Datum.sum
    simp only [Option.map_some, Ieee.Format.write]
    rw [signed_eq, signed_eq]
    refine ⟨_, _, _, fun h0 => ?_, rfl⟩
    rcases hmi with ⟨hi, g1, g2⟩ | ⟨hi, g1, g2⟩
    · subst hi
      have e1 : ((-52 : Int) - min (-52) (-52)).toNat = 0 := by decide
      rw [e1] at h0 ⊢
      unfold sg1 at h0 ⊢
      simp only [Bool.false_eq_true, if_false, if_true, Nat.pow_zero, Nat.mul_one] at h0 ⊢
      have := (Nat.log2_lt (k := 51) h0).2 (by omega)
      omega
    · subst hi
      have e1 : ((-53 : Int) - min (-53) (-52)).toNat = 0 := by decide
      have e2 : ((-52 : Int) - min (-53) (-52)).toNat = 1 := by decide
      rw [e1, e2] at h0 ⊢
      unfold sg1 at h0 ⊢
      simp only [Bool.false_eq_true, if_false, if_true, Nat.pow_zero, Nat.mul_one, Nat.pow_one] at h0 ⊢
      have := (Nat.log2_lt (k := 52) h0).2 (by omega)
      omega
  obtain ⟨s, n, b, hb, hf2⟩ := hf2
  rw [fop_near hf2]
  have hk := near_Lt (s := s) (K := -2) hb (by omega) (by omega)
  have e : ((-2 : Int) + 1025).toNat = 1023 := by decide
  rwa [e] at hk
theorem lgP_Lt {y : Nat} {e : Int} (h1 : 4604930618986332160 ≤ y) (h2 : y < 4609434218613702656) (he : -300 ≤ e ∧ e < 300) : Lt64 (lgP y e) 1149 := by
  have hy : Lt64 y 1024 := by unfold Lt64; omega
  have h1w : Lt64 4607182418800017408 1024 := by unfold Lt64; omega
  have ha := less_one_Lt h1 h2
  have hb := add_one_Ge (a := y) (by omega) (hy.mono (by omega)) (by omega)
  have hs : Lt64 (lgS y) 1024 := by
    unfold lgS
    exact (quo_Lt ha hb (by omega) (by omega) (by omega) (by omega)).mono (by omega)
  have hu : Lt64 (fop .mul .f64 (lgS y) (lgS y)) 1026 := (mul_Lt hs hs (by omega) (by omega) (by omega) (by omega)).mono (by omega)
  have hq := lgQ_Lt hu 13 (by omega)
  have hsq := mul_Lt hs hq (by omega) (by omega) (by omega) (by omega)
  have h2w : Lt64 4611686018427387904 1025 := by unfold Lt64; omega
  have ht := mul_Lt h2w hsq (by omega) (by omega) (by omega) (by omega)
  have hl : Lt64 4604418534313441775 1024 := by unfold Lt64; omega
  have he' := mul_Lt (fint_Lt he.1 he.2) hl (by omega) (by omega) (by omega) (by omega)
  have := add_Lt (ht.mono (E' := 1120) (by omega)) (he'.mono (E' := 1120) (by omega)) (by omega) (by omega)
  unfold lgP
  exact this.mono (by omega)
/-- the counts -/
theorem lgN1_spec {y : Nat} (h : y ≤ 1151 * 4503599627370496) : lgN1 y ≤ 129 ∧ (∀ n, n < lgN1 y → 4609434218613702656 ≤ y - n * 4503599627370496 ∧ n * 4503599627370496 ≤ y) ∧ y - lgN1 y * 4503599627370496 < 4609434218613702656 ∧ lgN1 y * 4503599627370496 ≤ y ∧ (lgN1 y = 0 ∨ 4604930618986332160 ≤ y - lgN1 y * 4503599627370496) := by
  unfold lgN1
  split
  · rw [Nat.zero_mul]; refine ⟨by omega, fun n hn => by omega, by omega, by omega, .inl rfl⟩
  · refine ⟨by omega, fun n hn => by omega, by omega, by omega, .inr (by omega)⟩
theorem lgN2_spec {y : Nat} (h : 874 * 4503599627370496 ≤ y) (h2 : y < 4609434218613702656) : lgN2 y ≤ 150 ∧ (∀ n, n < lgN2 y → y + n * 4503599627370496 < 4604930618986332160) ∧ 4604930618986332160 ≤ y + lgN2 y * 4503599627370496 ∧ y + lgN2 y * 4503599627370496 < 4609434218613702656 := by
  unfold lgN2
  split
  · rw [Nat.zero_mul]; refine ⟨by omega, fun n hn => by omega, by omega, by omega⟩
  · refine ⟨by omega, fun n hn => by omega, by omega, by omega⟩
theorem lgW_ok {y : Nat} (h1 : 874 * 4503599627370496 ≤ y) (h2 : y ≤ 1151 * 4503599627370496) : fconvOk .f64 .f32 (lgW y) = true := by
  refine narrow_ok (.inl ?_)
  obtain ⟨a1, a2, a3, a4, a5⟩ := lgN1_spec h2
  have hy1 : 874 * 4503599627370496 ≤ lgY1 y := by
    unfold lgY1
    generalize lgN1 y = N at a5 a4 ⊢
    rcases a5 with h | h
    · rw [h, Nat.zero_mul, Nat.sub_zero]; exact h1
    · exact Nat.le_trans (by decide) h
  obtain ⟨b1, b2, b3, b4⟩ := lgN2_spec (y := lgY1 y) hy1 (by unfold lgY1; exact a3)
  have hP : Lt64 (lgW y) 1149 := by
    unfold lgW
    exact lgP_Lt (by unfold lgY2; exact b3) (by unfold lgY2; exact b4) ⟨by omega, by omega⟩
  exact Nat.lt_of_lt_of_le hP (by decide)
theorem fint_up : (List.range 600).all (fun i => fop .add .f64 (fint .f64 ((i : Int) - 300)) 4607182418800017408 == fint .f64 ((i : Int) - 299)) = true := by decide +kernel
theorem fint_dn : (List.range 600).all (fun i => fop .sub .f64 (fint .f64 ((i : Int) - 300)) 4607182418800017408 == fint .f64 ((i : Int) - 301)) = true := by decide +kernel
theorem fint_inc {e : Int} (h1 : -300 ≤ e) (h2 : e < 300) : fop .add .f64 (fint .f64 e) 4607182418800017408 = fint .f64 (e + 1) := by
  have := beq_iff_eq.1 (List.all_eq_true.1 fint_up (e + 300).toNat (List.mem_range.2 (by omega)))
  have e1 : (((e + 300).toNat : Int) - 300) = e := by omega
  have e2 : (((e + 300).toNat : Int) - 299) = e + 1 := by omega
  rwa [e1, e2] at this
theorem fint_dec {e : Int} (h1 : -300 ≤ e) (h2 : e < 300) : fop .sub .f64 (fint .f64 e) 4607182418800017408 = fint .f64 (e - 1) := by
  have := beq_iff_eq.1 (List.all_eq_true.1 fint_dn (e + 300).toNat (List.mem_range.2 (by omega)))
  have e1 : (((e + 300).toNat : Int) - 300) = e := by omega
  have e2 : (((e + 300).toNat : Int) - 301) = e - 1 := by omega
  rwa [e1, e2] at this
theorem lgk_up : (List.range 14).all (fun n => (fcmp .geq .f64 (fint .f64 (25 - 2 * (n : Int))) 4607182418800017408 == decide (n < 13)) && (fop .sub .f64 (fint .f64 (25 - 2 * (n : Int))) 4611686018427387904 == fint .f64 (25 - 2 * ((n + 1 : Nat) : Int)))) = true := by decide +kernel
theorem lgk_cond {n : Nat} (h : n ≤ 13) : fcmp .geq .f64 (fint .f64 (25 - 2 * (n : Int))) 4607182418800017408 = decide (n < 13) := by
  have := List.all_eq_true.1 lgk_up n (List.mem_range.2 (by omega))
  rw [Bool.and_eq_true] at this
  exact beq_iff_eq.1 this.1
theorem lgk_next {n : Nat} (h : n ≤ 13) : fop .sub .f64 (fint .f64 (25 - 2 * (n : Int))) 4611686018427387904 = fint .f64 (25 - 2 * ((n + 1 : Nat) : Int)) := by
  have := List.all_eq_true.1 lgk_up n (List.mem_range.2 (by omega))
  rw [Bool.and_eq_true] at this
  exact beq_iff_eq.1 this.2
end Go.Aw

set_option linter.unusedVariables false
namespace Go.Aw
open Go.RowKit (Below)
open Go.ChangeShapes Go.WideShapes Go.ChangeAt Go.RowKit Go.Deep Go.Joins

theorem carryAll {H : Type} {enc : TypeId × Value → H} {P : Program} (hl : laidOutB P = true) {W W' : World} (hb : Below W.heap.size W W') : ∀ (ts : List TypeId) (vs : List Value) (ds : List (DataW H)) (ps : List MemPlace),
    (ts.all fun t => P.readableRec t && decide (t < P.types.size)) = true → (∀ x ∈ ps, x.block < W.heap.size) → DataW.TrodAll enc P W 0 (fun _ => true) true ts vs ds ps →
    DataW.TrodAll enc P W' 0 (fun b => decide (b < W.heap.size)) true ts vs ds ps := by
  intro ts
  induction ts with
  | nil => intro vs ds ps _ _ h; cases vs <;> cases ds <;> first | exact h | exact h.elim
  | cons t ts ih =>
    intro vs ds ps hts hp h
    cases vs with
    | nil => cases ds <;> exact h.elim
    | cons v vs =>
      cases ds with
      | nil => exact h.elim
      | cons d ds =>
        simp only [List.all_cons, Bool.and_eq_true, decide_eq_true_eq] at hts
        obtain ⟨p, q, h1, h2, rfl⟩ := h
        exact ⟨p, q, Below.trod hl hts.1.1 hts.1.2 h1 hb (fun x hx => hp x (by simp [hx])), ih vs ds q hts.2 (fun x hx => hp x (by simp [hx])) h2, rfl⟩

theorem law_post {H : Type} {enc : TypeId × Value → H} {P : Program} {f : Func} {s : ChangeSpec} {W W' : World} {args : Array Value} {ds : List (DataW H)} {before : List MemPlace} {tb : TypeId} (hl : laidOutB P = true)
    (hps : (f.params.toList.all fun t => P.readableRec t && decide (t < P.types.size)) = true) (hres : f.resultTypes = #[tb]) (htb : P.underlying tb = some .bool) (hvars : s.vars = [])
    (hr : (s.fn H (ds ++ [])).results = [.lit (.bool true)]) (ha : (s.fn H (ds ++ [])).args = ds) (hv : (s.fn H (ds ++ [])).vars = [])
    (hW : DataW.Whole enc P f.params.toList s.vars false W args.toList ds [] before) (hB : Below W.heap.size W W') : s.post enc P f false true false false W args (.bool true) W' := by
  have hlt : ∀ x ∈ before, x.block < W.heap.size := fun x hx => by simpa using hW.lt x hx
  have hW' := hW
  obtain ⟨p, q, hA, hV, rfl, _, _⟩ := hW'
  have hq : q = [] := by rw [hvars] at hV; exact hV
  subst hq
  simp only [List.append_nil] at *
  refine ⟨ds, [], p, [], p, [], hW, ?_, ?_, ?_, ?_, fun h => by cases h⟩
  · rw [List.append_nil, hr, hres]
    exact trodAll_mk1 ⟨1, by simp [DataW.trod, Value.cells, htb]⟩
  · rw [List.append_nil, ha]; exact carryAll hl hB _ _ _ _ hps hlt hA
  · rw [List.append_nil, hv, hvars]; exact rfl
  · exact hB.frame _

/-! ### arguments opened -/
section
variable {H : Type} {enc : TypeId × Value → H} {P : Program} {w : World} {base : Nat} {spare : Nat → Bool} {held : Bool} {r : Reach} {b0 : Nat}
end
theorem TRl_cons {w : World} {ok : Nat → Prop} {t : T} {v : Value} {ts : List T} {vs : List Value} (h : TR w ok t v) (hs : TRl w ok ts vs) : TRl w ok (t :: ts) (v :: vs) := by
  simp only [TRl]; exact ⟨_, _, rfl, h, hs⟩
theorem TRl_nil {w : World} {ok : Nat → Prop} : TRl w ok [] [] := by simp only [TRl]

theorem law_calls {P : Program} {f : FuncId} {ts : List T} {W : World} {args : Array Value} (hc : TCall P f ts (.t (.v (.bool true))) []) (ha : TRl W (fun _ => True) ts args.toList) :
    Calls P f args W fun e w' => e = .returned (.bool true) ∧ Below W.heap.size W w' := by
  refine (hc.2 W args.toList ha).mono fun e w' h => ?_
  obtain ⟨y, μ, rfl, hh, hr⟩ := h
  rw [RRel, TR] at hr
  subst hr
  exact ⟨rfl, hh.below.below (fun _ h => h)⟩
end Go.Aw

set_option linter.unusedVariables false
namespace Go.Aw
open Go.RowKit (Below)
open Go.ChangeShapes Go.WideShapes Go.ChangeAt Go.RowKit Go.Deep Go.Joins
section
variable {H : Type} {enc : TypeId × Value → H} {P : Program} {w : World} {base : Nat} {spare : Nat → Bool} {held : Bool} {r : Reach} {b0 : Nat}

/-- a slice of one-cell elements, whatever they are -/
theorem trod_sl1 {n : Nat} {t tf : TypeId} {v : Value} {y : DataW H × List MemPlace} (ht : P.underlying t = some (.slice tf)) (hc : P.cellsOf tf = 1)
    (hlt : ∀ x ∈ y.2, x.block < w.heap.size) (h : DataW.trod enc P w base (fun _ => true) held n t [v] = some y) :
    ∃ (len : Nat) (a : Option Addr) (cap : Nat), v = .slice a len cap ∧ len ≤ cap ∧ len ≤ 9223372036854775807 ∧ (len = 0 ∨ ∃ b off, a = some ⟨b, off, none⟩ ∧ b < w.heap.size ∧
      ∀ i, i < len → ∃ (V : Value) (k : Nat) (y' : DataW H × List MemPlace), w.cell? ⟨b, off + i, none⟩ = some V ∧ DataW.trod enc P w base (fun _ => true) held k tf [V] = some y' ∧ ∀ x ∈ y'.2, x.block < w.heap.size) := by
  rcases open_slice1 ht hc h with ⟨h0, _⟩ | ⟨a, len, cap, m, k, V, D, Pl, h0, _, hl, hm, hmm, hx, hel⟩
  · simp at h0; subst h0
    exact ⟨0, none, 0, rfl, Nat.le_refl _, by omega, .inl rfl⟩
  · simp at h0; subst h0
    simp only [if_true] at hmm
    subst hmm
    refine ⟨len, some a, m, rfl, hl, by unfold maxLen at hm; omega, ?_⟩
    by_cases h0 : len = 0
    · exact .inl h0
    · right
      obtain ⟨b, off, sp⟩ := a
      have hs := World.cell?_spot (hel 0 (by omega)).1
      have hs' : sp = none := by simpa [Addr.add] using hs
      subst hs'
      refine ⟨b, off, rfl, ?_, fun i hi => ?_⟩
      · refine hlt (.cell b off) ?_
        rw [hx]
        exact List.mem_append_left _ (MemPlace.mem_row.2 ⟨0, by omega, by simp⟩)
      · have e : (⟨b, off, none⟩ : Addr).add i = ⟨b, off + i, none⟩ := by { unfold Addr.add; by_cases h0 : i = 0 <;> simp [h0] }
        have h1 := hel i (by omega)
        rw [e] at h1
        refine ⟨V i, k, _, h1.1, h1.2, fun x hxm => hlt x ?_⟩
        rw [hx]
        exact List.mem_append_right _ (List.mem_flatMap.2 ⟨i, by simp; omega, hxm⟩)

theorem exists_list {α : Type} (d : α) {n : Nat} {p : Nat → α → Prop} (h : ∀ i, i < n → ∃ x, p i x) : ∃ l : List α, l.length = n ∧ ∀ i, i < n → p i (l.getD i d) := by
  induction n with
  | zero => exact ⟨[], rfl, fun i hi => by omega⟩
  | succ n ih =>
    obtain ⟨l, h1, h2⟩ := ih (fun i hi => h i (by omega))
    obtain ⟨x, hx⟩ := h n (by omega)
    refine ⟨l ++ [x], by simp [h1], fun i hi => ?_⟩
    rcases Nat.lt_or_ge i n with h3 | h3
    · have := h2 i h3
      rw [List.getD_eq_getElem?_getD] at this ⊢
      rwa [List.getElem?_append_left (by omega)]
    · have : i = n := by omega
      subst this
      rw [List.getD_eq_getElem?_getD, List.getElem?_append_right (by omega)]
      simpa [h1] using hx
end
end Go.Aw

