/- Bounds of quotients and roots. No condition. -/
import Derived.Test.YtmnpdipiffmnhaaZAwF
import Derived.Test.YtmnpdipiffmnhaaZAwC
import Derived.Test.YtmnpdipiffmnhaaZAwG
set_option linter.unusedVariables false
set_option maxRecDepth 20000
namespace Go.Aw

theorem quo_le2 (k : FloatKind) {r q C : Nat} (hr : r < k.format.infRung) (hq1 : oneK k ≤ q) (hq : q < k.format.infRung) (hC : C < k.format.infRung) (h : 2 * valR k.format r ≤ valR k.format C) : fop .quo k r q ≤ C := by
  obtain ⟨m, i, h1, h2⟩ := read_word k false (r := r) hr
  obtain ⟨n, j, g1, g2⟩ := read_word k false (r := q) hq
  rw [word_f] at h1 g1
  have hv1 : 2 ^ lpN k ≤ n * 2 ^ j := by rw [g2, ← one_val]; exact valR_mono k.format hq1
  have hn : n ≠ 0 := by intro h; rw [h, Nat.zero_mul] at hv1; have := Nat.two_pow_pos (lpN k); omega
  generalize hd : k.format.fractionBits + 2 = d
  generalize hmo : d + n.log2 - m.log2 = more
  have hf : floatBits .quo k r q = some (k.format.nearest false (2 * ((m * 2 ^ more) / n) + ((m * 2 ^ more) % n != 0).toNat) (k.format.leastPlace + (i : Int) - (k.format.leastPlace + (j : Int)) - (more : Int) - 1)) := by
    unfold floatBits; simp only []; unfold Ieee.Format.div
    rw [h1, g1]
    simp only [Ieee.Datum.quotient, if_neg hn, Option.map_some, Ieee.Format.write, hd, hmo, Nat.shiftLeft_eq, Bool.false_bne]
  rw [fop_eq hf, word_f]
  by_cases hm : m = 0
  · rw [hm, Nat.zero_mul, Nat.zero_div, Nat.zero_mod]
    have : (2 * 0 + ((0 : Nat) != 0).toNat) = 0 := rfl
    rw [this, nearest_zero]; exact Nat.zero_le _
  · have hbig : n < m * 2 ^ more := by
      have a1 : n < 2 ^ (n.log2 + 1) := Nat.lt_log2_self
      have a2 : 2 ^ (m.log2 + more) ≤ m * 2 ^ more := by rw [Nat.pow_add]; exact Nat.mul_le_mul_right _ (Nat.log2_self_le hm)
      have a3 : 2 ^ (n.log2 + 1) ≤ 2 ^ (m.log2 + more) := Nat.pow_le_pow_right (by decide) (by omega)
      omega
    generalize hX : 2 * ((m * 2 ^ more) / n) + ((m * 2 ^ more) % n != 0).toNat = X
    -- X n ≤ 4 m 2^more
    have hXn : X * n ≤ 4 * (m * 2 ^ more) := by
      rw [← hX]
      generalize m * 2 ^ more = a at *
      have b1 := Nat.div_mul_le_self a n
      have b2 : 1 ≤ a / n := (Nat.one_le_div_iff (by omega)).2 (by omega)
      have hb : (a % n != 0).toNat ≤ 1 := by cases (a % n != 0) <;> simp
      have b3 : 2 * (a / n) + (a % n != 0).toNat ≤ 4 * (a / n) := by omega
      calc (2 * (a / n) + (a % n != 0).toNat) * n ≤ (4 * (a / n)) * n := Nat.mul_le_mul_right _ b3
        _ = 4 * (a / n * n) := by rw [Nat.mul_assoc]
        _ ≤ 4 * a := by omega
    -- both at one place
    have key : X * 2 ^ (i + lpN k) ≤ valR k.format C * 2 ^ (j + more + 1) := by
      have s1 : X * 2 ^ lpN k ≤ X * (n * 2 ^ j) := Nat.mul_le_mul_left _ hv1
      have s2 : X * (n * 2 ^ j) = (X * n) * 2 ^ j := by rw [Nat.mul_assoc]
      have s3 : (X * n) * 2 ^ j ≤ (4 * (m * 2 ^ more)) * 2 ^ j := Nat.mul_le_mul_right _ hXn
      have s4 : X * 2 ^ lpN k ≤ (4 * (m * 2 ^ more)) * 2 ^ j := by omega
      have s5 : X * 2 ^ (i + lpN k) = (X * 2 ^ lpN k) * 2 ^ i := by rw [Nat.mul_assoc, ← Nat.pow_add, Nat.add_comm i]
      have s6 : (4 * (m * 2 ^ more)) * 2 ^ j * 2 ^ i = (2 * (m * 2 ^ i)) * 2 ^ (j + more + 1) := by
        have : (2 : Nat) ^ (j + more + 1) = 2 ^ j * 2 ^ more * 2 := by rw [Nat.pow_succ, Nat.pow_add]
        rw [this]
        generalize (2 : Nat) ^ more = x
        generalize (2 : Nat) ^ j = y
        generalize (2 : Nat) ^ i = z
        simp only [Nat.mul_assoc, Nat.mul_comm, Nat.mul_left_comm]
        try omega
      rw [s5]
      refine Nat.le_trans (Nat.mul_le_mul_right _ s4) ?_
      rw [s6, h2]
      exact Nat.mul_le_mul_right _ h
    have e1 := nearest_scale k.format false X (i + lpN k) (k.format.leastPlace + (i : Int) - (k.format.leastPlace + (j : Int)) - (more : Int) - 1)
    have e2 := nearest_scale k.format false (valR k.format C) (j + more + 1) k.format.leastPlace
    rw [nearest_valR k hC] at e2
    have hlp := lp_N k
    have e3 : k.format.leastPlace + (i : Int) - (k.format.leastPlace + (j : Int)) - (more : Int) - 1 - ((i + lpN k : Nat) : Int) = k.format.leastPlace - ((j + more + 1 : Nat) : Int) := by omega
    rw [← e1, e3, ← e2]
    exact nearest_mono k.format _ key

theorem widen_pos {r : Nat} (hr : r < 2139095040) : fconv .f32 .f64 r = FloatKind.f64.format.nearest false (valR FloatKind.f32.format r) (-149) := by
  obtain ⟨m, i, h1, h2⟩ := read_word .f32 false (r := r) (by rw [inf32]; exact hr)
  rw [word_f] at h1
  have hn : isNan .f32 r = false := by have := neg_notnan .f32 false (r := r) (by rw [inf32]; omega); rwa [word_f] at this
  rw [fconv_eq hn]
  unfold FloatKind.encode FloatKind.decode
  rw [h1, ← h2]
  show FloatKind.f64.format.nearest false m (FloatKind.f32.format.leastPlace + (i : Int)) = _
  have := nearest_scale FloatKind.f64.format false m i (-149 + (i : Int))
  rw [Int.add_sub_cancel] at this
  rw [lp32, this]
theorem widen_top : FloatKind.f64.format.nearest false (valR FloatKind.f32.format 2139095039) (-149) ≤ 1151 * 4503599627370496 := by decide +kernel
theorem widen_le {r : Nat} (hr : r < 2139095040) : fconv .f32 .f64 r ≤ 1151 * 4503599627370496 := by
  rw [widen_pos hr]
  exact Nat.le_trans (nearest_mono _ _ (valR_mono _ (by omega))) widen_top
theorem thin_top : FloatKind.f32.format.nearest false (valR FloatKind.f64.format (1150 * 4503599627370496)) (-1074) = 2130706432 := by decide +kernel
theorem thin_le {c : Nat} (h : c ≤ 1150 * 4503599627370496) : fconv .f64 .f32 c ≤ 2130706432 := by
  have hn : isNan .f64 c = false := pos_notnan (by omega)
  obtain ⟨m, i, h1, h2⟩ := read_word .f64 false (r := c) (by rw [inf64]; omega)
  rw [word_f] at h1
  have e : FloatKind.f32.encode (FloatKind.f64.decode c) = FloatKind.f32.format.nearest false (valR FloatKind.f64.format c) (-1074) := by
    unfold FloatKind.decode
    rw [h1, ← h2]
    show FloatKind.f32.format.nearest false m (FloatKind.f64.format.leastPlace + (i : Int)) = _
    have := nearest_scale FloatKind.f32.format false m i (-1074 + (i : Int))
    rw [Int.add_sub_cancel] at this
    rw [lp64, this]
  have hle : FloatKind.f32.format.nearest false (valR FloatKind.f64.format c) (-1074) ≤ 2130706432 := by
    rw [← thin_top]
    exact nearest_mono _ _ (valR_mono _ h)
  have h6 := canon_word .f32 false (r := FloatKind.f32.format.nearest false (valR FloatKind.f64.format c) (-1074)) (nearest_inf _ _ _)
  rw [word_f] at h6
  unfold fconv
  rw [hn]
  simp only [Bool.false_eq_true, if_false]
  rw [e, h6]; exact hle
theorem fsqrt_pos {w : Nat} (h0 : w ≤ 1151 * 4503599627370496) : fsqrt w < 1150 * 4503599627370496 := by
  have h : w % 9223372036854775808 ≤ 1151 * 4503599627370496 := by omega
  have hsg : (w / FloatKind.f64.format.signWeight % 2 == 1) = false := by rw [sw64, Nat.div_eq_of_lt (by omega)]; rfl
  have hread : ∃ (m : Nat) (i : Int), FloatKind.f64.format.read w = .number (w / FloatKind.f64.format.signWeight % 2 == 1) m i ∧ (m ≠ 0 → (m.log2 : Int) + i ≤ 128) := by
    unfold Ieee.Format.read
    dsimp only
    rw [sw64, bin64, inf64, lp64]
    by_cases h1 : w % 9223372036854775808 < 4503599627370496
    · rw [if_pos h1]
      refine ⟨_, _, rfl, fun h0 => ?_⟩
      have : (w % 9223372036854775808).log2 < 52 := (Nat.log2_lt h0).2 (by omega)
      omega
    · rw [if_neg h1, if_pos (by omega)]
      refine ⟨_, _, rfl, fun h0 => ?_⟩
      have : (4503599627370496 + w % 9223372036854775808 % 4503599627370496).log2 < 53 := (Nat.log2_lt h0).2 (by omega)
      omega
  obtain ⟨m, i, hr, hE⟩ := hread
  unfold fsqrt Ieee.Format.sqrt
  rw [hr]
  rw [hsg]
  unfold Ieee.Datum.root
  simp only []
  by_cases hm : m = 0
  · subst hm
    simp only [if_true, Option.map_some, Ieee.Format.write, Ieee.Format.nearest]
    have : canon .f64 (FloatKind.f64.format.word false 0) = 0 := by decide +kernel
    omega
  · simp only [if_neg hm]
    simp only [Bool.false_eq_true, if_false, Option.map_some, Ieee.Format.write]
    have hE := hE hm
    have hd : (FloatKind.f64.format.fractionBits + 2 : Nat) = 54 := rfl
    rw [hd]
    generalize hmo : 2 * 54 - m.log2 + ((i - ((2 * 54 - m.log2 : Nat) : Int)) % 2).toNat = more
    generalize hwh : Ieee.Datum.rootFrom (m <<< more) ((m <<< more).log2 / 2 + 1) 0 = wh
    have hsq : wh * wh ≤ m <<< more := by rw [← hwh]; exact rootFrom_sq _ _ _ (Nat.zero_le _)
    have hL : (m <<< more).log2 = m.log2 + more := by rw [Nat.shiftLeft_eq]; exact log2_mul_pow hm
    have hlt : m <<< more < 2 ^ (m.log2 + more + 1) := by rw [← hL]; exact Nat.lt_log2_self
    have hw := sq_lt (Nat.lt_of_le_of_lt hsq hlt)
    have hbt : (wh * wh != m <<< more).toNat ≤ 1 := by cases (wh * wh != m <<< more) <;> simp
    have hM2 : 2 * wh + (wh * wh != m <<< more).toNat < 2 ^ ((m.log2 + more) / 2 + 2) := by rw [Nat.pow_succ]; omega
    generalize hMd : 2 * wh + (wh * wh != m <<< more).toNat = M at hM2
    have hcan : ∀ r, r ≤ 1092 * 4503599627370496 → canon .f64 (FloatKind.f64.format.word false r) = r := fun r hr => by
      have h1 := word_rung64 false (r := r) (by omega)
      rw [canon_not (by rw [isNan_rung, sw64, inf64, h1]; exact decide_eq_false (by omega))]
      rfl
    by_cases hM : M = 0
    · have : FloatKind.f64.format.nearest false M ((i - (more : Int)) / 2 - 1) = FloatKind.f64.format.word false 0 := by rw [hM]; simp [Ieee.Format.nearest]
      rw [this, hcan 0 (by omega)]; omega
    · have hl : M.log2 < (m.log2 + more) / 2 + 2 := (Nat.log2_lt hM).2 hM2
      obtain ⟨r, h1, _, h2⟩ := nearest_E FloatKind.f64.format false M ((i - (more : Int)) / 2 - 1) 66 hM (by omega) (by rw [lp64, fb64]; decide)
      rw [lp64, fb64, bin64] at h1
      have : ((66 : Int) - ((52 : Nat) : Int) - -1074).toNat = 1088 := by decide
      rw [this] at h1
      rw [h2, hcan r (by omega)]
      omega
theorem root_pos {c : Nat} (h : c < 2139095040) : fconv .f64 .f32 (fsqrt (fconv .f32 .f64 c)) ≤ 2130706432 := thin_le (Nat.le_of_lt (fsqrt_pos (widen_le h)))
end Go.Aw

