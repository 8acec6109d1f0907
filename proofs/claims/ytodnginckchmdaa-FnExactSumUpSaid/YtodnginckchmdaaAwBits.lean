/- Facts on float32 words: the sign, the magnitude, widening. -/
import Derived.Test.YtodnginckchmdaaAwStep
set_option linter.unusedVariables false
namespace Go.Aw

theorem neg_of_word (f : Ieee.Format) (s : Bool) (r : Nat) (hr : r < f.signWeight) : (f.word s r) % f.signWeight = r ∧ (f.word s r) / f.signWeight = s.toNat := by
  have hp : 0 < f.signWeight := by omega
  cases s with
  | true =>
    refine ⟨by simp [Ieee.Format.word, Nat.mod_eq_of_lt hr], ?_⟩
    simp only [Ieee.Format.word, if_true, Bool.toNat_true]
    rw [Nat.add_comm, Nat.add_div_right _ hp, Nat.div_eq_of_lt hr]
  | false => exact ⟨by simp [Ieee.Format.word, Nat.mod_eq_of_lt hr], by simp [Ieee.Format.word, Nat.div_eq_of_lt hr]⟩

theorem nearest_word (f : Ieee.Format) (s : Bool) (m : Nat) (e : Int) : ∃ r, r ≤ f.infRung ∧ f.nearest s m e = f.word s r := by
  unfold Ieee.Format.nearest
  by_cases h : m = 0
  · exact ⟨0, Nat.zero_le _, by simp [h]⟩
  · simp only [if_neg h]; exact ⟨_, Nat.min_le_right _ _, rfl⟩

theorem notnan_of_rung {k : FloatKind} {b : Nat} (h : b % k.format.signWeight ≤ k.format.infRung) : isNan k b = false := by
  cases hc : isNan k b with
  | false => rfl
  | true =>
    have := (read_nan_iff _ _).1 ((isNan_iff k b).1 hc)
    omega

theorem sw64 : FloatKind.f64.format.signWeight = 9223372036854775808 := by decide
theorem inf64 : FloatKind.f64.format.infRung = 9218868437227405312 := by decide
theorem sw32 : FloatKind.f32.format.signWeight = 2147483648 := by decide
theorem inf32 : FloatKind.f32.format.infRung = 2139095040 := by decide
theorem bin32 : FloatKind.f32.format.binade = 8388608 := by decide
theorem bin64 : FloatKind.f64.format.binade = 4503599627370496 := by decide
theorem lp32 : FloatKind.f32.format.leastPlace = -149 := by decide
theorem lp64 : FloatKind.f64.format.leastPlace = -1074 := by decide

/-- what a number of 32 bits is, read -/
theorem read32 {c : Nat} (hn : isNan .f32 c = false) : let s := c / 2147483648 % 2 == 1; let r := c % 2147483648;
    (r < 8388608 ∧ FloatKind.f32.format.read c = .number s r (-149)) ∨
    (8388608 ≤ r ∧ r < 2139095040 ∧ FloatKind.f32.format.read c = .number s (8388608 + r % 8388608) (-149 + (r / 8388608 - 1 : Nat))) ∨ (r = 2139095040 ∧ FloatKind.f32.format.read c = .infinity s) := by
  intro s r
  have hread : FloatKind.f32.format.read c = if r < 8388608 then .number s r (-149) else if r < 2139095040 then .number s (8388608 + r % 8388608) (-149 + (r / 8388608 - 1 : Nat)) else if r = 2139095040 then .infinity s else .nan s (r - 2139095040) := by
    unfold Ieee.Format.read
    simp only [sw32, inf32, bin32, lp32]
    rfl
  rw [hread]
  by_cases h1 : r < 8388608
  · exact .inl ⟨h1, by rw [if_pos h1]⟩
  · by_cases h2 : r < 2139095040
    · exact .inr (.inl ⟨by omega, h2, by rw [if_neg h1, if_pos h2]⟩)
    · by_cases h3 : r = 2139095040
      · exact .inr (.inr ⟨h3, by rw [if_neg h1, if_neg h2, if_pos h3]⟩)
      · rw [if_neg h1, if_neg h2, if_neg h3] at hread
        have := (isNan_iff .f32 c).2 ⟨_, _, hread⟩
        rw [hn] at this; cases this

theorem neg32 {c : Nat} (hn : isNan .f32 c = false) : (FloatKind.f32.format.read c).neg = (c / 2147483648 % 2 == 1) := by
  rcases read32 hn with ⟨_, h⟩ | ⟨_, _, h⟩ | ⟨_, h⟩ <;> rw [h] <;> rfl

theorem widen_word {c : Nat} (hn : isNan .f32 c = false) : ∃ r, r ≤ 9218868437227405312 ∧ FloatKind.f64.encode (FloatKind.f32.decode c) = FloatKind.f64.format.word (c / 2147483648 % 2 == 1) r := by
  unfold FloatKind.encode FloatKind.decode
  rcases read32 hn with ⟨_, h⟩ | ⟨_, _, h⟩ | ⟨_, h⟩ <;> rw [h]
  · obtain ⟨r, h1, h2⟩ := nearest_word FloatKind.f64.format (c / 2147483648 % 2 == 1) (c % 2147483648) (-149)
    exact ⟨r, by rw [inf64] at h1; exact h1, h2⟩
  · obtain ⟨r, h1, h2⟩ := nearest_word FloatKind.f64.format (c / 2147483648 % 2 == 1) (8388608 + c % 2147483648 % 8388608) (-149 + (c % 2147483648 / 8388608 - 1 : Nat))
    exact ⟨r, by rw [inf64] at h1; exact h1, h2⟩
  · exact ⟨_, Nat.le_refl _, by rw [Ieee.Format.write, inf64]⟩

theorem widen_nan {c : Nat} (hn : isNan .f32 c = false) : isNan .f64 (FloatKind.f64.encode (FloatKind.f32.decode c)) = false := by
  obtain ⟨r, h1, h2⟩ := widen_word hn
  refine notnan_of_rung ?_
  rw [h2, (neg_of_word _ _ r (by rw [sw64]; omega)).1, inf64]; exact h1
theorem fconv_eq {c : Nat} (hn : isNan .f32 c = false) : fconv .f32 .f64 c = FloatKind.f64.encode (FloatKind.f32.decode c) := by
  unfold fconv
  rw [hn]; simp only [Bool.false_eq_true, if_false]; exact canon_not (widen_nan hn)
theorem widen_nan' {c : Nat} (hn : isNan .f32 c = false) : isNan .f64 (fconv .f32 .f64 c) = false := by rw [fconv_eq hn]; exact widen_nan hn
theorem widen_sgn {c : Nat} (hn : isNan .f32 c = false) : icmp .lss (IntKind.i64.wrap (fconv .f32 .f64 c)) 0 = (c / 2147483648 % 2 == 1) := by
  obtain ⟨r, h1, h2⟩ := widen_word hn
  rw [fconv_eq hn, h2]
  cases (c / 2147483648 % 2 == 1) with
  | true =>
    simp only [Ieee.Format.word, if_true, sw64]
    have : IntKind.i64.wrap ((9223372036854775808 + r : Nat) : Int) = (r : Int) - 9223372036854775808 := by
      rw [IntKind.wrap_i64]; omega
    rw [this]; simp only [icmp]; exact decide_eq_true (by omega)
  | false =>
    simp only [Ieee.Format.word, Bool.false_eq_true, if_false]
    have : IntKind.i64.wrap ((r : Nat) : Int) = (r : Int) := wrap_in (by omega)
    rw [this]; simp only [icmp]; exact decide_eq_false (by omega)

theorem shl_lt {m s : Nat} {k : Nat} (h : m.log2 + s + 1 ≤ k) (hm : m ≠ 0) : m <<< s < 2 ^ k := by
  rw [Nat.shiftLeft_eq]
  have h1 : m < 2 ^ (m.log2 + 1) := Nat.lt_log2_self
  calc m * 2 ^ s < 2 ^ (m.log2 + 1) * 2 ^ s := Nat.mul_lt_mul_of_pos_right h1 (Nat.two_pow_pos _)
    _ = 2 ^ (m.log2 + 1 + s) := (Nat.pow_add ..).symm
    _ ≤ 2 ^ k := Nat.pow_le_pow_right (by decide) (by omega)
theorem cut0 (n : Nat) (s : Bool) : Ieee.Toward.even.cut s n 0 = n := by
  unfold Ieee.Toward.cut
  simp [Nat.mod_one]
theorem min_small (a b : Nat) (ha : a ≤ 1149) (hb : b < 2 ^ 53) : min (a * 4503599627370496 + b) 9218868437227405312 < 9218868437227405312 := by
  have h1 : b < 9007199254740992 := hb
  have h2 : a * 4503599627370496 ≤ 1149 * 4503599627370496 := Nat.mul_le_mul_right _ ha
  have h3 : a * 4503599627370496 + b < 9218868437227405312 := by omega
  exact Nat.lt_of_le_of_lt (Nat.min_le_left _ _) h3
theorem nearest_small (s : Bool) (m : Nat) (e : Int) (hm : m < 16777216) (he : -149 ≤ e ∧ e ≤ 104) : ∃ r, r < 9218868437227405312 ∧ FloatKind.f64.format.nearest s m e = FloatKind.f64.format.word s r := by
  unfold Ieee.Format.nearest
  by_cases h : m = 0
  · exact ⟨0, by decide, by simp [h]⟩
  · simp only [if_neg h, lp64, bin64, inf64]
    have hfb : (FloatKind.f64.format.fractionBits : Int) = 52 := by decide
    rw [hfb]
    have hl : m.log2 < 24 := by
      refine (Nat.log2_lt h).2 ?_
      exact hm
    have hlast : max (e + m.log2 - 52) (-1074) = e + m.log2 - 52 := by omega
    rw [hlast]
    have e1 : (e - (e + m.log2 - 52)).toNat = 52 - m.log2 := by omega
    have e2 : (e + m.log2 - 52 - e).toNat = 0 := by omega
    rw [e1, e2, cut0]
    have h3 : m <<< (52 - m.log2) < 2 ^ 53 := shl_lt (by omega) h
    have h4 : (e + (m.log2 : Int) - 52 - -1074).toNat ≤ 1149 := by omega
    refine ⟨_, ?_, rfl⟩
    exact min_small _ _ h4 h3
theorem widen_ok {c : Nat} (hn : isNan .f32 c = false) : fconvOk .f32 .f64 c = true := by
  have key : ∀ s r, r < 9218868437227405312 → (FloatKind.f64.decode (FloatKind.f64.format.word s r)).isInfinity = false := by
    intro s r hr
    unfold FloatKind.decode Ieee.Format.read
    dsimp only
    rw [(neg_of_word _ _ r (by rw [sw64]; omega)).1, bin64, inf64]
    by_cases h1 : r < 4503599627370496
    · rw [if_pos h1]; rfl
    · rw [if_neg h1, if_pos hr]; rfl
  unfold fconvOk
  rcases read32 hn with ⟨hr, h⟩ | ⟨h1, h2, h⟩ | ⟨_, h⟩
  · have h' : FloatKind.f32.decode c = _ := h
    rw [h']
    obtain ⟨r, hr, e⟩ := nearest_small (c / 2147483648 % 2 == 1) (c % 2147483648) (-149) (by omega) (by omega)
    have e' : FloatKind.f64.encode (.number (c / 2147483648 % 2 == 1) (c % 2147483648) (-149)) = _ := e
    rw [e', key _ _ hr]; simp
  · have h' : FloatKind.f32.decode c = _ := h
    rw [h']
    obtain ⟨r, hr, e⟩ := nearest_small (c / 2147483648 % 2 == 1) (8388608 + c % 2147483648 % 8388608) (-149 + (c % 2147483648 / 8388608 - 1 : Nat)) (by omega) (by omega)
    have e' : FloatKind.f64.encode (.number (c / 2147483648 % 2 == 1) (8388608 + c % 2147483648 % 8388608) (-149 + (c % 2147483648 / 8388608 - 1 : Nat))) = _ := e
    rw [e', key _ _ hr]; simp
  · have h' : FloatKind.f32.decode c = _ := h
    rw [h']; simp [Ieee.Datum.isInfinity]

theorem compare_eq_iff_eq' {a b : Int} : compare a b = .eq ↔ a = b := Std.LawfulEqOrd.compare_eq_iff_eq
theorem signed_inj {s : Bool} {a b : Nat} {i j : Nat} (h : Ieee.signed s a i = Ieee.signed s b j) : a * 2 ^ i = b * 2 ^ j := by
  unfold Ieee.signed at h
  simp only [Nat.shiftLeft_eq] at h
  cases s <;> simp at h <;> exact_mod_cast h
theorem mag_inj {a b i j : Nat} (ha : a < 16777216) (hb : b < 16777216) (hai : i = 0 ∨ 8388608 ≤ a) (hbj : j = 0 ∨ 8388608 ≤ b) (h : a * 2 ^ i = b * 2 ^ j) : a = b ∧ i = j := by
  rcases Nat.lt_trichotomy i j with hij | hij | hij
  · exfalso
    obtain ⟨d, rfl⟩ : ∃ d, j = i + (d + 1) := ⟨j - i - 1, by omega⟩
    have h1 : 8388608 ≤ b := by omega
    rw [Nat.pow_add, ← Nat.mul_assoc, Nat.mul_right_comm] at h
    have h2 : a = b * 2 ^ (d + 1) := Nat.eq_of_mul_eq_mul_right (Nat.two_pow_pos i) h
    have h3 : 2 ≤ 2 ^ (d + 1) := by rw [Nat.pow_succ]; have := Nat.two_pow_pos d; omega
    have : 8388608 * 2 ≤ b * 2 ^ (d + 1) := Nat.mul_le_mul h1 h3
    omega
  · subst hij
    exact ⟨Nat.eq_of_mul_eq_mul_right (Nat.two_pow_pos i) h, rfl⟩
  · exfalso
    obtain ⟨d, rfl⟩ : ∃ d, i = j + (d + 1) := ⟨i - j - 1, by omega⟩
    have h1 : 8388608 ≤ a := by omega
    rw [Nat.pow_add, ← Nat.mul_assoc, Nat.mul_right_comm] at h
    have h2 : a * 2 ^ (d + 1) = b := Nat.eq_of_mul_eq_mul_right (Nat.two_pow_pos j) h
    have h3 : 2 ≤ 2 ^ (d + 1) := by rw [Nat.pow_succ]; have := Nat.two_pow_pos d; omega
    have : 8388608 * 2 ≤ a * 2 ^ (d + 1) := Nat.mul_le_mul h1 h3
    omega

theorem read32' {c : Nat} (hn : isNan .f32 c = false) : let s := c / 2147483648 % 2 == 1; let r := c % 2147483648;
    (r = 2139095040 ∧ FloatKind.f32.format.read c = .infinity s) ∨ ∃ m i : Nat, m < 16777216 ∧ (i = 0 ∨ 8388608 ≤ m) ∧ r = i * 8388608 + m ∧ FloatKind.f32.format.read c = .number s m (-149 + (i : Int)) := by
  intro s r
  rcases read32 hn with ⟨hr, h⟩ | ⟨h1, h2, h⟩ | ⟨h1, h⟩
  · exact .inr ⟨r, 0, by omega, .inl rfl, by omega, by simpa using h⟩
  · exact .inr ⟨_, _, by omega, .inr (by omega), by omega, h⟩
  · exact .inl ⟨h1, h⟩

theorem eq_of_order {c d : Nat} (hc : c < 4294967296) (hd : d < 4294967296) (hcn : isNan .f32 c = false) (hdn : isNan .f32 d = false) (ho : fcmp .eql .f32 c d = true)
    (hs : (c / 2147483648 % 2 == 1) = (d / 2147483648 % 2 == 1)) : c = d := by
  have hs' : c / 2147483648 = d / 2147483648 := by
    have h1 : c / 2147483648 < 2 := by omega
    have h2 : d / 2147483648 < 2 := by omega
    rw [Bool.eq_iff_iff] at hs
    simp only [beq_iff_eq] at hs
    omega
  have hr : c % 2147483648 = d % 2147483648 := by
    simp only [fcmp] at ho
    unfold Ieee.Format.order at ho
    rcases read32' hcn with ⟨h1, h⟩ | ⟨m, i, hm, hmi, hri, h⟩ <;> rcases read32' hdn with ⟨h1', h'⟩ | ⟨m', i', hm', hmi', hri', h'⟩ <;> rw [h, h'] at ho
    · omega
    · simp only [Ieee.Datum.order] at ho; split at ho <;> simp at ho
    · simp only [Ieee.Datum.order] at ho; split at ho <;> simp at ho
    · simp only [Ieee.Datum.order] at ho
      rw [hs] at ho
      have := signed_inj (a := m) (b := m') (by simpa only [Option.some_beq_some, beq_iff_eq, compare_eq_iff_eq'] using ho)
      have hmin : min (-149 + (i : Int)) (-149 + (i' : Int)) = -149 + ((min i i' : Nat) : Int) := by omega
      rw [hmin] at this
      have e1 : ((-149 + (i : Int)) - (-149 + ((min i i' : Nat) : Int))).toNat = i - min i i' := by omega
      have e2 : ((-149 + (i' : Int)) - (-149 + ((min i i' : Nat) : Int))).toNat = i' - min i i' := by omega
      rw [e1, e2] at this
      obtain ⟨e3, e4⟩ := mag_inj hm hm' (by omega) (by omega) this
      omega
  omega
theorem order_refl {c : Nat} (hcn : isNan .f32 c = false) : fcmp .eql .f32 c c = true := by
  simp only [fcmp]
  have : FloatKind.f32.format.order c c = some .eq := by
    unfold Ieee.Format.order
    rcases read32' hcn with ⟨_, h⟩ | ⟨m, i, _, _, _, h⟩ <;> rw [h] <;> simp [Ieee.Datum.order]
  rw [this]; rfl
theorem canon_same {c d : Nat} (hc : canon .f32 c = c) (hd : canon .f32 d = d) (h1 : isNan .f32 c = true) (h2 : isNan .f32 d = true) : c = d := by
  rw [canon_nan h1] at hc; rw [canon_nan h2] at hd; omega
theorem fconv_any (c : Nat) : fconvOk .f32 .f64 c = true := by
  cases h : isNan .f32 c with
  | true => simp [fconvOk, h]
  | false => exact widen_ok h
end Go.Aw
