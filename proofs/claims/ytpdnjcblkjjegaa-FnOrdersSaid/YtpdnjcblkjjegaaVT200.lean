import Derived.Test.YtpdnjcblkjjegaaVAwJ
set_option linter.unusedVariables false
set_option linter.unusedSimpArgs false
namespace Go.Proofs.Ytpdnjcblkjjegaa
open Go.Aw

/-! ### what one rounding takes: half a unit of the last place -/
theorem cut_half (n d : Nat) : 2 * (Ieee.Toward.even.cut false n d * 2 ^ d) ≤ 2 * n + 2 ^ d ∧ 2 * n ≤ 2 * (Ieee.Toward.even.cut false n d * 2 ^ d) + 2 ^ d := by
  rw [cut_full]
  have hg := Nat.two_pow_pos d
  generalize 2 ^ d = g at *
  have h2 := Nat.div_add_mod n g
  have h3 := Nat.mod_lt n hg
  generalize n % g = b at *
  generalize n / g = q at *
  rw [Nat.mul_comm g q] at h2
  rw [Nat.add_mul]
  generalize q * g = Q at *
  by_cases h : (decide (g < 2 * b) || (g == 2 * b && q % 2 == 1)) = true
  · rw [h]
    have : g ≤ 2 * b := by
      simp only [Bool.or_eq_true, Bool.and_eq_true, decide_eq_true_eq, beq_iff_eq] at h; omega
    simp; omega
  · rw [Bool.not_eq_true] at h
    rw [h]
    have : 2 * b ≤ g := by
      simp only [Bool.or_eq_false_iff, decide_eq_false_iff_not] at h; omega
    simp; omega
theorem valR_cut (f : Ieee.Format) (q c : Nat) (h1 : c ≤ 2 * f.binade) (h2 : q = 0 ∨ f.binade ≤ c) : valR f (q * f.binade + c) = c * 2 ^ q := by
  have hB : 0 < f.binade := Nat.two_pow_pos _
  unfold valR
  generalize f.binade = B at *
  by_cases hq : q = 0
  · subst hq
    rw [Nat.zero_mul, Nat.zero_add]
    by_cases h : c < B
    · rw [if_pos h]; simp
    · rw [if_neg h]
      by_cases h3 : c < 2 * B
      · have e1 : c / B = 1 := Nat.div_eq_of_lt_le (by omega) (by omega)
        have e2 : c % B = c - B := by have := Nat.div_add_mod c B; rw [e1] at this; omega
        rw [e1, e2]; simp; omega
      · have : c = 2 * B := by omega
        subst this
        rw [Nat.mul_div_cancel _ hB, Nat.mul_mod_left]; simp; omega
  · have hc : B ≤ c := by omega
    have hle : B ≤ q * B := Nat.le_mul_of_pos_left B (by omega)
    rw [if_neg (by omega)]
    by_cases h3 : c < 2 * B
    · have e0 : q * B + c = (c - B) + B * (q + 1) := by rw [Nat.mul_add, Nat.mul_comm B q]; omega
      rw [e0, Nat.add_mul_div_left _ _ hB, Nat.add_mul_mod_self_left, Nat.div_eq_of_lt (by omega), Nat.mod_eq_of_lt (by omega)]
      rw [show B + (c - B) = c by omega, show 0 + (q + 1) - 1 = q by omega]
    · have : c = 2 * B := by omega
      subst this
      have e0 : q * B + 2 * B = B * (q + 2) := by rw [Nat.mul_add, Nat.mul_comm B q, Nat.mul_comm B 2]
      rw [e0, Nat.mul_div_cancel_left _ hB, Nat.mul_mod_right]
      rw [show q + 2 - 1 = q + 1 by omega, Nat.pow_succ]
      simp [Nat.mul_comm, Nat.mul_assoc, Nat.mul_left_comm]
/-- the nearest word: how the magnitude is cut -/
theorem nearest_cut (f : Ieee.Format) (m p : Nat) (hm : m ≠ 0) (hr : f.nearest false m (f.leastPlace - (p : Int)) < f.infRung) :
    ∃ d c, c = Ieee.Toward.even.cut false m d ∧ valR f (f.nearest false m (f.leastPlace - (p : Int))) * 2 ^ p = c * 2 ^ d ∧ p ≤ d ∧ m.log2 ≤ d + f.fractionBits ∧ (d = p ∨ d + f.fractionBits = m.log2) := by
  revert hr
  unfold Ieee.Format.nearest
  simp only [if_neg hm, word_f]
  have hB : f.binade = 2 ^ f.fractionBits := rfl
  generalize hla : max (f.leastPlace - (p : Int) + (m.log2 : Int) - (f.fractionBits : Int)) f.leastPlace = last
  have a0 : (f.leastPlace - (p : Int) - last).toNat = 0 := by omega
  rw [a0, Nat.shiftLeft_zero]
  generalize hd : (last - (f.leastPlace - (p : Int))).toNat = d
  generalize hq : (last - f.leastPlace).toNat = q
  have hdq : d = q + p := by omega
  have hcle : Ieee.Toward.even.cut false m d ≤ 2 * f.binade := by
    refine cut_le _ _ _ _ ?_
    have hlt : m < 2 ^ (m.log2 + 1) := Nat.lt_log2_self
    have e0 : 2 * f.binade = 2 ^ (f.fractionBits + 1) := by rw [hB, Nat.pow_succ, Nat.mul_comm]
    rw [e0, ← Nat.pow_add]
    refine Nat.lt_of_lt_of_le hlt (Nat.pow_le_pow_right (by decide) ?_)
    omega
  intro hr
  rw [Nat.min_def] at hr ⊢
  split at hr
  · rename_i hle
    rw [if_pos hle]
    refine ⟨d, _, rfl, ?_, by omega, by omega, by omega⟩
    rw [valR_cut f q _ hcle ?_, hdq, Nat.pow_add, Nat.mul_assoc]
    by_cases hq0 : q = 0
    · exact .inl hq0
    · right
      refine Nat.le_trans ?_ (cut_ge _ _ _)
      rw [Nat.le_div_iff_mul_le (Nat.two_pow_pos _), hB, ← Nat.pow_add]
      exact Nat.le_trans (Nat.pow_le_pow_right (by decide) (by omega)) (Nat.log2_self_le hm)
  · omega
theorem near_half (k : FloatKind) (m p : Nat) (hr : k.format.nearest false m (k.format.leastPlace - (p : Int)) < k.format.infRung) :
    2 * k.format.binade * (valR k.format (k.format.nearest false m (k.format.leastPlace - (p : Int))) * 2 ^ p) ≤ 2 * k.format.binade * m + m + k.format.binade * 2 ^ p ∧
    2 * k.format.binade * m ≤ 2 * k.format.binade * (valR k.format (k.format.nearest false m (k.format.leastPlace - (p : Int))) * 2 ^ p) + m + k.format.binade * 2 ^ p := by
  by_cases hm : m = 0
  · subst hm; rw [nearest_zero, valR_zero]; simp
  · obtain ⟨d, c, hc, h1, h2, h3, h4⟩ := nearest_cut k.format m p hm hr
    rw [h1]
    obtain ⟨g1, g2⟩ := cut_half m d
    rw [← hc] at g1 g2
    have hb : k.format.binade * 2 ^ d ≤ m + k.format.binade * 2 ^ p := by
      rcases h4 with h | h
      · rw [h]; omega
      · have : k.format.binade * 2 ^ d ≤ m := by
          have hB : k.format.binade = 2 ^ k.format.fractionBits := rfl
          rw [hB, ← Nat.pow_add, Nat.add_comm, h]; exact Nat.log2_self_le hm
        omega
    have g3 := Nat.mul_le_mul_left k.format.binade g1
    have g4 := Nat.mul_le_mul_left k.format.binade g2
    generalize c * 2 ^ d = C at *
    have e1 : k.format.binade * (2 * C) = 2 * k.format.binade * C := by simp [Nat.mul_comm, Nat.mul_left_comm, Nat.mul_assoc]
    have e4 : k.format.binade * (2 * m) = 2 * k.format.binade * m := by simp [Nat.mul_comm, Nat.mul_left_comm, Nat.mul_assoc]
    have e2 : k.format.binade * (2 * m + 2 ^ d) = 2 * k.format.binade * m + k.format.binade * 2 ^ d := by rw [Nat.mul_add, e4]
    have e3 : k.format.binade * (2 * C + 2 ^ d) = 2 * k.format.binade * C + k.format.binade * 2 ^ d := by rw [Nat.mul_add, e1]
    rw [e1, e2] at g3
    rw [e3, e4] at g4
    omega
theorem near_half0 (k : FloatKind) (m : Nat) (hr : k.format.nearest false m k.format.leastPlace < k.format.infRung) :
    2 * k.format.binade * valR k.format (k.format.nearest false m k.format.leastPlace) ≤ 2 * k.format.binade * m + m ∧
    2 * k.format.binade * m ≤ 2 * k.format.binade * valR k.format (k.format.nearest false m k.format.leastPlace) + m := by
  by_cases hm : m = 0
  · subst hm; rw [nearest_zero, valR_zero]; simp
  · have hr' : k.format.nearest false m (k.format.leastPlace - ((0 : Nat) : Int)) < k.format.infRung := by simpa using hr
    obtain ⟨d, c, hc, h1, h2, h3, h4⟩ := nearest_cut k.format m 0 hm hr'
    have e0 : k.format.leastPlace - ((0 : Nat) : Int) = k.format.leastPlace := by simp
    rw [e0, Nat.pow_zero, Nat.mul_one] at h1
    rw [h1]
    obtain ⟨g1, g2⟩ := cut_half m d
    rw [← hc] at g1 g2
    rcases h4 with h | h
    · subst h
      rw [Nat.pow_zero, Nat.mul_one] at *
      have : c = m := by omega
      subst this
      omega
    · have hb : k.format.binade * 2 ^ d ≤ m := by
        have hB : k.format.binade = 2 ^ k.format.fractionBits := rfl
        rw [hB, ← Nat.pow_add, Nat.add_comm, h]; exact Nat.log2_self_le hm
      have g3 := Nat.mul_le_mul_left k.format.binade g1
      have g4 := Nat.mul_le_mul_left k.format.binade g2
      generalize c * 2 ^ d = C at *
      have e1 : k.format.binade * (2 * C) = 2 * k.format.binade * C := by simp [Nat.mul_comm, Nat.mul_left_comm, Nat.mul_assoc]
      have e4 : k.format.binade * (2 * m) = 2 * k.format.binade * m := by simp [Nat.mul_comm, Nat.mul_left_comm, Nat.mul_assoc]
      have e2 : k.format.binade * (2 * m + 2 ^ d) = 2 * k.format.binade * m + k.format.binade * 2 ^ d := by rw [Nat.mul_add, e4]
      have e3 : k.format.binade * (2 * C + 2 ^ d) = 2 * k.format.binade * C + k.format.binade * 2 ^ d := by rw [Nat.mul_add, e1]
      rw [e1, e2] at g3
      rw [e3, e4] at g4
      omega

/-! ### the same as rationals -/
def eh (k : FloatKind) : Rat := ep k / 2
theorem eh_B (k : FloatKind) : 2 * (k.format.binade : Rat) * eh k = 1 := by have := ep_B k; unfold eh; grind
theorem eh_pos (k : FloatKind) : 0 < eh k := by have := ep_pos k; unfold eh; grind
/-- 'r' is what 'x', not negative, is rounded to: half a unit, and 't' -/
def Hf (k : FloatKind) (t x : Rat) (r : Nat) : Prop := r < k.format.infRung → rvR k r ≤ x + eh k * x + t ∧ x ≤ rvR k r + eh k * x + t
theorem Hf_near (k : FloatKind) (m : Nat) : Hf k 0 ((m : Rat) * uU k) (k.format.nearest false m k.format.leastPlace) := by
  intro hr
  obtain ⟨h1, h2⟩ := near_half0 k m hr
  generalize k.format.nearest false m k.format.leastPlace = r at *
  have hU := uU_pos k
  have hE := eh_pos k
  have hB := eh_B k
  have c1 : 2 * (k.format.binade : Rat) * valR k.format r ≤ 2 * k.format.binade * m + m := by exact_mod_cast h1
  have c2 : 2 * (k.format.binade : Rat) * m ≤ 2 * k.format.binade * valR k.format r + m := by exact_mod_cast h2
  have d1 := Rat.mul_le_mul_of_nonneg_right c1 (Rat.le_of_lt (Rat.mul_pos hE hU))
  have d2 := Rat.mul_le_mul_of_nonneg_right c2 (Rat.le_of_lt (Rat.mul_pos hE hU))
  unfold rvR
  generalize (valR k.format r : Rat) = v at *
  generalize (m : Rat) = M at *
  generalize (k.format.binade : Rat) = B at *
  generalize uU k = U at *
  generalize eh k = E at *
  have e1 : 2 * B * v * (E * U) = (2 * B * E) * (v * U) := by grind
  have e2 : (2 * B * M + M) * (E * U) = (2 * B * E) * (M * U) + E * (M * U) := by grind
  have e3 : 2 * B * M * (E * U) = (2 * B * E) * (M * U) := by grind
  have e4 : (2 * B * v + M) * (E * U) = (2 * B * E) * (v * U) + E * (M * U) := by grind
  rw [e1, e2, hB] at d1
  rw [e3, e4, hB] at d2
  constructor <;> grind
theorem Hf_nearS (k : FloatKind) (m p : Nat) (x : Rat) (hx : x * ((2 ^ p : Nat) : Rat) = (m : Rat) * uU k) : Hf k (uU k) x (k.format.nearest false m (k.format.leastPlace - (p : Int))) := by
  intro hr
  obtain ⟨h1, h2⟩ := near_half k m p hr
  generalize k.format.nearest false m (k.format.leastPlace - (p : Int)) = r at *
  have hU := uU_pos k
  have hE := eh_pos k
  have hB := eh_B k
  have hP : (0 : Rat) < ((2 ^ p : Nat) : Rat) := by exact_mod_cast Nat.two_pow_pos p
  have c1 : 2 * (k.format.binade : Rat) * (valR k.format r * ((2 ^ p : Nat) : Rat)) ≤ 2 * k.format.binade * m + m + k.format.binade * ((2 ^ p : Nat) : Rat) := by exact_mod_cast h1
  have c2 : 2 * (k.format.binade : Rat) * m ≤ 2 * k.format.binade * (valR k.format r * ((2 ^ p : Nat) : Rat)) + m + k.format.binade * ((2 ^ p : Nat) : Rat) := by exact_mod_cast h2
  have d1 := Rat.mul_le_mul_of_nonneg_right c1 (Rat.le_of_lt (Rat.mul_pos hE hU))
  have d2 := Rat.mul_le_mul_of_nonneg_right c2 (Rat.le_of_lt (Rat.mul_pos hE hU))
  unfold rvR
  generalize (valR k.format r : Rat) = v at *
  generalize (m : Rat) = M at *
  generalize (k.format.binade : Rat) = B at *
  generalize ((2 ^ p : Nat) : Rat) = P at *
  generalize uU k = U at *
  generalize eh k = E at *
  have e1 : 2 * B * (v * P) * (E * U) = (2 * B * E) * (v * U) * P := by grind
  have e2 : (2 * B * M + M + B * P) * (E * U) = (2 * B * E) * (M * U) + E * (M * U) + (2 * B * E) * (P * U) / 2 := by grind
  have e3 : 2 * B * M * (E * U) = (2 * B * E) * (M * U) := by grind
  have e4 : (2 * B * (v * P) + M + B * P) * (E * U) = (2 * B * E) * (v * U) * P + E * (M * U) + (2 * B * E) * (P * U) / 2 := by grind
  rw [e1, e2, hB, ← hx] at d1
  rw [e3, e4, hB, ← hx] at d2
  have hPU := Rat.mul_pos hP hU
  constructor
  · refine Rat.le_of_mul_le_mul_right (c := P) ?_ hP
    have : (x + E * x + U) * P = x * P + E * (x * P) + P * U := by grind
    rw [this]; grind
  · refine Rat.le_of_mul_le_mul_right (c := P) ?_ hP
    have : (v * U + E * x + U) * P = v * U * P + E * (x * P) + P * U := by grind
    rw [this]; grind
/-- 'c' is the word that 'x' is rounded to, within half a unit -/
def HfS (k : FloatKind) (t x : Rat) (c : Nat) : Prop := Fnt k c → ∀ M, x ≤ M → -M ≤ x → rv k c ≤ x + (eh k * M + t) ∧ x ≤ rv k c + (eh k * M + t)
theorem hfS_of {k : FloatKind} {t x : Rat} {s : Bool} {r : Nat} (hx : 0 ≤ x) (h : Hf k t x r) (hr : r ≤ k.format.infRung) : HfS k t (if s then -x else x) (k.format.word s r) := by
  intro hf M h1 h2
  have hr' : r < k.format.infRung := by
    have := hf.2
    rw [(word_parts k s (r := r) (by have := inf_sw k; omega)).1] at this; exact this
  obtain ⟨g1, g2⟩ := h hr'
  have hE := eh_pos k
  rw [rv_word k _ hr']
  cases s with
  | false =>
    simp only [Bool.false_eq_true, if_false] at *
    have h4 := Rat.mul_le_mul_of_nonneg_left h1 (Rat.le_of_lt hE)
    constructor <;> grind
  | true =>
    simp only [if_true] at *
    have h4 := Rat.mul_le_mul_of_nonneg_left (show x ≤ M by grind) (Rat.le_of_lt hE)
    constructor <;> grind
theorem hfS_int (k : FloatKind) (T : Int) (s : Bool) (hs : T ≠ 0 → s = decide (T < 0)) : HfS k 0 ((T : Rat) * uU k) (k.format.word s (k.format.nearest false T.natAbs k.format.leastPlace)) := by
  have hU := uU_pos k
  have h := hfS_of (s := s) (Rat.mul_nonneg (by exact_mod_cast Nat.zero_le _) (Rat.le_of_lt hU)) (Hf_near k T.natAbs) (nearest_inf _ _ _)
  have e : (T : Rat) * uU k = if s then -((T.natAbs : Rat) * uU k) else (T.natAbs : Rat) * uU k := by
    by_cases h0 : T = 0
    · subst h0; cases s <;> simp
    · have h1 := hs h0
      rcases Int.lt_or_le T 0 with h2 | h2
      · obtain ⟨n, rfl⟩ : ∃ n : Nat, T = -(n : Int) := ⟨(-T).toNat, by omega⟩
        rw [h1]; simp only [h2, decide_true, if_true, Int.natAbs_neg, Int.natAbs_natCast]
        push_cast; grind
      · obtain ⟨n, rfl⟩ : ∃ n : Nat, T = (n : Int) := ⟨T.toNat, by omega⟩
        rw [h1]; simp only [show ¬ ((n : Int) < 0) by omega, decide_false, Int.natAbs_natCast]
        simp [Rat.intCast_natCast]
  rw [e]; exact h
theorem add_half {k : FloatKind} {a b : Nat} (ha : Fnt k a) (hb : Fnt k b) : HfS k 0 (rv k a + rv k b) (fop .add k a b) := by
  obtain ⟨s, r, rfl, hr, hv⟩ := ha.ex
  obtain ⟨t, q, rfl, hq, hw⟩ := hb.ex
  rw [sum_word k s t hr hq]
  have := hfS_int k (sg1 s (valR k.format r) + sg1 t (valR k.format q)) (if sg1 s (valR k.format r) + sg1 t (valR k.format q) = 0 then s && t else decide (sg1 s (valR k.format r) + sg1 t (valR k.format q) < 0)) (fun h => by rw [if_neg h])
  have e : ((sg1 s (valR k.format r) + sg1 t (valR k.format q) : Int) : Rat) * uU k = rv k (k.format.word s r) + rv k (k.format.word t q) := by
    rw [hv, hw, ← sg1_rv, ← sg1_rv]; push_cast; grind
  rw [e] at this
  exact this
theorem sub_half {k : FloatKind} {a b : Nat} (ha : Fnt k a) (hb : Fnt k b) : HfS k 0 (rv k a - rv k b) (fop .sub k a b) := by
  obtain ⟨s, r, rfl, hr, hv⟩ := ha.ex
  obtain ⟨t, q, rfl, hq, hw⟩ := hb.ex
  rw [sub_word k s t hr hq]
  have := hfS_int k (sg1 s (valR k.format r) + sg1 (!t) (valR k.format q)) (if sg1 s (valR k.format r) + sg1 (!t) (valR k.format q) = 0 then s && !t else decide (sg1 s (valR k.format r) + sg1 (!t) (valR k.format q) < 0)) (fun h => by rw [if_neg h])
  have e : ((sg1 s (valR k.format r) + sg1 (!t) (valR k.format q) : Int) : Rat) * uU k = rv k (k.format.word s r) - rv k (k.format.word t q) := by
    rw [hv, hw, ← sg1_rv]
    have : (if t = true then -rvR k q else rvR k q) = - (((sg1 (!t) (valR k.format q) : Int) : Rat) * uU k) := by rw [sg1_rv]; cases t <;> simp
    rw [this]; push_cast; grind
  rw [e] at this
  exact this
theorem mul_half {k : FloatKind} {a b : Nat} (ha : Fnt k a) (hb : Fnt k b) : HfS k (uU k) (rv k a * rv k b) (fop .mul k a b) := by
  obtain ⟨s, r, rfl, hr, hv⟩ := ha.ex
  obtain ⟨t, q, rfl, hq, hw⟩ := hb.ex
  rw [mul_word k s t hr hq]
  have hlp : k.format.leastPlace + k.format.leastPlace = k.format.leastPlace - ((lpN k : Nat) : Int) := by have := lp_N k; omega
  rw [hlp]
  have h1 := Hf_nearS k (valR k.format r * valR k.format q) (lpN k) (rvR k r * rvR k q) (by
    have h2 := uU_two k
    have : rvR k r * rvR k q * ((2 ^ lpN k : Nat) : Rat) = (valR k.format r : Rat) * (valR k.format q : Rat) * uU k * (((2 ^ lpN k : Nat) : Rat) * uU k) := by unfold rvR; grind
    rw [this, h2]; push_cast; grind)
  have h2 := hfS_of (s := s ^^ t) (Rat.mul_nonneg (rvR_nn k r) (rvR_nn k q)) h1 (nearest_inf _ _ _)
  have e : rv k (k.format.word s r) * rv k (k.format.word t q) = if (s ^^ t) = true then -(rvR k r * rvR k q) else rvR k r * rvR k q := by
    rw [hv, hw]; cases s <;> cases t <;> simp <;> grind
  rw [e]; exact h2

end Go.Proofs.Ytpdnjcblkjjegaa

