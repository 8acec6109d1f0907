/- Sums and differences of halves are exact; bits, bytes. No condition. -/
import Derived.Test.YtpdnjcblkjjegaaVAwD
import Derived.Test.YtpdnjcblkjjegaaVAwC
import Derived.Test.YtpdnjcblkjjegaaVAwB
set_option linter.unusedVariables false
namespace Go.Aw

theorem cut_full (s : Bool) (n d : Nat) : Ieee.Toward.even.cut s n d = n / 2 ^ d + (decide (2 ^ d < 2 * (n % 2 ^ d)) || (2 ^ d == 2 * (n % 2 ^ d) && n / 2 ^ d % 2 == 1)).toNat := by
  unfold Ieee.Toward.cut
  simp only [Nat.shiftLeft_eq, Nat.one_mul]
  by_cases h : d ≤ n.log2 + 2
  · rw [Nat.min_eq_left h]
  · have hlt : n < 2 ^ (n.log2 + 1) := Nat.lt_log2_self
    have key : ∀ D, n.log2 + 2 ≤ D → n / 2 ^ D + (decide (2 ^ D < 2 * (n % 2 ^ D)) || (2 ^ D == 2 * (n % 2 ^ D) && n / 2 ^ D % 2 == 1)).toNat = 0 := by
      intro D hD
      have h1 : 2 * 2 ^ (n.log2 + 1) ≤ 2 ^ D := by rw [← Nat.pow_succ']; exact Nat.pow_le_pow_right (by decide) hD
      have h2 : n < 2 ^ D := by omega
      rw [Nat.div_eq_of_lt h2, Nat.mod_eq_of_lt h2, decide_eq_false (by omega)]
      simp
    rw [Nat.min_eq_right (by omega), key _ (Nat.le_refl _), key d (by omega)]
theorem cut_sign (s : Bool) (n d : Nat) : Ieee.Toward.even.cut s n d = Ieee.Toward.even.cut false n d := by rw [cut_full, cut_full]
theorem cut_mono (s t : Bool) {n n' : Nat} (d : Nat) (h : n ≤ n') : Ieee.Toward.even.cut s n d ≤ Ieee.Toward.even.cut t n' d := by
  rw [cut_full, cut_full]
  have hg := Nat.two_pow_pos d
  generalize 2 ^ d = g at *
  have hq := Nat.div_le_div_right (c := g) h
  have hb : ∀ b : Bool, b.toNat ≤ 1 := fun b => by cases b <;> simp
  rcases Nat.lt_or_ge (n / g) (n' / g) with h1 | h1
  · have := hb (decide (g < 2 * (n % g)) || (g == 2 * (n % g) && n / g % 2 == 1)); omega
  · have e : n / g = n' / g := by omega
    have h2 := Nat.div_add_mod n g
    have h3 := Nat.div_add_mod n' g
    rw [e] at h2 ⊢
    have h4 : n % g ≤ n' % g := by omega
    apply Nat.add_le_add_left
    have hi : (decide (g < 2 * (n % g)) || (g == 2 * (n % g) && n' / g % 2 == 1)) = true → (decide (g < 2 * (n' % g)) || (g == 2 * (n' % g) && n' / g % 2 == 1)) = true := by
      simp only [Bool.or_eq_true, Bool.and_eq_true, decide_eq_true_eq, beq_iff_eq]
      rintro (a | ⟨a, b⟩)
      · left; omega
      · rcases Nat.lt_or_ge (n % g) (n' % g) with c | c
        · left; omega
        · right; exact ⟨by omega, b⟩
    revert hi
    generalize (decide (g < 2 * (n % g)) || (g == 2 * (n % g) && n' / g % 2 == 1)) = x
    generalize (decide (g < 2 * (n' % g)) || (g == 2 * (n' % g) && n' / g % 2 == 1)) = y
    cases x <;> cases y <;> simp
theorem nearest_sign (f : Ieee.Format) (s : Bool) (m : Nat) (e : Int) : f.nearest s m e = f.word s (f.nearest false m e) := by
  unfold Ieee.Format.nearest
  by_cases h : m = 0
  · simp only [if_pos h, word_f]
  · simp only [if_neg h, word_f]
    rw [cut_sign s]
theorem log2_mono {m m' : Nat} (h0 : m ≠ 0) (h : m ≤ m') : m.log2 ≤ m'.log2 := (Nat.le_log2 (by omega)).2 (Nat.le_trans (Nat.log2_self_le h0) h)
theorem nearest_zero (f : Ieee.Format) (e : Int) : f.nearest false 0 e = 0 := by simp [Ieee.Format.nearest, Ieee.Format.word]
theorem nearest_mono (f : Ieee.Format) {m m' : Nat} (e : Int) (h : m ≤ m') : f.nearest false m e ≤ f.nearest false m' e := by
  by_cases h0 : m = 0
  · rw [h0, nearest_zero]; exact Nat.zero_le _
  · have h0' : m' ≠ 0 := by omega
    have hl : m.log2 ≤ m'.log2 := log2_mono h0 h
    unfold Ieee.Format.nearest
    simp only [if_neg h0, if_neg h0', word_f]
    have hB : f.binade = 2 ^ f.fractionBits := rfl
    generalize hla : max (e + (m.log2 : Int) - (f.fractionBits : Int)) f.leastPlace = last
    generalize hlb : max (e + (m'.log2 : Int) - (f.fractionBits : Int)) f.leastPlace = last'
    have hle : last ≤ last' := by omega
    have hlp : f.leastPlace ≤ last := by omega
    rcases (show last = last' ∨ last < last' by omega) with he | he
    · subst he
      have := cut_mono false false (last - e).toNat (Nat.mul_le_mul_right (2 ^ (e - last).toNat) h)
      rw [← Nat.shiftLeft_eq, ← Nat.shiftLeft_eq] at this
      omega
    · have hlt : m < 2 ^ (m.log2 + 1) := Nat.lt_log2_self
      have k1 : Ieee.Toward.even.cut false (m <<< (e - last).toNat) (last - e).toNat ≤ 2 * f.binade := by
        refine cut_le _ _ _ _ ?_
        rw [Nat.shiftLeft_eq, log2_mul_pow h0, hB]
        have e0 : 2 * 2 ^ f.fractionBits = 2 ^ (f.fractionBits + 1) := by rw [Nat.pow_succ, Nat.mul_comm]
        rw [e0, ← Nat.pow_add]
        by_cases h1 : last ≤ e
        · have a1 : (last - e).toNat = 0 := by omega
          rw [a1, Nat.zero_min, Nat.add_zero]
          calc m * 2 ^ (e - last).toNat < 2 ^ (m.log2 + 1) * 2 ^ (e - last).toNat := Nat.mul_lt_mul_of_pos_right hlt (Nat.two_pow_pos _)
            _ = 2 ^ (m.log2 + 1 + (e - last).toNat) := (Nat.pow_add ..).symm
            _ ≤ 2 ^ (f.fractionBits + 1) := Nat.pow_le_pow_right (by decide) (by omega)
        · have a1 : (e - last).toNat = 0 := by omega
          rw [a1, Nat.pow_zero, Nat.mul_one, Nat.add_zero]
          refine Nat.lt_of_lt_of_le hlt (Nat.pow_le_pow_right (by decide) ?_)
          omega
      have k2 : f.binade ≤ Ieee.Toward.even.cut false (m' <<< (e - last').toNat) (last' - e).toNat := by
        refine Nat.le_trans ?_ (cut_ge _ _ _)
        rw [Nat.le_div_iff_mul_le (Nat.two_pow_pos _), Nat.shiftLeft_eq, hB, ← Nat.pow_add]
        calc 2 ^ (f.fractionBits + (last' - e).toNat) ≤ 2 ^ (m'.log2 + (e - last').toNat) := Nat.pow_le_pow_right (by decide) (by omega)
          _ = 2 ^ m'.log2 * 2 ^ (e - last').toNat := Nat.pow_add ..
          _ ≤ m' * 2 ^ (e - last').toNat := Nat.mul_le_mul_right _ (Nat.log2_self_le h0')
      have k4 : ((last - f.leastPlace).toNat + 1) * f.binade ≤ (last' - f.leastPlace).toNat * f.binade := Nat.mul_le_mul_right _ (by omega)
      rw [Nat.add_mul, Nat.one_mul] at k4
      omega

/-! ### numbers as multiples of the least place -/
theorem nearest_valR (k : FloatKind) {r : Nat} (hr : r < k.format.infRung) : k.format.nearest false (valR k.format r) k.format.leastPlace = r := by
  obtain ⟨h1, h2⟩ := nearest_read k.format (fmt_sum k) false r hr
  rw [word_f] at h1 h2
  unfold valR
  by_cases h : r < k.format.binade
  · rw [if_pos h]; exact h1 h
  · rw [if_neg h]
    have := nearest_scale k.format false (k.format.binade + r % k.format.binade) (r / k.format.binade - 1) (k.format.leastPlace + ((r / k.format.binade - 1 : Nat) : Int))
    rw [Int.add_sub_cancel] at this
    rw [this]; exact h2 (by omega)
def oneK : FloatKind → Nat
  | .f32 => 1065353216
  | .f64 => 4607182418800017408
def lpN : FloatKind → Nat
  | .f32 => 149
  | .f64 => 1074
theorem lp_N (k : FloatKind) : k.format.leastPlace = -(lpN k : Int) := by cases k <;> decide
theorem one_val (k : FloatKind) : valR k.format (oneK k) = 2 ^ lpN k := by cases k <;> decide +kernel
theorem one_inf (k : FloatKind) : oneK k < k.format.infRung := by cases k <;> decide +kernel
theorem inf_sw (k : FloatKind) : k.format.infRung < k.format.signWeight := by have := fmt_sum k; have := fmt_bin k; omega
theorem valR_mono (f : Ieee.Format) {r r' : Nat} (h : r ≤ r') : valR f r ≤ valR f r' := by
  rcases Nat.lt_or_ge r r' with h1 | h1
  · exact Nat.le_of_lt (valR_lt f h1)
  · rw [show r = r' by omega]; exact Nat.le_refl _
theorem nearest_inf (f : Ieee.Format) (m : Nat) (e : Int) : f.nearest false m e ≤ f.infRung := by
  unfold Ieee.Format.nearest
  by_cases h : m = 0
  · simp only [if_pos h, word_f]; exact Nat.zero_le _
  · simp only [if_neg h, word_f]; exact Nat.min_le_right _ _
theorem near_one (k : FloatKind) (p : Nat) : k.format.nearest false (2 ^ p) (-(p : Int)) = oneK k := by
  have h1 := nearest_valR k (one_inf k)
  rw [one_val, lp_N] at h1
  rcases Nat.le_total p (lpN k) with h | h
  · have := nearest_scale k.format false (2 ^ p) (lpN k - p) (-(p : Int))
    rw [← Nat.pow_add] at this
    rw [← this]
    have e1 : p + (lpN k - p) = lpN k := by omega
    have e2 : -(p : Int) - ((lpN k - p : Nat) : Int) = -(lpN k : Int) := by omega
    rw [e1, e2]; exact h1
  · have := nearest_scale k.format false (2 ^ lpN k) (p - lpN k) (-(lpN k : Int))
    rw [← Nat.pow_add] at this
    have e1 : lpN k + (p - lpN k) = p := by omega
    have e2 : -(lpN k : Int) - ((p - lpN k : Nat) : Int) = -(p : Int) := by omega
    rw [e1, e2] at this
    rw [this]; exact h1
theorem canon_word (k : FloatKind) (s : Bool) {r : Nat} (h : r ≤ k.format.infRung) : canon k (k.format.word s r) = k.format.word s r := by
  refine canon_not ?_
  rw [isNan_rung, (word_parts k s (by have := inf_sw k; omega)).1]
  exact decide_eq_false (by omega)
theorem read_word (k : FloatKind) (s : Bool) {r : Nat} (h : r < k.format.infRung) : ∃ (m i : Nat), k.format.read (k.format.word s r) = .number s m (k.format.leastPlace + (i : Int)) ∧ m * 2 ^ i = valR k.format r := by
  obtain ⟨w1, w2, w3⟩ := word_parts k s (r := r) (by have := inf_sw k; omega)
  obtain ⟨m, i, h1, h2⟩ := read_val (k := k) (c := k.format.word s r) (by rw [w1]; exact h)
  rw [w1] at h2
  rw [w2] at h1
  exact ⟨m, i, h1, h2⟩
theorem near_le (k : FloatKind) {r m : Nat} (hr : r < k.format.infRung) (h : m ≤ valR k.format r) : k.format.nearest false m k.format.leastPlace ≤ r := by
  have := nearest_mono k.format k.format.leastPlace h
  rw [nearest_valR k hr] at this; exact this
theorem near_ge (k : FloatKind) {r m : Nat} (hr : r < k.format.infRung) (h : valR k.format r ≤ m) : r ≤ k.format.nearest false m k.format.leastPlace := by
  have := nearest_mono k.format k.format.leastPlace h
  rw [nearest_valR k hr] at this; exact this

theorem fop_eq {op : BinOp} {k : FloatKind} {a b : Nat} {s : Bool} {m : Nat} {e : Int} (h : floatBits op k a b = some (k.format.nearest s m e)) : fop op k a b = k.format.word s (k.format.nearest false m e) := by
  unfold fop; rw [h]
  simp only []
  rw [nearest_sign]; exact canon_word k s (nearest_inf _ _ _)
theorem mul_word (k : FloatKind) (s t : Bool) {r q : Nat} (hr : r < k.format.infRung) (hq : q < k.format.infRung) :
    fop .mul k (k.format.word s r) (k.format.word t q) = k.format.word (s ^^ t) (k.format.nearest false (valR k.format r * valR k.format q) (k.format.leastPlace + k.format.leastPlace)) := by
  obtain ⟨m, i, h1, h2⟩ := read_word k s hr
  obtain ⟨n, j, g1, g2⟩ := read_word k t hq
  have hf : floatBits .mul k (k.format.word s r) (k.format.word t q) = some (k.format.nearest (s ^^ t) (m * n) (k.format.leastPlace + (i : Int) + (k.format.leastPlace + (j : Int)))) := by
    unfold floatBits; simp only []; unfold Ieee.Format.mul
    rw [h1, g1]; rfl
  rw [fop_eq hf, ← h2, ← g2]
  have := nearest_scale k.format false (m * n) (i + j) (k.format.leastPlace + (i : Int) + (k.format.leastPlace + (j : Int)))
  rw [← this]
  congr 2
  · rw [Nat.pow_add, Nat.mul_mul_mul_comm]
  · omega
theorem sum_word (k : FloatKind) (s t : Bool) {r q : Nat} (hr : r < k.format.infRung) (hq : q < k.format.infRung) :
    fop .add k (k.format.word s r) (k.format.word t q) = k.format.word (if sg1 s (valR k.format r) + sg1 t (valR k.format q) = 0 then s && t else decide (sg1 s (valR k.format r) + sg1 t (valR k.format q) < 0))
      (k.format.nearest false (sg1 s (valR k.format r) + sg1 t (valR k.format q)).natAbs k.format.leastPlace) := by
  obtain ⟨m, i, h1, h2⟩ := read_word k s hr
  obtain ⟨n, j, g1, g2⟩ := read_word k t hq
  have hmin : min (k.format.leastPlace + (i : Int)) (k.format.leastPlace + (j : Int)) = k.format.leastPlace + ((min i j : Nat) : Int) := by omega
  generalize hT : sg1 s (m * 2 ^ (i - min i j)) + sg1 t (n * 2 ^ (j - min i j)) = T
  have hp : (0 : Int) < ((2 ^ min i j : Nat) : Int) := by have := Nat.two_pow_pos (min i j); omega
  have hV : sg1 s (valR k.format r) + sg1 t (valR k.format q) = T * ((2 ^ min i j : Nat) : Int) := by
    rw [← h2, ← g2, ← hT, Int.add_mul, ← sg1_mul, ← sg1_mul, Nat.mul_assoc, Nat.mul_assoc, ← Nat.pow_add, ← Nat.pow_add]
    congr 4 <;> congr 2 <;> omega
  have hf : floatBits .add k (k.format.word s r) (k.format.word t q) = some (k.format.nearest (if T = 0 then s && t else decide (T < 0)) T.natAbs (k.format.leastPlace + ((min i j : Nat) : Int))) := by
    unfold floatBits; simp only []; unfold Ieee.Format.add
    rw [h1, g1]
    simp only [Ieee.Datum.sum, Option.map_some, Ieee.Format.write]
    rw [hmin, signed_eq, signed_eq]
    have e1 : (k.format.leastPlace + (i : Int) - (k.format.leastPlace + ((min i j : Nat) : Int))).toNat = i - min i j := by omega
    have e2 : (k.format.leastPlace + (j : Int) - (k.format.leastPlace + ((min i j : Nat) : Int))).toNat = j - min i j := by omega
    rw [e1, e2, hT]
  rw [fop_eq hf, hV]
  have z1 : (T * ((2 ^ min i j : Nat) : Int) = 0) = (T = 0) := by
    apply propext; constructor
    · intro h; rcases Int.mul_eq_zero.1 h with h | h
      · exact h
      · omega
    · intro h; rw [h, Int.zero_mul]
  have z2 : (T * ((2 ^ min i j : Nat) : Int) < 0) = (T < 0) := by
    apply propext; constructor
    · intro h
      rcases Int.lt_or_le T 0 with h' | h'
      · exact h'
      · have := Int.mul_nonneg h' (Int.le_of_lt hp); omega
    · intro h; exact Int.mul_neg_of_neg_of_pos h hp
  simp only [z1, z2]
  have := nearest_scale k.format false T.natAbs (min i j) (k.format.leastPlace + ((min i j : Nat) : Int))
  rw [Int.add_sub_cancel] at this
  rw [← this, Int.natAbs_mul, Int.natAbs_natCast]
theorem quo_le1 (k : FloatKind) (s t : Bool) {r q : Nat} (hrq : r ≤ q) (hq : q < k.format.infRung) (hq0 : 0 < q) :
    ∃ r', r' ≤ oneK k ∧ fop .quo k (k.format.word s r) (k.format.word t q) = k.format.word (s ^^ t) r' := by
  obtain ⟨m, i, h1, h2⟩ := read_word k s (r := r) (by omega)
  obtain ⟨n, j, g1, g2⟩ := read_word k t hq
  have hv := valR_mono k.format hrq
  have hv0 := valR_lt k.format hq0
  rw [valR_zero] at hv0
  have hn : n ≠ 0 := by intro h; rw [h, Nat.zero_mul] at g2; omega
  rw [← h2, ← g2] at hv
  generalize hd : k.format.fractionBits + 2 = d
  have hd1 : 1 ≤ d := by omega
  generalize hmo : d + n.log2 - m.log2 = more
  have hf : floatBits .quo k (k.format.word s r) (k.format.word t q) = some (k.format.nearest (s ^^ t) (2 * ((m * 2 ^ more) / n) + ((m * 2 ^ more) % n != 0).toNat) (k.format.leastPlace + (i : Int) - (k.format.leastPlace + (j : Int)) - (more : Int) - 1)) := by
    unfold floatBits; simp only []; unfold Ieee.Format.div
    rw [h1, g1]
    simp only [Ieee.Datum.quotient, if_neg hn, Option.map_some, Ieee.Format.write, hd, hmo, Nat.shiftLeft_eq]
  refine ⟨_, ?_, fop_eq hf⟩
  by_cases hm : m = 0
  · rw [hm, Nat.zero_mul, Nat.zero_div, Nat.zero_mod]
    have : (2 * 0 + ((0 : Nat) != 0).toNat) = 0 := rfl
    rw [this, nearest_zero]; exact Nat.zero_le _
  · have hbig : n < m * 2 ^ more := by
      have a1 : n < 2 ^ (n.log2 + 1) := Nat.lt_log2_self
      have a2 : 2 ^ (m.log2 + more) ≤ m * 2 ^ more := by rw [Nat.pow_add]; exact Nat.mul_le_mul_right _ (Nat.log2_self_le hm)
      have a3 : 2 ^ (n.log2 + 1) ≤ 2 ^ (m.log2 + more) := Nat.pow_le_pow_right (by decide) (by omega)
      omega
    have hij : i ≤ j + more := by
      rcases Nat.lt_or_ge (j + more) i with h | h
      · exfalso
        have a1 : m * 2 ^ i = (m * 2 ^ more) * 2 ^ (i - more) := by rw [Nat.mul_assoc, ← Nat.pow_add]; congr 2; omega
        have a2 : 2 ^ j ≤ 2 ^ (i - more) := Nat.pow_le_pow_right (by decide) (by omega)
        have a3 : n * 2 ^ j < (m * 2 ^ more) * 2 ^ (i - more) := Nat.lt_of_lt_of_le (Nat.mul_lt_mul_of_pos_right hbig (Nat.two_pow_pos _)) (Nat.mul_le_mul_left _ a2)
        omega
      · exact h
    have hle : m * 2 ^ more ≤ n * 2 ^ (j + more - i) := by
      have a1 : (m * 2 ^ more) * 2 ^ i ≤ (n * 2 ^ (j + more - i)) * 2 ^ i := by
        calc (m * 2 ^ more) * 2 ^ i = (m * 2 ^ i) * 2 ^ more := by rw [Nat.mul_assoc, Nat.mul_assoc, Nat.mul_comm (2 ^ more)]
          _ ≤ (n * 2 ^ j) * 2 ^ more := Nat.mul_le_mul_right _ hv
          _ = (n * 2 ^ (j + more - i)) * 2 ^ i := by rw [Nat.mul_assoc, Nat.mul_assoc, ← Nat.pow_add, ← Nat.pow_add]; congr 2; omega
      exact Nat.le_of_mul_le_mul_right a1 (Nat.two_pow_pos i)
    have hD : 2 * ((m * 2 ^ more) / n) + ((m * 2 ^ more) % n != 0).toNat ≤ 2 ^ (j + more - i + 1) := by
      rw [Nat.pow_succ, Nat.mul_comm (2 ^ _) 2]
      generalize m * 2 ^ more = a at *
      generalize 2 ^ (j + more - i) = X at *
      have b1 := Nat.div_add_mod a n
      have b2 : a / n ≤ X := Nat.div_le_of_le_mul hle
      have hb : ∀ b : Bool, b.toNat ≤ 1 := fun b => by cases b <;> simp
      rcases Nat.lt_or_ge (a / n) X with h | h
      · have := hb (a % n != 0); omega
      · have e : a / n = X := by omega
        rw [e] at b1 ⊢
        have : a % n = 0 := by omega
        rw [this]; simp
    have e : k.format.leastPlace + (i : Int) - (k.format.leastPlace + (j : Int)) - (more : Int) - 1 = -((j + more - i + 1 : Nat) : Int) := by omega
    rw [e, ← near_one k (j + more - i + 1)]
    exact nearest_mono k.format _ hD
end Go.Aw

set_option linter.unusedVariables false
set_option maxRecDepth 20000
namespace Go.Aw

/-! ### what is not above nought -/
end Go.Aw

set_option linter.unusedVariables false
namespace Go.Aw
section
variable {P : Program} {o : Oper} {F : List Nat} {ρ : Fr} {η : Hp}
end
end Go.Aw

set_option linter.unusedVariables false
set_option maxRecDepth 20000
namespace Go.Aw

theorem sub_word (k : FloatKind) (s t : Bool) {r q : Nat} (hr : r < k.format.infRung) (hq : q < k.format.infRung) :
    fop .sub k (k.format.word s r) (k.format.word t q) = k.format.word (if sg1 s (valR k.format r) + sg1 (!t) (valR k.format q) = 0 then s && !t else decide (sg1 s (valR k.format r) + sg1 (!t) (valR k.format q) < 0))
      (k.format.nearest false (sg1 s (valR k.format r) + sg1 (!t) (valR k.format q)).natAbs k.format.leastPlace) := by
  obtain ⟨m, i, h1, h2⟩ := read_word k s hr
  obtain ⟨n, j, g1, g2⟩ := read_word k t hq
  have hmin : min (k.format.leastPlace + (i : Int)) (k.format.leastPlace + (j : Int)) = k.format.leastPlace + ((min i j : Nat) : Int) := by omega
  generalize hT : sg1 s (m * 2 ^ (i - min i j)) + sg1 (!t) (n * 2 ^ (j - min i j)) = T
  have hp : (0 : Int) < ((2 ^ min i j : Nat) : Int) := by have := Nat.two_pow_pos (min i j); omega
  have hV : sg1 s (valR k.format r) + sg1 (!t) (valR k.format q) = T * ((2 ^ min i j : Nat) : Int) := by
    rw [← h2, ← g2, ← hT, Int.add_mul, ← sg1_mul, ← sg1_mul, Nat.mul_assoc, Nat.mul_assoc, ← Nat.pow_add, ← Nat.pow_add]
    congr 4 <;> congr 2 <;> omega
  have hf : floatBits .sub k (k.format.word s r) (k.format.word t q) = some (k.format.nearest (if T = 0 then s && !t else decide (T < 0)) T.natAbs (k.format.leastPlace + ((min i j : Nat) : Int))) := by
    unfold floatBits; simp only []; unfold Ieee.Format.sub
    rw [h1, g1]
    simp only [Ieee.Datum.opposite, Ieee.Datum.sum, Option.map_some, Ieee.Format.write]
    rw [hmin, signed_eq, signed_eq]
    have e1 : (k.format.leastPlace + (i : Int) - (k.format.leastPlace + ((min i j : Nat) : Int))).toNat = i - min i j := by omega
    have e2 : (k.format.leastPlace + (j : Int) - (k.format.leastPlace + ((min i j : Nat) : Int))).toNat = j - min i j := by omega
    rw [e1, e2, hT]
  rw [fop_eq hf, hV]
  have z1 : (T * ((2 ^ min i j : Nat) : Int) = 0) = (T = 0) := by
    apply propext; constructor
    · intro h; rcases Int.mul_eq_zero.1 h with h | h
      · exact h
      · omega
    · intro h; rw [h, Int.zero_mul]
  have z2 : (T * ((2 ^ min i j : Nat) : Int) < 0) = (T < 0) := by
    apply propext; constructor
    · intro h
      rcases Int.lt_or_le T 0 with h' | h'
      · exact h'
      · have := Int.mul_nonneg h' (Int.le_of_lt hp); omega
    · intro h; exact Int.mul_neg_of_neg_of_pos h hp
  simp only [z1, z2]
  have := nearest_scale k.format false T.natAbs (min i j) (k.format.leastPlace + ((min i j : Nat) : Int))
  rw [Int.add_sub_cancel] at this
  rw [← this, Int.natAbs_mul, Int.natAbs_natCast]

/-- the rung of n halves -/
def hr (k : FloatKind) (n : Nat) : Nat := k.format.nearest false n (-1)
/-- a whole number of halves -/
def hw (k : FloatKind) (a : Int) : Nat := k.format.word (decide (a < 0)) (hr k a.natAbs)
end Go.Aw

set_option linter.unusedVariables false
namespace Go.Aw
def ibit (op : BinOp) (k : IntKind) (x y : Int) : Int := k.wrap ((match op with
  | .and => BitVec.ofInt k.bits x &&& BitVec.ofInt k.bits y
  | .or => BitVec.ofInt k.bits x ||| BitVec.ofInt k.bits y
  | _ => BitVec.ofInt k.bits x &&& ~~~ BitVec.ofInt k.bits y : BitVec k.bits).toNat)
def ishr (k : IntKind) (x y : Int) : Int := x.fdiv (2 ^ (min y.toNat k.bits))
section
variable {P : Program} {ty : Ty} {o : Oper} {F : List Nat} {ρ : Fr} {η : Hp}
theorem q_ibit {op : BinOp} {t u : TypeId} {x y : Operand} {k : IntKind} {m n : Int} (ho : o.op = .binOp op t x y u) (hop : op = .and ∨ op = .or ∨ op = .andNot)
    (hx : evA ρ x = .t (.v (.int k m))) (hy : evA ρ y = .t (.v (.int k n))) : QRun P o F [] ρ η (.t (.v (.int k (ibit op k m n)))) (lkH []) := by
  refine qrun_v fun vs w0 μ η' a w h1 h2 h3 => ?_
  have hx' := h3 x (by simp [ho, Op.operands])
  have hy' := h3 y (by simp [ho, Op.operands])
  rw [hx, VR, TR] at hx'; rw [hy, VR, TR] at hy'
  rcases hop with rfl | rfl | rfl <;> simp [execOp, ho, hx', hy', eqGuard, binOp, Op.intBits, ibit]
theorem q_shr {t u : TypeId} {x y : Operand} {k j : IntKind} {m n : Int} (ho : o.op = .binOp .shr t x y u) (hn : 0 ≤ n)
    (hx : evA ρ x = .t (.v (.int k m))) (hy : evA ρ y = .t (.v (.int j n))) : QRun P o F [] ρ η (.t (.v (.int k (ishr k m n)))) (lkH []) := by
  refine qrun_v fun vs w0 μ η' a w h1 h2 h3 => ?_
  have hx' := h3 x (by simp [ho, Op.operands])
  have hy' := h3 y (by simp [ho, Op.operands])
  rw [hx, VR, TR] at hx'; rw [hy, VR, TR] at hy'
  have hn' : ¬ n < 0 := by omega
  simp [execOp, ho, hx', hy', eqGuard, binOp, Op.shift, ishr, hn']
end
end Go.Aw

set_option linter.unusedVariables false
namespace Go.Aw
open Go.ChangeShapes Go.WideShapes Go.ChangeAt Go.RowKit
section
variable {H : Type} {enc : TypeId × Value → H} {P : Program} {w : World} {base : Nat} {spare : Nat → Bool} {held : Bool} {r : Reach} {b0 : Nat}
theorem trod_u8 {n : Nat} {t : TypeId} {v : Value} {y : DataW H × List MemPlace} (ht : P.underlying t = some (.int .u8)) (h : DataW.trod enc P w base spare held n t [v] = some y) : ∃ m : Nat, v = .int .u8 (m : Int) ∧ m < 256 := by
  cases n with
  | zero => simp [DataW.trod] at h
  | succ n =>
    cases v <;> simp only [DataW.trod, ht] at h <;> first | cases h | skip
    rename_i k b
    cases k <;> simp at h
    have hw := h.1
    simp [Lit.wf, IntKind.min, IntKind.max, IntKind.signed, IntKind.bits] at hw
    exact ⟨b.toNat, by rw [Int.toNat_of_nonneg (by omega)], by omega⟩
theorem open_U8 {t tf : TypeId} {v : Value} {d : DataW H} {p : List MemPlace} (ht : P.underlying t = some (.slice tf)) (hf : P.underlying tf = some (.int .u8)) (hc : P.cellsOf tf = 1)
    (hlt : ∀ x ∈ p, x.block < w.heap.size) (h : DataW.Trod enc P w base (fun _ => true) held t v d p) (hv : Value.okWide P w r b0 t v) :
    ∃ l : List Nat, (l.length ≤ 9223372036854775807 ∧ ∀ i, i < l.length → l.getD i 0 < 256) ∧ ∀ ok, (∀ b, ok b) → TR w ok (.tl (l.map fun x : Nat => T.v (.int .u8 (x : Int)))) v := by
  obtain ⟨fuel, hfu⟩ := h
  obtain ⟨a0, len, cap, rfl⟩ := okWide_slice ht hv
  obtain ⟨len', a, cap', he, h1, h2, h3⟩ := trod_sl1 ht hc hlt hfu
  cases he
  rcases h3 with h0 | ⟨b, off, rfl, hb, hel⟩
  · subst h0
    exact ⟨[], ⟨by simp, fun i hi => by simp at hi⟩, fun ok hok => by rw [TR]; exact ⟨_, _, _, rfl, rfl, h1, .inl rfl⟩⟩
  · obtain ⟨l, hl, hp⟩ := exists_list (0 : Nat) (p := fun i m => w.cell? ⟨b, off + i, none⟩ = some (.int .u8 (m : Int)) ∧ m < 256) (fun i hi => by
      obtain ⟨V, k, y', g1, g2, _⟩ := hel i hi
      obtain ⟨m, rfl, g3⟩ := trod_u8 hf g2
      exact ⟨m, g1, g3⟩)
    refine ⟨l, ⟨by omega, fun i hi => (hp i (by omega)).2⟩, fun ok hok => ?_⟩
    rw [TR]
    refine ⟨_, _, _, rfl, by simp [hl], h1, .inr ⟨b, off, rfl, hb, hok b, (TRs_iff ..).2 fun i t hi => ?_⟩⟩
    rw [List.getElem?_map] at hi
    obtain ⟨x, hx, rfl⟩ := Option.map_eq_some_iff.1 hi
    have hil : i < l.length := (List.getElem?_eq_some_iff.1 hx).1
    have hg : l.getD i 0 = x := by rw [List.getD_eq_getElem?_getD, hx]; rfl
    refine ⟨_, (hp i (by omega)).1, ?_⟩
    rw [TR, hg]
end
end Go.Aw

