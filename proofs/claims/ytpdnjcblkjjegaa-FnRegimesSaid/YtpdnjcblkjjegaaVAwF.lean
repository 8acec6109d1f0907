/- Rounding keeps the order; the exponential. No condition. -/
import Derived.Test.YtpdnjcblkjjegaaVAwD
import Derived.Test.YtpdnjcblkjjegaaVAwC
import Derived.Test.YtpdnjcblkjjegaaVAwE
set_option linter.unusedVariables false
namespace Go.Aw

theorem cut_full (s : Bool) (n d : Nat) : Ieee.Toward.even.cut s n d = n / 2 ^ d + (decide (2 ^ d < 2 * (n % 2 ^ d)) || (2 ^ d == 2 * (n % 2 ^ d) && n / 2 ^ d % 2 == 1)).toNat := by
  unfold Ieee.Toward.cut
  simp only [Nat.shiftLeft_eq, Nat.one_mul]
  by_cases h : d ≤ n.log2 + 2
  · rw [Nat.min_eq_left h]
  · have hlt : n < 2 ^ (n.log2 + 1) := Nat.lt_log2_self
    have key : ∀ D, n.log2 + 2 ≤ D → n / 2 ^ D + (decide (2 ^ D < 2 * (n % 2 ^ D)) || (2 ^ D == 2 * (n % 2 ^ D) && n / 2 ^ D % 2 == 1)).toNat = 0 := by
      intro D hD
      have h1 : 2 * 2 ^ (n.log2 + 1) ≤ 2 ^ D := by rw [← Nat.pow_succ']; exact Nat.pow_le_pow_right (by decide) hD
      have h2 : n < 2 ^ D := by omega
      rw [Nat.div_eq_of_lt h2, Nat.mod_eq_of_lt h2, decide_eq_false (by omega)]
      simp
    rw [Nat.min_eq_right (by omega), key _ (Nat.le_refl _), key d (by omega)]
theorem cut_sign (s : Bool) (n d : Nat) : Ieee.Toward.even.cut s n d = Ieee.Toward.even.cut false n d := by rw [cut_full, cut_full]
theorem cut_mono (s t : Bool) {n n' : Nat} (d : Nat) (h : n ≤ n') : Ieee.Toward.even.cut s n d ≤ Ieee.Toward.even.cut t n' d := by
  rw [cut_full, cut_full]
  have hg := Nat.two_pow_pos d
  generalize 2 ^ d = g at *
  have hq := Nat.div_le_div_right (c := g) h
  have hb : ∀ b : Bool, b.toNat ≤ 1 := fun b => by cases b <;> simp
  rcases Nat.lt_or_ge (n / g) (n' / g) with h1 | h1
  · have := hb (decide (g < 2 * (n % g)) || (g == 2 * (n % g) && n / g % 2 == 1)); omega
  · have e : n / g = n' / g := by omega
    have h2 := Nat.div_add_mod n g
    have h3 := Nat.div_add_mod n' g
    rw [e] at h2 ⊢
    have h4 : n % g ≤ n' % g := by omega
    apply Nat.add_le_add_left
    have hi : (decide (g < 2 * (n % g)) || (g == 2 * (n % g) && n' / g % 2 == 1)) = true → (decide (g < 2 * (n' % g)) || (g == 2 * (n' % g) && n' / g % 2 == 1)) = true := by
      simp only [Bool.or_eq_true, Bool.and_eq_true, decide_eq_true_eq, beq_iff_eq]
      rintro (a | ⟨a, b⟩)
      · left; omega
      · rcases Nat.lt_or_ge (n % g) (n' % g) with c | c
        · left; omega
        · right; exact ⟨by omega, b⟩
    revert hi
    generalize (decide (g < 2 * (n % g)) || (g == 2 * (n % g) && n' / g % 2 == 1)) = x
    generalize (decide (g < 2 * (n' % g)) || (g == 2 * (n' % g) && n' / g % 2 == 1)) = y
    cases x <;> cases y <;> simp
theorem nearest_sign (f : Ieee.Format) (s : Bool) (m : Nat) (e : Int) : f.nearest s m e = f.word s (f.nearest false m e) := by
  unfold Ieee.Format.nearest
  by_cases h : m = 0
  · simp only [if_pos h, word_f]
  · simp only [if_neg h, word_f]
    rw [cut_sign s]
theorem log2_mono {m m' : Nat} (h0 : m ≠ 0) (h : m ≤ m') : m.log2 ≤ m'.log2 := (Nat.le_log2 (by omega)).2 (Nat.le_trans (Nat.log2_self_le h0) h)
theorem nearest_zero (f : Ieee.Format) (e : Int) : f.nearest false 0 e = 0 := by simp [Ieee.Format.nearest, Ieee.Format.word]
theorem nearest_mono (f : Ieee.Format) {m m' : Nat} (e : Int) (h : m ≤ m') : f.nearest false m e ≤ f.nearest false m' e := by
  by_cases h0 : m = 0
  · rw [h0, nearest_zero]; exact Nat.zero_le _
  · have h0' : m' ≠ 0 := by omega
    have hl : m.log2 ≤ m'.log2 := log2_mono h0 h
    unfold Ieee.Format.nearest
    simp only [if_neg h0, if_neg h0', word_f]
    have hB : f.binade = 2 ^ f.fractionBits := rfl
    generalize hla : max (e + (m.log2 : Int) - (f.fractionBits : Int)) f.leastPlace = last
    generalize hlb : max (e + (m'.log2 : Int) - (f.fractionBits : Int)) f.leastPlace = last'
    have hle : last ≤ last' := by omega
    have hlp : f.leastPlace ≤ last := by omega
    rcases (show last = last' ∨ last < last' by omega) with he | he
    · subst he
      have := cut_mono false false (last - e).toNat (Nat.mul_le_mul_right (2 ^ (e - last).toNat) h)
      rw [← Nat.shiftLeft_eq, ← Nat.shiftLeft_eq] at this
      omega
    · have hlt : m < 2 ^ (m.log2 + 1) := Nat.lt_log2_self
      have k1 : Ieee.Toward.even.cut false (m <<< (e - last).toNat) (last - e).toNat ≤ 2 * f.binade := by
        refine cut_le _ _ _ _ ?_
        rw [Nat.shiftLeft_eq, log2_mul_pow h0, hB]
        have e0 : 2 * 2 ^ f.fractionBits = 2 ^ (f.fractionBits + 1) := by rw [Nat.pow_succ, Nat.mul_comm]
        rw [e0, ← Nat.pow_add]
        by_cases h1 : last ≤ e
        · have a1 : (last - e).toNat = 0 := by omega
          rw [a1, Nat.zero_min, Nat.add_zero]
          calc m * 2 ^ (e - last).toNat < 2 ^ (m.log2 + 1) * 2 ^ (e - last).toNat := Nat.mul_lt_mul_of_pos_right hlt (Nat.two_pow_pos _)
            _ = 2 ^ (m.log2 + 1 + (e - last).toNat) := (Nat.pow_add ..).symm
            _ ≤ 2 ^ (f.fractionBits + 1) := Nat.pow_le_pow_right (by decide) (by omega)
        · have a1 : (e - last).toNat = 0 := by omega
          rw [a1, Nat.pow_zero, Nat.mul_one, Nat.add_zero]
          refine Nat.lt_of_lt_of_le hlt (Nat.pow_le_pow_right (by decide) ?_)
          omega
      have k2 : f.binade ≤ Ieee.Toward.even.cut false (m' <<< (e - last').toNat) (last' - e).toNat := by
        refine Nat.le_trans ?_ (cut_ge _ _ _)
        rw [Nat.le_div_iff_mul_le (Nat.two_pow_pos _), Nat.shiftLeft_eq, hB, ← Nat.pow_add]
        calc 2 ^ (f.fractionBits + (last' - e).toNat) ≤ 2 ^ (m'.log2 + (e - last').toNat) := Nat.pow_le_pow_right (by decide) (by omega)
          _ = 2 ^ m'.log2 * 2 ^ (e - last').toNat := Nat.pow_add ..
          _ ≤ m' * 2 ^ (e - last').toNat := Nat.mul_le_mul_right _ (Nat.log2_self_le h0')
      have k4 : ((last - f.leastPlace).toNat + 1) * f.binade ≤ (last' - f.leastPlace).toNat * f.binade := Nat.mul_le_mul_right _ (by omega)
      rw [Nat.add_mul, Nat.one_mul] at k4
      omega

/-! ### numbers as multiples of the least place -/
theorem nearest_valR (k : FloatKind) {r : Nat} (hr : r < k.format.infRung) : k.format.nearest false (valR k.format r) k.format.leastPlace = r := by
  obtain ⟨h1, h2⟩ := nearest_read k.format (fmt_sum k) false r hr
  rw [word_f] at h1 h2
  unfold valR
  by_cases h : r < k.format.binade
  · rw [if_pos h]; exact h1 h
  · rw [if_neg h]
    have := nearest_scale k.format false (k.format.binade + r % k.format.binade) (r / k.format.binade - 1) (k.format.leastPlace + ((r / k.format.binade - 1 : Nat) : Int))
    rw [Int.add_sub_cancel] at this
    rw [this]; exact h2 (by omega)
def oneK : FloatKind → Nat
  | .f32 => 1065353216
  | .f64 => 4607182418800017408
def lpN : FloatKind → Nat
  | .f32 => 149
  | .f64 => 1074
theorem lp_N (k : FloatKind) : k.format.leastPlace = -(lpN k : Int) := by cases k <;> decide
theorem one_val (k : FloatKind) : valR k.format (oneK k) = 2 ^ lpN k := by cases k <;> decide +kernel
theorem one_inf (k : FloatKind) : oneK k < k.format.infRung := by cases k <;> decide +kernel
theorem inf_sw (k : FloatKind) : k.format.infRung < k.format.signWeight := by have := fmt_sum k; have := fmt_bin k; omega
theorem valR_mono (f : Ieee.Format) {r r' : Nat} (h : r ≤ r') : valR f r ≤ valR f r' := by
  rcases Nat.lt_or_ge r r' with h1 | h1
  · exact Nat.le_of_lt (valR_lt f h1)
  · rw [show r = r' by omega]; exact Nat.le_refl _
theorem nearest_inf (f : Ieee.Format) (m : Nat) (e : Int) : f.nearest false m e ≤ f.infRung := by
  unfold Ieee.Format.nearest
  by_cases h : m = 0
  · simp only [if_pos h, word_f]; exact Nat.zero_le _
  · simp only [if_neg h, word_f]; exact Nat.min_le_right _ _
theorem near_one (k : FloatKind) (p : Nat) : k.format.nearest false (2 ^ p) (-(p : Int)) = oneK k := by
  have h1 := nearest_valR k (one_inf k)
  rw [one_val, lp_N] at h1
  rcases Nat.le_total p (lpN k) with h | h
  · have := nearest_scale k.format false (2 ^ p) (lpN k - p) (-(p : Int))
    rw [← Nat.pow_add] at this
    rw [← this]
    have e1 : p + (lpN k - p) = lpN k := by omega
    have e2 : -(p : Int) - ((lpN k - p : Nat) : Int) = -(lpN k : Int) := by omega
    rw [e1, e2]; exact h1
  · have := nearest_scale k.format false (2 ^ lpN k) (p - lpN k) (-(lpN k : Int))
    rw [← Nat.pow_add] at this
    have e1 : lpN k + (p - lpN k) = p := by omega
    have e2 : -(lpN k : Int) - ((p - lpN k : Nat) : Int) = -(p : Int) := by omega
    rw [e1, e2] at this
    rw [this]; exact h1
theorem canon_word (k : FloatKind) (s : Bool) {r : Nat} (h : r ≤ k.format.infRung) : canon k (k.format.word s r) = k.format.word s r := by
  refine canon_not ?_
  rw [isNan_rung, (word_parts k s (by have := inf_sw k; omega)).1]
  exact decide_eq_false (by omega)
theorem read_word (k : FloatKind) (s : Bool) {r : Nat} (h : r < k.format.infRung) : ∃ (m i : Nat), k.format.read (k.format.word s r) = .number s m (k.format.leastPlace + (i : Int)) ∧ m * 2 ^ i = valR k.format r := by
  obtain ⟨w1, w2, w3⟩ := word_parts k s (r := r) (by have := inf_sw k; omega)
  obtain ⟨m, i, h1, h2⟩ := read_val (k := k) (c := k.format.word s r) (by rw [w1]; exact h)
  rw [w1] at h2
  rw [w2] at h1
  exact ⟨m, i, h1, h2⟩
theorem near_le (k : FloatKind) {r m : Nat} (hr : r < k.format.infRung) (h : m ≤ valR k.format r) : k.format.nearest false m k.format.leastPlace ≤ r := by
  have := nearest_mono k.format k.format.leastPlace h
  rw [nearest_valR k hr] at this; exact this
theorem near_ge (k : FloatKind) {r m : Nat} (hr : r < k.format.infRung) (h : valR k.format r ≤ m) : r ≤ k.format.nearest false m k.format.leastPlace := by
  have := nearest_mono k.format k.format.leastPlace h
  rw [nearest_valR k hr] at this; exact this

theorem fop_eq {op : BinOp} {k : FloatKind} {a b : Nat} {s : Bool} {m : Nat} {e : Int} (h : floatBits op k a b = some (k.format.nearest s m e)) : fop op k a b = k.format.word s (k.format.nearest false m e) := by
  unfold fop; rw [h]
  simp only []
  rw [nearest_sign]; exact canon_word k s (nearest_inf _ _ _)
theorem mul_word (k : FloatKind) (s t : Bool) {r q : Nat} (hr : r < k.format.infRung) (hq : q < k.format.infRung) :
    fop .mul k (k.format.word s r) (k.format.word t q) = k.format.word (s ^^ t) (k.format.nearest false (valR k.format r * valR k.format q) (k.format.leastPlace + k.format.leastPlace)) := by
  obtain ⟨m, i, h1, h2⟩ := read_word k s hr
  obtain ⟨n, j, g1, g2⟩ := read_word k t hq
  have hf : floatBits .mul k (k.format.word s r) (k.format.word t q) = some (k.format.nearest (s ^^ t) (m * n) (k.format.leastPlace + (i : Int) + (k.format.leastPlace + (j : Int)))) := by
    unfold floatBits; simp only []; unfold Ieee.Format.mul
    rw [h1, g1]; rfl
  rw [fop_eq hf, ← h2, ← g2]
  have := nearest_scale k.format false (m * n) (i + j) (k.format.leastPlace + (i : Int) + (k.format.leastPlace + (j : Int)))
  rw [← this]
  congr 2
  · rw [Nat.pow_add, Nat.mul_mul_mul_comm]
  · omega
theorem mul_le1 (k : FloatKind) (s t : Bool) {r q : Nat} (hr : r < k.format.infRung) (hq : q ≤ oneK k) :
    ∃ r', r' ≤ r ∧ fop .mul k (k.format.word s r) (k.format.word t q) = k.format.word (s ^^ t) r' := by
  refine ⟨_, ?_, mul_word k s t hr (Nat.lt_of_le_of_lt hq (one_inf k))⟩
  have h1 : valR k.format r * valR k.format q ≤ valR k.format r * 2 ^ lpN k := Nat.mul_le_mul_left _ (by rw [← one_val]; exact valR_mono _ hq)
  refine Nat.le_trans (nearest_mono k.format _ h1) ?_
  have := nearest_scale k.format false (valR k.format r) (lpN k) k.format.leastPlace
  rw [nearest_valR k hr] at this
  have e : k.format.leastPlace + k.format.leastPlace = k.format.leastPlace - (lpN k : Int) := by have := lp_N k; omega
  rw [e, this]; exact Nat.le_refl _
theorem sum_word (k : FloatKind) (s t : Bool) {r q : Nat} (hr : r < k.format.infRung) (hq : q < k.format.infRung) :
    fop .add k (k.format.word s r) (k.format.word t q) = k.format.word (if sg1 s (valR k.format r) + sg1 t (valR k.format q) = 0 then s && t else decide (sg1 s (valR k.format r) + sg1 t (valR k.format q) < 0))
      (k.format.nearest false (sg1 s (valR k.format r) + sg1 t (valR k.format q)).natAbs k.format.leastPlace) := by
  obtain ⟨m, i, h1, h2⟩ := read_word k s hr
  obtain ⟨n, j, g1, g2⟩ := read_word k t hq
  have hmin : min (k.format.leastPlace + (i : Int)) (k.format.leastPlace + (j : Int)) = k.format.leastPlace + ((min i j : Nat) : Int) := by omega
  generalize hT : sg1 s (m * 2 ^ (i - min i j)) + sg1 t (n * 2 ^ (j - min i j)) = T
  have hp : (0 : Int) < ((2 ^ min i j : Nat) : Int) := by have := Nat.two_pow_pos (min i j); omega
  have hV : sg1 s (valR k.format r) + sg1 t (valR k.format q) = T * ((2 ^ min i j : Nat) : Int) := by
    rw [← h2, ← g2, ← hT, Int.add_mul, ← sg1_mul, ← sg1_mul, Nat.mul_assoc, Nat.mul_assoc, ← Nat.pow_add, ← Nat.pow_add]
    congr 4 <;> congr 2 <;> omega
  have hf : floatBits .add k (k.format.word s r) (k.format.word t q) = some (k.format.nearest (if T = 0 then s && t else decide (T < 0)) T.natAbs (k.format.leastPlace + ((min i j : Nat) : Int))) := by
    unfold floatBits; simp only []; unfold Ieee.Format.add
    rw [h1, g1]
    simp only [Ieee.Datum.sum, Option.map_some, Ieee.Format.write]
    rw [hmin, signed_eq, signed_eq]
    have e1 : (k.format.leastPlace + (i : Int) - (k.format.leastPlace + ((min i j : Nat) : Int))).toNat = i - min i j := by omega
    have e2 : (k.format.leastPlace + (j : Int) - (k.format.leastPlace + ((min i j : Nat) : Int))).toNat = j - min i j := by omega
    rw [e1, e2, hT]
  rw [fop_eq hf, hV]
  have z1 : (T * ((2 ^ min i j : Nat) : Int) = 0) = (T = 0) := by
    apply propext; constructor
    · intro h; rcases Int.mul_eq_zero.1 h with h | h
      · exact h
      · omega
    · intro h; rw [h, Int.zero_mul]
  have z2 : (T * ((2 ^ min i j : Nat) : Int) < 0) = (T < 0) := by
    apply propext; constructor
    · intro h
      rcases Int.lt_or_le T 0 with h' | h'
      · exact h'
      · have := Int.mul_nonneg h' (Int.le_of_lt hp); omega
    · intro h; exact Int.mul_neg_of_neg_of_pos h hp
  simp only [z1, z2]
  have := nearest_scale k.format false T.natAbs (min i j) (k.format.leastPlace + ((min i j : Nat) : Int))
  rw [Int.add_sub_cancel] at this
  rw [← this, Int.natAbs_mul, Int.natAbs_natCast]
theorem one_word (k : FloatKind) : k.format.word false (oneK k) = oneK k := rfl
theorem one_add (k : FloatKind) (s : Bool) {r : Nat} (hr : r ≤ oneK k) (hs : s = true ∨ r = 0) : fop .add k (oneK k) (k.format.word s r) ≤ oneK k := by
  have h := sum_word k false s (r := oneK k) (q := r) (one_inf k) (Nat.lt_of_le_of_lt hr (one_inf k))
  rw [one_word] at h
  rw [h]
  have hv := valR_mono k.format hr
  have hT : 0 ≤ sg1 false (valR k.format (oneK k)) + sg1 s (valR k.format r) ∧ sg1 false (valR k.format (oneK k)) + sg1 s (valR k.format r) ≤ (valR k.format (oneK k) : Nat) := by
    rcases hs with h | h
    · subst h; unfold sg1; simp only [Bool.false_eq_true, if_false, if_true]; omega
    · subst h; rw [valR_zero]; unfold sg1; cases s <;> simp
  generalize sg1 false (valR k.format (oneK k)) + sg1 s (valR k.format r) = T at *
  have e : (if T = 0 then false && s else decide (T < 0)) = false := by
    split
    · rfl
    · exact decide_eq_false (by omega)
  rw [e, word_f]
  exact near_le k (one_inf k) (by omega)
theorem add_nn (k : FloatKind) {r q : Nat} (hr : r < k.format.infRung) (hq : q < k.format.infRung) : fop .add k r q = k.format.nearest false (valR k.format r + valR k.format q) k.format.leastPlace := by
  have h := sum_word k false false hr hq
  rw [word_f, word_f] at h
  rw [h]
  have hT : sg1 false (valR k.format r) + sg1 false (valR k.format q) = ((valR k.format r + valR k.format q : Nat) : Int) := by unfold sg1; simp
  rw [hT, Int.natAbs_natCast]
  have e : (if ((valR k.format r + valR k.format q : Nat) : Int) = 0 then false && false else decide (((valR k.format r + valR k.format q : Nat) : Int) < 0)) = false := by
    split
    · rfl
    · exact decide_eq_false (by omega)
  rw [e, word_f]
theorem add_mono (k : FloatKind) {r q r' q' : Nat} (hr : r ≤ r') (hq : q ≤ q') (h1 : r' < k.format.infRung) (h2 : q' < k.format.infRung) : fop .add k r q ≤ fop .add k r' q' := by
  rw [add_nn k (by omega) (by omega), add_nn k h1 h2]
  exact nearest_mono k.format _ (Nat.add_le_add (valR_mono _ hr) (valR_mono _ hq))
theorem add_ge (k : FloatKind) {r q : Nat} (hr : r < k.format.infRung) (hq : q < k.format.infRung) : r ≤ fop .add k r q ∧ q ≤ fop .add k r q := by
  rw [add_nn k hr hq]
  exact ⟨near_ge k hr (Nat.le_add_right _ _), near_ge k hq (Nat.le_add_left _ _)⟩
theorem quo_le1 (k : FloatKind) (s t : Bool) {r q : Nat} (hrq : r ≤ q) (hq : q < k.format.infRung) (hq0 : 0 < q) :
    ∃ r', r' ≤ oneK k ∧ fop .quo k (k.format.word s r) (k.format.word t q) = k.format.word (s ^^ t) r' := by
  obtain ⟨m, i, h1, h2⟩ := read_word k s (r := r) (by omega)
  obtain ⟨n, j, g1, g2⟩ := read_word k t hq
  have hv := valR_mono k.format hrq
  have hv0 := valR_lt k.format hq0
  rw [valR_zero] at hv0
  have hn : n ≠ 0 := by intro h; rw [h, Nat.zero_mul] at g2; omega
  rw [← h2, ← g2] at hv
  generalize hd : k.format.fractionBits + 2 = d
  have hd1 : 1 ≤ d := by omega
  generalize hmo : d + n.log2 - m.log2 = more
  have hf : floatBits .quo k (k.format.word s r) (k.format.word t q) = some (k.format.nearest (s ^^ t) (2 * ((m * 2 ^ more) / n) + ((m * 2 ^ more) % n != 0).toNat) (k.format.leastPlace + (i : Int) - (k.format.leastPlace + (j : Int)) - (more : Int) - 1)) := by
    unfold floatBits; simp only []; unfold Ieee.Format.div
    rw [h1, g1]
    simp only [Ieee.Datum.quotient, if_neg hn, Option.map_some, Ieee.Format.write, hd, hmo, Nat.shiftLeft_eq]
  refine ⟨_, ?_, fop_eq hf⟩
  by_cases hm : m = 0
  · rw [hm, Nat.zero_mul, Nat.zero_div, Nat.zero_mod]
    have : (2 * 0 + ((0 : Nat) != 0).toNat) = 0 := rfl
    rw [this, nearest_zero]; exact Nat.zero_le _
  · have hbig : n < m * 2 ^ more := by
      have a1 : n < 2 ^ (n.log2 + 1) := Nat.lt_log2_self
      have a2 : 2 ^ (m.log2 + more) ≤ m * 2 ^ more := by rw [Nat.pow_add]; exact Nat.mul_le_mul_right _ (Nat.log2_self_le hm)
      have a3 : 2 ^ (n.log2 + 1) ≤ 2 ^ (m.log2 + more) := Nat.pow_le_pow_right (by decide) (by omega)
      omega
    have hij : i ≤ j + more := by
      rcases Nat.lt_or_ge (j + more) i with h | h
      · exfalso
        have a1 : m * 2 ^ i = (m * 2 ^ more) * 2 ^ (i - more) := by rw [Nat.mul_assoc, ← Nat.pow_add]; congr 2; omega
        have a2 : 2 ^ j ≤ 2 ^ (i - more) := Nat.pow_le_pow_right (by decide) (by omega)
        have a3 : n * 2 ^ j < (m * 2 ^ more) * 2 ^ (i - more) := Nat.lt_of_lt_of_le (Nat.mul_lt_mul_of_pos_right hbig (Nat.two_pow_pos _)) (Nat.mul_le_mul_left _ a2)
        omega
      · exact h
    have hle : m * 2 ^ more ≤ n * 2 ^ (j + more - i) := by
      have a1 : (m * 2 ^ more) * 2 ^ i ≤ (n * 2 ^ (j + more - i)) * 2 ^ i := by
        calc (m * 2 ^ more) * 2 ^ i = (m * 2 ^ i) * 2 ^ more := by rw [Nat.mul_assoc, Nat.mul_assoc, Nat.mul_comm (2 ^ more)]
          _ ≤ (n * 2 ^ j) * 2 ^ more := Nat.mul_le_mul_right _ hv
          _ = (n * 2 ^ (j + more - i)) * 2 ^ i := by rw [Nat.mul_assoc, Nat.mul_assoc, ← Nat.pow_add, ← Nat.pow_add]; congr 2; omega
      exact Nat.le_of_mul_le_mul_right a1 (Nat.two_pow_pos i)
    have hD : 2 * ((m * 2 ^ more) / n) + ((m * 2 ^ more) % n != 0).toNat ≤ 2 ^ (j + more - i + 1) := by
      rw [Nat.pow_succ, Nat.mul_comm (2 ^ _) 2]
      generalize m * 2 ^ more = a at *
      generalize 2 ^ (j + more - i) = X at *
      have b1 := Nat.div_add_mod a n
      have b2 : a / n ≤ X := Nat.div_le_of_le_mul hle
      have hb : ∀ b : Bool, b.toNat ≤ 1 := fun b => by cases b <;> simp
      rcases Nat.lt_or_ge (a / n) X with h | h
      · have := hb (a % n != 0); omega
      · have e : a / n = X := by omega
        rw [e] at b1 ⊢
        have : a % n = 0 := by omega
        rw [this]; simp
    have e : k.format.leastPlace + (i : Int) - (k.format.leastPlace + (j : Int)) - (more : Int) - 1 = -((j + more - i + 1 : Nat) : Int) := by omega
    rw [e, ← near_one k (j + more - i + 1)]
    exact nearest_mono k.format _ hD
end Go.Aw

set_option linter.unusedVariables false
set_option maxRecDepth 20000
namespace Go.Aw

def exP (t : Nat) : Nat → Nat
  | 0 => 4607182418800017408
  | j + 1 => fop .add .f64 4607182418800017408 (fop .quo .f64 (fop .mul .f64 t (exP t j)) (fint .f64 (12 - (j : Int))))
def sqP (p : Nat) : Nat → Nat
  | 0 => p
  | j + 1 => fop .mul .f64 (sqP p j) (sqP p j)
def exW (t : Nat) : Nat := sqP (exP t 12) 8
def exT (y : Nat) : Nat := fop .quo .f64 (fconv .f32 .f64 y) 4643211215818981376
def exN (y : Nat) : Nat := if fcmp .lss .f32 y 3276275712 then 0 else fconv .f64 .f32 (exW (exT y))
theorem exPS (t j : Nat) : fop .add .f64 4607182418800017408 (fop .quo .f64 (fop .mul .f64 t (exP t j)) (fint .f64 (12 - (j : Int)))) = exP t (j + 1) := rfl
theorem sqPS (p j : Nat) : fop .mul .f64 (sqP p j) (sqP p j) = sqP p (j + 1) := rfl

theorem exk_ok : (List.range 12).all (fun j => decide (4607182418800017408 ≤ fint .f64 (12 - (j : Int))) && decide (fint .f64 (12 - (j : Int)) < 9218868437227405312)) = true := by decide +kernel
theorem exk_all : (List.range 13).all (fun j => (fcmp .geq .f64 (fint .f64 (12 - (j : Int))) 4607182418800017408 == decide (j < 12)) && (fop .sub .f64 (fint .f64 (12 - (j : Int))) 4607182418800017408 == fint .f64 (12 - ((j + 1 : Nat) : Int)))) = true := by decide +kernel
theorem exk_cond {n : Nat} (h : n ≤ 12) : fcmp .geq .f64 (fint .f64 (12 - (n : Int))) 4607182418800017408 = decide (n < 12) := by
  have := List.all_eq_true.1 exk_all n (List.mem_range.2 (by omega))
  rw [Bool.and_eq_true] at this
  exact beq_iff_eq.1 this.1
theorem exk_next {n : Nat} (h : n ≤ 12) : fop .sub .f64 (fint .f64 (12 - (n : Int))) 4607182418800017408 = fint .f64 (12 - ((n + 1 : Nat) : Int)) := by
  have := List.all_eq_true.1 exk_all n (List.mem_range.2 (by omega))
  rw [Bool.and_eq_true] at this
  exact beq_iff_eq.1 this.2
theorem exk_0 : fint .f64 (12 - ((0 : Nat) : Int)) = 4622945017495814144 := by decide +kernel

theorem exP0_all : (List.range 13).all (fun j => decide (exP 0 j ≤ 4607182418800017408)) = true := by decide +kernel
theorem exP_le0 {j : Nat} (h : j ≤ 12) : exP 0 j ≤ 4607182418800017408 := of_decide_eq_true (List.all_eq_true.1 exP0_all j (List.mem_range.2 (by omega)))
theorem exP_le {r : Nat} (hr : r ≤ 4607182418800017408) : ∀ j, j ≤ 12 → exP (FloatKind.f64.format.word true r) j ≤ 4607182418800017408
  | 0, _ => Nat.le_refl _
  | j + 1, h => by
    have ih := exP_le hr j (by omega)
    have hk := List.all_eq_true.1 exk_ok j (List.mem_range.2 (by omega))
    rw [Bool.and_eq_true, decide_eq_true_eq, decide_eq_true_eq] at hk
    obtain ⟨r', h1, h2⟩ := mul_le1 .f64 true false (r := r) (q := exP (FloatKind.f64.format.word true r) j) (by rw [inf64]; omega) ih
    obtain ⟨r'', h3, h4⟩ := quo_le1 .f64 (true ^^ false) false (r := r') (q := fint .f64 (12 - (j : Int))) (by omega) (by rw [inf64]; exact hk.2) (by omega)
    rw [word_f] at h2 h4
    unfold exP
    rw [h2, h4]
    exact one_add .f64 _ h3 (.inl rfl)
theorem sqP_le {p : Nat} (hp : p ≤ 4607182418800017408) : ∀ j, sqP p j ≤ 4607182418800017408
  | 0 => hp
  | j + 1 => by
    have ih := sqP_le hp j
    obtain ⟨r', h1, h2⟩ := mul_le1 .f64 false false (r := sqP p j) (q := sqP p j) (by rw [inf64]; omega) ih
    rw [word_f] at h2
    unfold sqP
    rw [h2]
    exact Nat.le_trans h1 ih
theorem conv_le {c : Nat} (h : c ≤ 4607182418800017408) : fconv .f64 .f32 c ≤ 1065353216 ∧ fconvOk .f64 .f32 c = true := by
  refine ⟨?_, narrow_ok (.inl (by omega))⟩
  have hn : isNan .f64 c = false := pos_notnan (by omega)
  obtain ⟨m, i, h1, h2⟩ := read_word .f64 false (r := c) (by rw [inf64]; omega)
  rw [word_f] at h1
  have e : FloatKind.f32.encode (FloatKind.f64.decode c) = FloatKind.f32.format.nearest false (valR FloatKind.f64.format c) (-1074) := by
    unfold FloatKind.decode
    rw [h1, ← h2]
    show FloatKind.f32.format.nearest false m (FloatKind.f64.format.leastPlace + (i : Int)) = _
    have := nearest_scale FloatKind.f32.format false m i (-1074 + (i : Int))
    rw [Int.add_sub_cancel] at this
    rw [lp64, this]
  have hle : FloatKind.f32.format.nearest false (valR FloatKind.f64.format c) (-1074) ≤ 1065353216 := by
    have h3 : valR FloatKind.f64.format c ≤ 2 ^ lpN .f64 := by
      have := valR_mono FloatKind.f64.format h
      rw [show (4607182418800017408 : Nat) = oneK .f64 from rfl, one_val] at this
      exact this
    have := nearest_mono FloatKind.f32.format (-1074) h3
    have h5 := near_one .f32 (lpN .f64)
    rw [show (-((lpN .f64 : Nat) : Int)) = (-1074 : Int) from rfl] at h5
    rw [h5] at this
    exact this
  have h6 := canon_word .f32 false (r := FloatKind.f32.format.nearest false (valR FloatKind.f64.format c) (-1074)) (nearest_inf _ _ _)
  rw [word_f] at h6
  unfold fconv
  rw [hn]
  simp only [Bool.false_eq_true, if_false]
  rw [e, h6]; exact hle

/-! ### what is not above nought -/
def Neg0 (y : Nat) : Prop := isNan .f32 y = true ∨ y = 0 ∨ ∃ r, r ≤ 2139095040 ∧ y = FloatKind.f32.format.word true r

/-- not below nought -/
def NN (c : Nat) : Prop := isNan .f32 c = true ∨ c % 2147483648 = 0 ∨ c ≤ 2139095040
def nnD : Ieee.Datum → Prop
  | .nan _ _ => True
  | .infinity s => s = false
  | .number s m _ => s = false ∨ m = 0
theorem NN_read {c : Nat} (h : NN c) : nnD (FloatKind.f32.format.read c) := by
  rcases h with h | h | h
  · obtain ⟨s, t, e⟩ := datum_nan h
    rw [show FloatKind.f32.format.read c = .nan s t from e]; trivial
  · obtain ⟨m, i, e, e0, _⟩ := read_fin (k := .f32) (c := c) (by rw [sw32, inf32]; omega)
    rw [e]; exact .inr (e0.2 (by rw [sw32]; exact h))
  · have hs : (c / FloatKind.f32.format.signWeight % 2 == 1) = false := by rw [sw32, Nat.div_eq_of_lt (by omega)]; rfl
    have hm : c % FloatKind.f32.format.signWeight = c := by rw [sw32]; exact Nat.mod_eq_of_lt (by omega)
    rcases Nat.lt_or_ge c 2139095040 with h1 | h1
    · obtain ⟨m, i, e, e0, _⟩ := read_fin (k := .f32) (c := c) (by rw [hm, inf32]; exact h1)
      rw [e, hs]; exact .inl rfl
    · rw [read_inf (k := .f32) (c := c) (by rw [hm, inf32]; omega), hs]; exact rfl
theorem NN_word {s : Bool} {r : Nat} (h : s = false ∨ r = 0) (hr : r ≤ 2139095040) : NN (FloatKind.f32.format.word s r) := by
  cases s with
  | false => exact .inr (.inr (by rw [word_f]; exact hr))
  | true =>
    rcases h with h | h
    · cases h
    · subst h; exact .inr (.inl (by decide +kernel))
theorem NN_write {op : BinOp} {a b : Nat} {o : Option Ieee.Datum} (h : floatBits op .f32 a b = o.map FloatKind.f32.format.write) (ho : ∀ x, o = some x → nnD x ∧ x.isNaN = false) : NN (fop op .f32 a b) := by
  unfold fop
  rw [h]
  cases o with
  | none => exact .inl (nan0_nan .f32)
  | some x =>
    obtain ⟨h1, h2⟩ := ho x rfl
    simp only [Option.map_some]
    cases x with
    | nan s t => cases h2
    | infinity s =>
      have h1' : s = false := h1
      subst h1'
      exact .inr (.inr (by decide +kernel))
    | number s m e =>
      have h1' : s = false ∨ m = 0 := h1
      show NN (canon .f32 (FloatKind.f32.format.nearest s m e))
      rw [nearest_sign, canon_word .f32 s (nearest_inf _ _ _)]
      refine NN_word ?_ (by have := nearest_inf FloatKind.f32.format m e; rwa [inf32] at this)
      rcases h1' with h | h
      · exact .inl h
      · right; rw [h, nearest_zero]
theorem NN_sq (a : Nat) : NN (fop .mul .f32 a a) := by
  refine NN_write (o := (FloatKind.f32.format.read a).product (FloatKind.f32.format.read a)) rfl fun x hx => ?_
  revert hx
  cases FloatKind.f32.format.read a with
  | nan s t => simp [Ieee.Datum.product]
  | infinity s => intro hx; simp only [Ieee.Datum.product, Option.some.injEq] at hx; subst hx; exact ⟨by simp [nnD], rfl⟩
  | number s m i => intro hx; simp only [Ieee.Datum.product, Option.some.injEq] at hx; subst hx; exact ⟨by simp [nnD], rfl⟩
theorem neg0_sub {c : Nat} (h : F32 c) (hp : NN c) : Neg0 (fop .sub .f32 0 c) := by
  cases hn : isNan .f32 c with
  | true =>
    left
    unfold fop
    have : floatBits .sub .f32 0 c = none := by
      obtain ⟨s, t, e⟩ := datum_nan hn
      unfold floatBits; simp only []; unfold Ieee.Format.sub
      rw [e]; cases FloatKind.f32.format.read 0 <;> simp [Ieee.Datum.opposite, Ieee.Datum.sum]
    rw [this]; exact nan0_nan .f32
  | false =>
    have hc : c < 2 * FloatKind.f32.format.signWeight := by rw [sw32]; exact h.2
    rw [zero_sub .f32 hc hn]
    by_cases h0 : c % FloatKind.f32.format.signWeight = 0
    · rw [if_pos h0]; exact .inr (.inl rfl)
    · rw [if_neg h0]
      rw [sw32] at h0 ⊢
      have hle : c ≤ 2139095040 := by
        rcases hp with h | h | h
        · rw [hn] at h; cases h
        · exact absurd h h0
        · exact h
      have e1 : c / 2147483648 = 0 := Nat.div_eq_of_lt (by omega)
      have e2 : c % 2147483648 = c := Nat.mod_eq_of_lt (by omega)
      rw [e1, e2]
      exact .inr (.inr ⟨c, hle, rfl⟩)

theorem sv_neg (k : FloatKind) {r : Nat} (h : r < k.format.signWeight) : sv k (k.format.word true r) = -(r : Int) := by
  obtain ⟨w1, w2, _⟩ := word_parts k true h
  unfold sv
  rw [w1, w2]; rfl
theorem neg_notnan (k : FloatKind) (s : Bool) {r : Nat} (h : r ≤ k.format.infRung) : isNan k (k.format.word s r) = false := by
  rw [isNan_rung, (word_parts k s (by have := inf_sw k; omega)).1]
  exact decide_eq_false (by omega)
theorem lss_neg (k : FloatKind) {r q : Nat} (hr : r ≤ k.format.infRung) (hq : q ≤ k.format.infRung) : fcmp .lss k (k.format.word true r) (k.format.word true q) = decide (q < r) := by
  have hs := inf_sw k
  unfold fcmp
  simp only []
  rw [order_sv k (neg_notnan k true hr) (neg_notnan k true hq), sv_neg k (by omega), sv_neg k (by omega)]
  rcases Int.lt_trichotomy (-(r : Int)) (-(q : Int)) with h | h | h
  · rw [cmp_lt h, decide_eq_true (by omega)]; rfl
  · rw [cmp_eq h, decide_eq_false (by omega)]; rfl
  · rw [cmp_gt h, decide_eq_false (by omega)]; rfl
theorem gtr_neg (k : FloatKind) {r q : Nat} (hr : r ≤ k.format.infRung) (hq : q ≤ k.format.infRung) (hq0 : 0 < q) : fcmp .gtr k (k.format.word true r) q = false := by
  have hs := inf_sw k
  have hw : q = k.format.word false q := rfl
  have hsv : sv k q = (q : Int) := by
    obtain ⟨w1, w2, _⟩ := word_parts k false (r := q) (by omega)
    rw [← hw] at w1 w2
    unfold sv
    rw [w1, w2]; rfl
  unfold fcmp
  simp only []
  rw [order_sv k (neg_notnan k true hr) (by rw [hw]; exact neg_notnan k false hq), sv_neg k (by omega), hsv, cmp_lt (by omega)]
  rfl
theorem widen_neg {r : Nat} (hr : r < 2139095040) : fconv .f32 .f64 (FloatKind.f32.format.word true r) = FloatKind.f64.format.word true (FloatKind.f64.format.nearest false (valR FloatKind.f32.format r) (-149)) := by
  obtain ⟨m, i, h1, h2⟩ := read_word .f32 true (r := r) (by rw [inf32]; exact hr)
  rw [fconv_eq (neg_notnan .f32 true (by rw [inf32]; omega))]
  have e : FloatKind.f64.encode (FloatKind.f32.decode (FloatKind.f32.format.word true r)) = FloatKind.f64.format.word true (FloatKind.f64.format.nearest false (valR FloatKind.f32.format r) (-149)) := by
    unfold FloatKind.decode
    rw [h1, ← h2]
    show FloatKind.f64.format.nearest true m (FloatKind.f32.format.leastPlace + (i : Int)) = _
    rw [nearest_sign]
    have := nearest_scale FloatKind.f64.format false m i (-149 + (i : Int))
    rw [Int.add_sub_cancel] at this
    rw [lp32, this]
  rw [e]
theorem widen_ninf : fconv .f32 .f64 (FloatKind.f32.format.word true 2139095040) = FloatKind.f64.format.word true 9218868437227405312 := by decide +kernel
theorem r200 : FloatKind.f64.format.nearest false (valR FloatKind.f32.format 1128792064) (-149) = 4641240890982006784 := by decide +kernel
theorem r201 : 4641240890982006784 < FloatKind.f64.format.nearest false (valR FloatKind.f32.format 1128792065) (-149) := by decide +kernel
/-- what the widened number is -/
theorem widen_all {r : Nat} (hr : r ≤ 2139095040) : ∃ R, R ≤ 9218868437227405312 ∧ fconv .f32 .f64 (FloatKind.f32.format.word true r) = FloatKind.f64.format.word true R ∧ (r ≤ 1128792064 → R ≤ 4641240890982006784) ∧ (1128792064 < r → 4641240890982006784 < R) := by
  rcases Nat.lt_or_ge r 2139095040 with h | h
  · refine ⟨_, by have := nearest_inf FloatKind.f64.format (valR FloatKind.f32.format r) (-149); rwa [inf64] at this, widen_neg h, fun h1 => ?_, fun h1 => ?_⟩
    · rw [← r200]; exact nearest_mono _ _ (valR_mono _ h1)
    · exact Nat.lt_of_lt_of_le r201 (nearest_mono _ _ (valR_mono _ h1))
  · have : r = 2139095040 := by omega
    subst this
    exact ⟨_, Nat.le_refl _, widen_ninf, fun h1 => by omega, fun _ => by decide⟩
theorem w200 : (13864612927836782592 : Nat) = FloatKind.f64.format.word true 4641240890982006784 := by decide +kernel
theorem v200 : (3276275712 : Nat) = FloatKind.f32.format.word true 1128792064 := by decide +kernel
theorem nan_cmp (op : BinOp) (k : FloatKind) (b : Nat) {a : Nat} (h : isNan k a = true) (ho : op = .lss ∨ op = .gtr) : fcmp op k a b = false := by
  obtain ⟨s, t, e⟩ := (isNan_iff k a).1 h
  have : k.format.order a b = none := by unfold Ieee.Format.order; rw [e]; simp [Ieee.Datum.order]
  unfold fcmp
  rcases ho with rfl | rfl <;> simp only [] <;> rw [this] <;> rfl
/-- the tests before the sum -/
theorem neg_tests {y : Nat} (h : Neg0 y) : fcmp .gtr .f32 y 1128792064 = false ∧ fcmp .gtr .f64 (fconv .f32 .f64 y) 4641240890982006784 = false ∧ fcmp .lss .f64 (fconv .f32 .f64 y) 13864612927836782592 = fcmp .lss .f32 y 3276275712 := by
  rcases h with h | h | ⟨r, hr, h⟩
  · have e : fconv .f32 .f64 y = nan0 .f64 := by unfold fconv; rw [h]; rfl
    rw [e, nan_cmp .gtr .f32 _ h (.inr rfl), nan_cmp .lss .f32 _ h (.inl rfl), nan_cmp .gtr .f64 _ (nan0_nan .f64) (.inr rfl), nan_cmp .lss .f64 _ (nan0_nan .f64) (.inl rfl)]
    exact ⟨rfl, rfl, rfl⟩
  · subst h; exact ⟨by decide +kernel, by decide +kernel, by decide +kernel⟩
  · subst h
    obtain ⟨R, h1, h2, h3, h4⟩ := widen_all hr
    rw [h2]
    refine ⟨gtr_neg .f32 (by rw [inf32]; exact hr) (by rw [inf32]; omega) (by omega), gtr_neg .f64 (by rw [inf64]; exact h1) (by rw [inf64]; omega) (by omega), ?_⟩
    rw [w200, v200, lss_neg .f64 (by rw [inf64]; exact h1) (by rw [inf64]; omega), lss_neg .f32 (by rw [inf32]; exact hr) (by rw [inf32]; omega)]
    rcases Nat.lt_or_ge 1128792064 r with g | g
    · rw [decide_eq_true g, decide_eq_true (h4 g)]
    · rw [decide_eq_false (by omega), decide_eq_false (by have := h3 g; omega)]
theorem nan_mul_l {k : FloatKind} {a : Nat} (b : Nat) (h : isNan k a = true) : fop .mul k a b = nan0 k := by
  obtain ⟨s, t, e⟩ := (isNan_iff k a).1 h
  have : floatBits .mul k a b = none := by unfold floatBits; simp only []; unfold Ieee.Format.mul; rw [e]; simp [Ieee.Datum.product]
  unfold fop; rw [this]
theorem nan_quo_l {k : FloatKind} {a : Nat} (b : Nat) (h : isNan k a = true) : fop .quo k a b = nan0 k := by
  obtain ⟨s, t, e⟩ := (isNan_iff k a).1 h
  have : floatBits .quo k a b = none := by unfold floatBits; simp only []; unfold Ieee.Format.div; rw [e]; simp [Ieee.Datum.quotient]
  unfold fop; rw [this]
theorem nan_add_r {k : FloatKind} (a : Nat) {b : Nat} (h : isNan k b = true) : fop .add k a b = nan0 k := by
  obtain ⟨s, t, e⟩ := (isNan_iff k b).1 h
  have : floatBits .add k a b = none := by
    unfold floatBits; simp only []; unfold Ieee.Format.add; rw [e]
    cases k.format.read a <;> simp [Ieee.Datum.sum]
  unfold fop; rw [this]
theorem exP_nan : ∀ j, j ≠ 0 → exP (nan0 .f64) j = nan0 .f64
  | 0, h => absurd rfl h
  | j + 1, _ => by
    unfold exP
    rw [nan_mul_l _ (nan0_nan .f64), nan_quo_l _ (nan0_nan .f64), nan_add_r _ (nan0_nan .f64)]
theorem sqP_nan : ∀ j, sqP (nan0 .f64) j = nan0 .f64
  | 0 => rfl
  | j + 1 => by unfold sqP; rw [sqP_nan j, nan_mul_l _ (nan0_nan .f64)]
theorem exT_nan {y : Nat} (h : isNan .f32 y = true) : exT y = nan0 .f64 := by
  have e : fconv .f32 .f64 y = nan0 .f64 := by unfold fconv; rw [h]; rfl
  unfold exT; rw [e]; exact nan_quo_l _ (nan0_nan .f64)
theorem exW_nan : exW (nan0 .f64) = nan0 .f64 := by unfold exW; rw [exP_nan 12 (by decide), sqP_nan]
/-- the sum is at most one -/
theorem exW_le {y : Nat} (h : Neg0 y) (hn : isNan .f32 y = false) (hl : fcmp .lss .f32 y 3276275712 = false) : exW (exT y) ≤ 4607182418800017408 := by
  unfold exW
  refine sqP_le ?_ 8
  rcases h with h | h | ⟨r, hr, h⟩
  · rw [hn] at h; cases h
  · subst h
    rw [show exT 0 = 0 by decide +kernel]
    exact exP_le0 (by omega)
  · subst h
    rw [v200, lss_neg .f32 (by rw [inf32]; exact hr) (by rw [inf32]; omega)] at hl
    have hl' := of_decide_eq_false hl
    obtain ⟨R, h1, h2, h3, h4⟩ := widen_all hr
    have hR := h3 (by omega)
    obtain ⟨r', g1, g2⟩ := quo_le1 .f64 true false (r := R) (q := 4643211215818981376) (by omega) (by rw [inf64]; omega) (by omega)
    rw [word_f] at g2
    unfold exT
    rw [h2, g2]
    exact exP_le g1 12 (by omega)
theorem ex_ok {y : Nat} (h : Neg0 y) (hl : fcmp .lss .f32 y 3276275712 = false) : fconvOk .f64 .f32 (exW (exT y)) = true := by
  cases hn : isNan .f32 y with
  | true => rw [exT_nan hn, exW_nan]; decide +kernel
  | false => exact (conv_le (exW_le h hn hl)).2
end Go.Aw

set_option linter.unusedVariables false
namespace Go.Aw
section
variable {P : Program} {o : Oper} {F : List Nat} {ρ : Fr} {η : Hp}
end
end Go.Aw

