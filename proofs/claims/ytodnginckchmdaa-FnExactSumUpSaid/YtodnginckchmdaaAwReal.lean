/- Facts on rounding: a number that stands is its own nearest; scaling; what is not finite stays so. -/
import Derived.Test.YtodnginckchmdaaAwBits
set_option linter.unusedVariables false
namespace Go.Aw

/-- a word of 32 bits up to the bits of a NaN -/
def F32 (c : Nat) : Prop := canon .f32 c = c ∧ c < 4294967296
theorem canon_canon (k : FloatKind) (c : Nat) : canon k (canon k c) = canon k c := by
  cases h : isNan k c with
  | true => rw [canon_nan h]; exact canon_nan (nan0_nan k)
  | false => rw [canon_not h]; exact canon_not h
theorem F32_canon {c : Nat} (h : c < 4294967296) : F32 (canon .f32 c) := by
  refine ⟨canon_canon _ _, ?_⟩
  cases hc : isNan .f32 c with
  | true => rw [canon_nan hc]; decide
  | false => rw [canon_not hc]; exact h
theorem F32_fop (op : BinOp) (c d : Nat) : F32 (fop op .f32 c d) := by
  unfold fop
  cases h : floatBits op .f32 c d with
  | none => exact ⟨canon_nan (nan0_nan _), by decide⟩
  | some r =>
    have := lt_of_wf (floatBits_wf h)
    rw [width32] at this
    exact F32_canon this

/-! ### the nearest depends on the value alone -/
theorem log2_mul_pow {m k : Nat} (hm : m ≠ 0) : (m * 2 ^ k).log2 = m.log2 + k := by
  have h0 : m * 2 ^ k ≠ 0 := Nat.mul_ne_zero hm (Nat.ne_of_gt (Nat.two_pow_pos k))
  have h1 : 2 ^ m.log2 ≤ m := Nat.log2_self_le hm
  have h2 : m < 2 ^ (m.log2 + 1) := Nat.lt_log2_self
  apply Nat.le_antisymm
  · have : (m * 2 ^ k).log2 < m.log2 + k + 1 := by
      rw [Nat.log2_lt h0]
      calc m * 2 ^ k < 2 ^ (m.log2 + 1) * 2 ^ k := Nat.mul_lt_mul_of_pos_right h2 (Nat.two_pow_pos k)
        _ = 2 ^ (m.log2 + k + 1) := by rw [← Nat.pow_add]; congr 1; omega
    omega
  · rw [Nat.le_log2 h0, Nat.pow_add]
    exact Nat.mul_le_mul_right _ h1

theorem cut_scale (s : Bool) (n k d : Nat) (hn : n ≠ 0) : Ieee.Toward.even.cut s (n * 2 ^ k) (d + k) = Ieee.Toward.even.cut s n d := by
  unfold Ieee.Toward.cut
  simp only [log2_mul_pow hn, Nat.shiftLeft_eq, Nat.one_mul]
  have e : min (d + k) (n.log2 + k + 2) = min d (n.log2 + 2) + k := by omega
  rw [e, Nat.pow_add]
  generalize 2 ^ min d (n.log2 + 2) = g
  have hk := Nat.two_pow_pos k
  rw [Nat.mul_div_mul_right _ _ hk, Nat.mul_mod_mul_right]
  have h1 : (decide (g * 2 ^ k < 2 * (n % g * 2 ^ k))) = decide (g < 2 * (n % g)) := by
    rw [Bool.eq_iff_iff]; simp only [decide_eq_true_eq]
    rw [← Nat.mul_assoc]
    exact Nat.mul_lt_mul_right hk
  have h2 : (g * 2 ^ k == 2 * (n % g * 2 ^ k)) = (g == 2 * (n % g)) := by
    rw [Bool.eq_iff_iff]; simp only [beq_iff_eq]
    rw [← Nat.mul_assoc]
    exact ⟨fun h => Nat.eq_of_mul_eq_mul_right hk h, fun h => congrArg (· * 2 ^ k) h⟩
  rw [h1, h2]
theorem cut_less (s : Bool) (n k d : Nat) (hn : n ≠ 0) (hd : d ≤ k) : Ieee.Toward.even.cut s (n * 2 ^ k) d = n * 2 ^ (k - d) := by
  have : n * 2 ^ k = (n * 2 ^ (k - d)) * 2 ^ d := by rw [Nat.mul_assoc, ← Nat.pow_add]; congr 2; omega
  have h0 : n * 2 ^ (k - d) ≠ 0 := Nat.mul_ne_zero hn (Nat.ne_of_gt (Nat.two_pow_pos _))
  have := cut_scale s (n * 2 ^ (k - d)) d 0 h0
  rw [Nat.zero_add, cut0] at this
  rw [‹n * 2 ^ k = _›]; exact this

theorem nearest_scale (f : Ieee.Format) (s : Bool) (m k : Nat) (e : Int) : f.nearest s (m * 2 ^ k) (e - k) = f.nearest s m e := by
  unfold Ieee.Format.nearest
  by_cases hm : m = 0
  · subst hm; simp
  · have h0 : m * 2 ^ k ≠ 0 := Nat.mul_ne_zero hm (Nat.ne_of_gt (Nat.two_pow_pos k))
    simp only [if_neg hm, if_neg h0, log2_mul_pow hm]
    have e1 : e - (k : Int) + ((m.log2 + k : Nat) : Int) - (f.fractionBits : Int) = e + (m.log2 : Int) - (f.fractionBits : Int) := by omega
    rw [e1]
    generalize max (e + (m.log2 : Int) - (f.fractionBits : Int)) f.leastPlace = last
    congr 3
    simp only [Nat.shiftLeft_eq]
    by_cases h1 : last ≤ e - k
    · have a1 : (last - (e - (k : Int))).toNat = 0 := by omega
      have a2 : (last - e).toNat = 0 := by omega
      rw [a1, a2, cut0, cut0]
      have a3 : (e - last).toNat = (e - (k : Int) - last).toNat + k := by omega
      rw [a3, Nat.pow_add, Nat.mul_assoc, Nat.mul_comm (2 ^ k)]
    · have a0 : (e - (k : Int) - last).toNat = 0 := by omega
      rw [a0, Nat.pow_zero, Nat.mul_one]
      by_cases h2 : last ≤ e
      · have a2 : (last - e).toNat = 0 := by omega
        rw [a2, cut0]
        rw [cut_less s m k _ hm (by omega)]
        congr 2; omega
      · have a3 : (e - last).toNat = 0 := by omega
        rw [a3, Nat.pow_zero, Nat.mul_one]
        have a4 : (last - (e - (k : Int))).toNat = (last - e).toNat + k := by omega
        rw [a4]
        exact cut_scale s m k _ hm

/-! ### a number that stands -/
theorem nearest_read (f : Ieee.Format) (hi : f.infRung + f.binade = f.signWeight) (s : Bool) (r : Nat) (hr : r < f.infRung) :
    (r < f.binade → f.nearest s r f.leastPlace = f.word s r) ∧ (f.binade ≤ r → f.nearest s (f.binade + r % f.binade) (f.leastPlace + (r / f.binade - 1 : Nat)) = f.word s r) := by
  have hB : f.binade = 2 ^ f.fractionBits := rfl
  have hBp : 0 < f.binade := by rw [hB]; exact Nat.two_pow_pos _
  constructor
  · intro h
    unfold Ieee.Format.nearest
    by_cases h0 : r = 0
    · simp [h0]
    · simp only [if_neg h0]
      have hl : r.log2 < f.fractionBits := (Nat.log2_lt h0).2 (by rw [← hB]; exact h)
      have e1 : max (f.leastPlace + (r.log2 : Int) - (f.fractionBits : Int)) f.leastPlace = f.leastPlace := by omega
      rw [e1]
      simp only [Int.sub_self, Int.toNat_zero, Nat.zero_mul, Nat.zero_add, Nat.shiftLeft_zero, cut0]
      rw [Nat.min_eq_left (by omega)]
  · intro h
    unfold Ieee.Format.nearest
    have hm := Nat.mod_lt r hBp
    have h0 : f.binade + r % f.binade ≠ 0 := by omega
    simp only [if_neg h0]
    have hl : (f.binade + r % f.binade).log2 = f.fractionBits := by
      apply Nat.le_antisymm
      · have : (f.binade + r % f.binade).log2 < f.fractionBits + 1 := by
          rw [Nat.log2_lt h0, Nat.pow_succ, ← hB]; omega
        omega
      · rw [Nat.le_log2 h0, ← hB]; omega
    rw [hl]
    have e1 : max (f.leastPlace + ((r / f.binade - 1 : Nat) : Int) + (f.fractionBits : Int) - (f.fractionBits : Int)) f.leastPlace = f.leastPlace + ((r / f.binade - 1 : Nat) : Int) := by omega
    rw [e1]
    simp only [Int.sub_self, Int.toNat_zero, Nat.shiftLeft_zero, cut0]
    have e2 : (f.leastPlace + ((r / f.binade - 1 : Nat) : Int) - f.leastPlace).toNat = r / f.binade - 1 := by omega
    rw [e2]
    have h1 : 1 ≤ r / f.binade := (Nat.one_le_div_iff hBp).2 h
    have e3 : (r / f.binade - 1) * f.binade + (f.binade + r % f.binade) = r := by
      have h2 : (r / f.binade - 1) * f.binade + f.binade = r / f.binade * f.binade := by
        rw [Nat.sub_mul, Nat.one_mul]
        exact Nat.sub_add_cancel (Nat.le_mul_of_pos_left _ h1)
      have h3 := Nat.div_add_mod r f.binade
      rw [Nat.mul_comm] at h3
      omega
    rw [e3, Nat.min_eq_left (by omega)]

theorem fmt_sum (k : FloatKind) : k.format.infRung + k.format.binade = k.format.signWeight := by cases k <;> decide
theorem fmt_wid (k : FloatKind) : 2 ^ k.format.width = 2 * k.format.signWeight := by cases k <;> decide
theorem fmt_bin (k : FloatKind) : 0 < k.format.binade := by cases k <;> decide
theorem fmt_bi (k : FloatKind) : k.format.binade < k.format.infRung := by cases k <;> decide

/-- what a finite word reads as -/
theorem read_fin {k : FloatKind} {c : Nat} (hr : c % k.format.signWeight < k.format.infRung) :
    ∃ (m i : Nat), k.format.read c = .number (c / k.format.signWeight % 2 == 1) m (k.format.leastPlace + (i : Int)) ∧ (m = 0 ↔ c % k.format.signWeight = 0) ∧
      ∀ s, k.format.nearest s m (k.format.leastPlace + (i : Int)) = k.format.word s (c % k.format.signWeight) := by
  have hB := fmt_bin k
  obtain ⟨h1, h2⟩ := (⟨fun s => (nearest_read k.format (fmt_sum k) s _ hr).1, fun s => (nearest_read k.format (fmt_sum k) s _ hr).2⟩ : (∀ s, _) ∧ (∀ s, _))
  unfold Ieee.Format.read
  dsimp only
  by_cases h : c % k.format.signWeight < k.format.binade
  · refine ⟨c % k.format.signWeight, 0, by rw [if_pos h]; simp, Iff.rfl, fun s => by simpa using h1 s h⟩
  · refine ⟨k.format.binade + c % k.format.signWeight % k.format.binade, c % k.format.signWeight / k.format.binade - 1, by rw [if_neg h, if_pos hr], ?_, fun s => h2 s (by omega)⟩
    constructor
    · intro h0; omega
    · intro h0; omega
theorem read_inf {k : FloatKind} {c : Nat} (hr : c % k.format.signWeight = k.format.infRung) : k.format.read c = .infinity (c / k.format.signWeight % 2 == 1) := by
  have := fmt_bi k
  unfold Ieee.Format.read
  dsimp only
  rw [if_neg (by omega), if_neg (by omega), if_pos hr]
theorem read_nanR {k : FloatKind} {c : Nat} (hr : k.format.infRung < c % k.format.signWeight) : ∃ s t, k.format.read c = .nan s t := by
  have := fmt_bi k
  unfold Ieee.Format.read
  dsimp only
  rw [if_neg (by omega), if_neg (by omega), if_neg (by omega)]
  exact ⟨_, _, rfl⟩
theorem isNan_rung {k : FloatKind} {c : Nat} : isNan k c = decide (k.format.infRung < c % k.format.signWeight) := by
  rw [Bool.eq_iff_iff, isNan_iff, decide_eq_true_eq]
  constructor
  · intro h; exact ((read_nan_iff _ _).1 h).1
  · intro h; exact read_nanR h

/-- finite, by the rung -/
def finR (k : FloatKind) (c : Nat) : Bool := decide (c % k.format.signWeight < k.format.infRung)

theorem order_zero (k : FloatKind) : k.format.order 0 0 = some .eq := by cases k <;> decide +kernel
theorem sub_self (k : FloatKind) (c : Nat) : fop .sub k c c = if finR k c then 0 else nan0 k := by
  unfold fop floatBits
  simp only []
  unfold Ieee.Format.sub
  cases hf : finR k c with
  | true =>
    simp only [finR, decide_eq_true_eq] at hf
    obtain ⟨m, i, h, _, _⟩ := read_fin hf
    rw [h]
    have e : (Ieee.Datum.number (c / k.format.signWeight % 2 == 1) m (k.format.leastPlace + ↑i)).sum (Ieee.Datum.number (c / k.format.signWeight % 2 == 1) m (k.format.leastPlace + ↑i)).opposite = some (.number false 0 (k.format.leastPlace + i)) := by
      simp only [Ieee.Datum.opposite, Ieee.Datum.sum]
      generalize (c / k.format.signWeight % 2 == 1) = s
      have : Ieee.signed s m (k.format.leastPlace + ↑i - min (k.format.leastPlace + ↑i) (k.format.leastPlace + ↑i)).toNat + Ieee.signed (!s) m (k.format.leastPlace + ↑i - min (k.format.leastPlace + ↑i) (k.format.leastPlace + ↑i)).toNat = 0 := by
        unfold Ieee.signed; cases s <;> simp <;> omega
      rw [this]; cases s <;> simp
    rw [e]
    simp only [Option.map_some, Ieee.Format.write, Ieee.Format.nearest, if_true, Ieee.Format.word]
    simp only [Bool.false_eq_true, if_false]
    exact canon_not (by rw [isNan_rung]; simp)
  | false =>
    simp only [finR, decide_eq_false_iff_not, Nat.not_lt] at hf
    rcases Nat.lt_or_ge k.format.infRung (c % k.format.signWeight) with h | h
    · obtain ⟨s, t, h⟩ := read_nanR h
      rw [h]; simp [Ieee.Datum.sum]
    · rw [read_inf (by omega)]; simp [Ieee.Datum.sum, Ieee.Datum.opposite]

def finB (k : FloatKind) (c : Nat) : Bool := fcmp .eql k (fop .sub k c c) 0
theorem finB_eq (k : FloatKind) (c : Nat) : finB k c = finR k c := by
  unfold finB
  rw [sub_self]
  cases finR k c with
  | true => simp only [if_true]; cases k <;> decide +kernel
  | false => simp only [Bool.false_eq_true, if_false]; cases k <;> decide +kernel

/-! ### the order of words -/
def valR (f : Ieee.Format) (r : Nat) : Nat := if r < f.binade then r else (f.binade + r % f.binade) * 2 ^ (r / f.binade - 1)
theorem valR_succ (f : Ieee.Format) (r : Nat) : valR f r < valR f (r + 1) := by
  have hB : 0 < f.binade := Nat.two_pow_pos _
  unfold valR
  generalize f.binade = B at *
  by_cases h1 : r + 1 < B
  · rw [if_pos (by omega), if_pos h1]; omega
  · by_cases h2 : r < B
    · have : r + 1 = B := by omega
      rw [if_pos h2, if_neg h1, this]
      simp [Nat.div_self hB]; omega
    · rw [if_neg h2, if_neg h1]
      have hm := Nat.mod_lt r hB
      have hd : 1 ≤ r / B := (Nat.one_le_div_iff hB).2 (by omega)
      by_cases h3 : r % B + 1 < B
      · have e1 : (r + 1) % B = r % B + 1 := by
          rw [Nat.add_mod]
          rcases Nat.lt_or_ge 1 B with h | h
          · rw [Nat.mod_eq_of_lt h, Nat.mod_eq_of_lt h3]
          · omega
        have e2 : (r + 1) / B = r / B := by
          have := Nat.div_add_mod r B
          have h4 : r + 1 = r % B + 1 + B * (r / B) := by omega
          rw [h4, Nat.add_mul_div_left _ _ hB, Nat.div_eq_of_lt h3]; omega
        rw [e1, e2]
        exact Nat.mul_lt_mul_of_pos_right (by omega) (Nat.two_pow_pos _)
      · have h4 : r + 1 = B * (r / B + 1) := by
          have := Nat.div_add_mod r B
          rw [Nat.mul_add, Nat.mul_one]; omega
        have e1 : (r + 1) % B = 0 := by rw [h4]; exact Nat.mul_mod_right _ _
        have e2 : (r + 1) / B = r / B + 1 := by rw [h4]; exact Nat.mul_div_cancel_left _ hB
        rw [e1, e2]
        have e3 : 2 ^ (r / B + 1 - 1) = 2 * 2 ^ (r / B - 1) := by
          obtain ⟨q, hq⟩ : ∃ q, r / B = q + 1 := ⟨r / B - 1, by omega⟩
          rw [hq]; simp [Nat.pow_succ, Nat.mul_comm]
        rw [e3, ← Nat.mul_assoc]
        exact Nat.mul_lt_mul_of_pos_right (by omega) (Nat.two_pow_pos _)
theorem valR_lt (f : Ieee.Format) {r r' : Nat} (h : r < r') : valR f r < valR f r' := by
  induction r' with
  | zero => omega
  | succ n ih =>
    rcases Nat.lt_or_ge r n with h1 | h1
    · exact Nat.lt_trans (ih h1) (valR_succ f n)
    · have : r = n := by omega
      subst this; exact valR_succ f r
theorem valR_iff (f : Ieee.Format) {r r' : Nat} : valR f r < valR f r' ↔ r < r' := by
  constructor
  · intro h
    rcases Nat.lt_trichotomy r r' with h1 | h1 | h1
    · exact h1
    · subst h1; omega
    · have := valR_lt f h1; omega
  · exact valR_lt f
theorem valR_zero (f : Ieee.Format) : valR f 0 = 0 := by
  have hB : 0 < f.binade := Nat.two_pow_pos _
  unfold valR; rw [if_pos hB]
theorem valR_eq (f : Ieee.Format) {r r' : Nat} : valR f r = valR f r' ↔ r = r' := by
  constructor
  · intro h
    rcases Nat.lt_trichotomy r r' with h1 | h1 | h1
    · have := valR_lt f h1; omega
    · exact h1
    · have := valR_lt f h1; omega
  · intro h; rw [h]

theorem read_val {k : FloatKind} {c : Nat} (hr : c % k.format.signWeight < k.format.infRung) :
    ∃ (m i : Nat), k.format.read c = .number (c / k.format.signWeight % 2 == 1) m (k.format.leastPlace + (i : Int)) ∧ m * 2 ^ i = valR k.format (c % k.format.signWeight) := by
  unfold Ieee.Format.read valR
  dsimp only
  by_cases h : c % k.format.signWeight < k.format.binade
  · exact ⟨c % k.format.signWeight, 0, by rw [if_pos h]; simp, by rw [if_pos h]; simp⟩
  · exact ⟨k.format.binade + c % k.format.signWeight % k.format.binade, c % k.format.signWeight / k.format.binade - 1, by rw [if_neg h, if_pos hr], by rw [if_neg h]⟩

/-- the sign and the rung as one integer -/
def sv (k : FloatKind) (c : Nat) : Int := if c / k.format.signWeight % 2 == 1 then -((c % k.format.signWeight : Nat) : Int) else ((c % k.format.signWeight : Nat) : Int)
def sg1 (s : Bool) (n : Nat) : Int := if s then -(n : Int) else (n : Int)
theorem cmp_congr {a b c d : Int} (h1 : a < b ↔ c < d) (h2 : a = b ↔ c = d) : compare a b = compare c d := by
  show compareOfLessAndEq a b = compareOfLessAndEq c d
  unfold compareOfLessAndEq
  simp only [h1, h2]
theorem sg1_iff (f : Ieee.Format) (s t : Bool) (r r' : Nat) : (sg1 s (valR f r) < sg1 t (valR f r') ↔ sg1 s r < sg1 t r') ∧ (sg1 s (valR f r) = sg1 t (valR f r') ↔ sg1 s r = sg1 t r') := by
  have h1 := valR_iff f (r := r) (r' := r')
  have h2 := valR_iff f (r := r') (r' := r)
  have h3 := valR_eq f (r := r) (r' := r')
  have h4 := valR_iff f (r := 0) (r' := r)
  have h5 := valR_iff f (r := 0) (r' := r')
  rw [valR_zero] at h4 h5
  unfold sg1
  cases s <;> cases t <;> simp only [Bool.false_eq_true, if_false, if_true] <;> constructor <;> omega
theorem signed_eq (s : Bool) (m u : Nat) : Ieee.signed s m u = sg1 s (m * 2 ^ u) := by unfold Ieee.signed sg1; rw [Nat.shiftLeft_eq]
theorem sg1_mul (s : Bool) (n p : Nat) : sg1 s (n * p) = sg1 s n * (p : Int) := by unfold sg1; cases s <;> simp [Int.neg_mul]
theorem sv_eq (k : FloatKind) (c : Nat) : sv k c = sg1 (c / k.format.signWeight % 2 == 1) (c % k.format.signWeight) := rfl

theorem order_sv (k : FloatKind) {a b : Nat} (ha : isNan k a = false) (hb : isNan k b = false) : k.format.order a b = some (compare (sv k a) (sv k b)) := by
  have hbi := fmt_bi k
  have hBn := fmt_bin k
  rw [isNan_rung] at ha hb
  simp only [decide_eq_false_iff_not, Nat.not_lt] at ha hb
  unfold Ieee.Format.order
  rw [sv_eq, sv_eq]
  rcases Nat.lt_or_ge (a % k.format.signWeight) k.format.infRung with h1 | h1
  · obtain ⟨m, i, hm, hv⟩ := read_val h1
    rcases Nat.lt_or_ge (b % k.format.signWeight) k.format.infRung with h2 | h2
    · obtain ⟨n, j, hn, hw⟩ := read_val h2
      rw [hm, hn]
      simp only [Ieee.Datum.order, Option.some.injEq]
      have hmin : min (k.format.leastPlace + (i : Int)) (k.format.leastPlace + (j : Int)) = k.format.leastPlace + ((min i j : Nat) : Int) := by omega
      rw [hmin]
      have e1 : (k.format.leastPlace + (i : Int) - (k.format.leastPlace + ((min i j : Nat) : Int))).toNat = i - min i j := by omega
      have e2 : (k.format.leastPlace + (j : Int) - (k.format.leastPlace + ((min i j : Nat) : Int))).toNat = j - min i j := by omega
      rw [e1, e2, signed_eq, signed_eq]
      obtain ⟨g1, g2⟩ := sg1_iff k.format (a / k.format.signWeight % 2 == 1) (b / k.format.signWeight % 2 == 1) (a % k.format.signWeight) (b % k.format.signWeight)
      rw [← hv, ← hw] at g1 g2
      have hp : (0 : Int) < ((2 ^ min i j : Nat) : Int) := by have := Nat.two_pow_pos (min i j); omega
      have f1 : ∀ s : Bool, ∀ m i : Nat, min i j ≤ i → sg1 s (m * 2 ^ i) = sg1 s (m * 2 ^ (i - min i j)) * ((2 ^ min i j : Nat) : Int) := fun s m i hi => by
        rw [← sg1_mul, Nat.mul_assoc, ← Nat.pow_add]; congr 3; omega
      have f2 : sg1 (b / k.format.signWeight % 2 == 1) (n * 2 ^ j) = sg1 (b / k.format.signWeight % 2 == 1) (n * 2 ^ (j - min i j)) * ((2 ^ min i j : Nat) : Int) := by
        rw [← sg1_mul, Nat.mul_assoc, ← Nat.pow_add]; congr 3; omega
      rw [f1 _ m i (Nat.min_le_left _ _), f2] at g1 g2
      refine cmp_congr ?_ ?_
      · rw [← g1]; exact (Int.mul_lt_mul_right hp).symm
      · rw [← g2]; exact (Int.mul_eq_mul_right_iff (by omega)).symm
    · have h2' : b % k.format.signWeight = k.format.infRung := by omega
      rw [hm, read_inf h2', h2']
      simp only [Ieee.Datum.order, Option.some.injEq]
      generalize (a / k.format.signWeight % 2 == 1) = s
      generalize a % k.format.signWeight = r at *
      show _ = compareOfLessAndEq _ _
      unfold compareOfLessAndEq sg1
      cases s <;> cases (b / k.format.signWeight % 2 == 1) <;> simp only [Bool.false_eq_true, if_false, if_true] <;> (first | (rw [if_pos (by omega)]) | (rw [if_neg (by omega), if_neg (by omega)]))
  · have h1' : a % k.format.signWeight = k.format.infRung := by omega
    rw [read_inf h1', h1']
    rcases Nat.lt_or_ge (b % k.format.signWeight) k.format.infRung with h2 | h2
    · obtain ⟨n, j, hn, hw⟩ := read_val h2
      rw [hn]
      simp only [Ieee.Datum.order, Option.some.injEq]
      generalize b % k.format.signWeight = r at *
      show _ = compareOfLessAndEq _ _
      unfold compareOfLessAndEq sg1
      cases (a / k.format.signWeight % 2 == 1) <;> cases (b / k.format.signWeight % 2 == 1) <;> simp only [Bool.false_eq_true, if_false, if_true] <;> (first | (rw [if_pos (by omega)]) | (rw [if_neg (by omega), if_neg (by omega)]))
    · have h2' : b % k.format.signWeight = k.format.infRung := by omega
      rw [read_inf h2', h2']
      simp only [Ieee.Datum.order, Option.some.injEq]
      show _ = compareOfLessAndEq _ _
      unfold compareOfLessAndEq sg1
      cases (a / k.format.signWeight % 2 == 1) <;> cases (b / k.format.signWeight % 2 == 1) <;> simp only [Bool.false_eq_true, if_false, if_true, Bool.toNat_true, Bool.toNat_false] <;>
        (first | (rw [if_pos (by omega)] <;> rfl) | (rw [if_neg (Int.lt_irrefl _)] <;> rfl) | (rw [if_neg (by omega), if_pos rfl] <;> rfl) | (rw [if_neg (by omega), if_neg (by omega)] <;> rfl))

/-- what an order comes to -/
theorem cmp_lt {a b : Int} (h : a < b) : compare a b = .lt := by show compareOfLessAndEq a b = _; unfold compareOfLessAndEq; rw [if_pos h]
theorem cmp_eq {a b : Int} (h : a = b) : compare a b = .eq := by show compareOfLessAndEq a b = _; unfold compareOfLessAndEq; subst h; rw [if_neg (Int.lt_irrefl _), if_pos rfl]
theorem cmp_gt {a b : Int} (h : b < a) : compare a b = .gt := by show compareOfLessAndEq a b = _; unfold compareOfLessAndEq; rw [if_neg (show ¬ a < b by omega), if_neg (show ¬ a = b by omega)]

/-! ### signs -/
theorem lt2 {q : Nat} (h : q < 2) : q = 0 ∨ q = 1 := by omega
theorem word_rung (k : FloatKind) {c : Nat} (hc : c < 2 * k.format.signWeight) : c = k.format.word (c / k.format.signWeight % 2 == 1) (c % k.format.signWeight) := by
  have h := Nat.div_add_mod c k.format.signWeight
  have h2 : c / k.format.signWeight < 2 := Nat.div_lt_of_lt_mul (by omega)
  unfold Ieee.Format.word
  rcases lt2 h2 with h3 | h3 <;> rw [h3] at h ⊢ <;> simp <;> omega
theorem word_parts (k : FloatKind) (s : Bool) {r : Nat} (hr : r < k.format.signWeight) : (k.format.word s r) % k.format.signWeight = r ∧ ((k.format.word s r) / k.format.signWeight % 2 == 1) = s ∧ k.format.word s r < 2 * k.format.signWeight := by
  obtain ⟨h1, h2⟩ := neg_of_word k.format s r hr
  refine ⟨h1, by rw [h2]; cases s <;> rfl, ?_⟩
  unfold Ieee.Format.word; cases s <;> simp <;> omega
theorem sw_lt (k : FloatKind) (c : Nat) : c % k.format.signWeight < k.format.signWeight := Nat.mod_lt _ (by cases k <;> decide)

theorem negFloat_word (k : FloatKind) {c : Nat} (hc : c < 2 * k.format.signWeight) : Op.negFloat k c = k.format.word (!(c / k.format.signWeight % 2 == 1)) (c % k.format.signWeight) := by
  have key : ∀ n c : Nat, c < 2 * 2 ^ n → c ^^^ 2 ^ n = if (!(c / 2 ^ n % 2 == 1)) = true then 2 ^ n + c % 2 ^ n else c % 2 ^ n := by
    intro n c h
    have hp := Nat.two_pow_pos n
    have h1 : (c ^^^ 2 ^ n) % 2 ^ n = c % 2 ^ n := by rw [Nat.xor_mod_two_pow, Nat.mod_self, Nat.xor_zero]
    have h2 : (c ^^^ 2 ^ n) / 2 ^ n = (c / 2 ^ n) ^^^ 1 := by rw [Nat.xor_div_two_pow, Nat.div_self hp]
    have h3 := Nat.div_add_mod (c ^^^ 2 ^ n) (2 ^ n)
    have h4 : c / 2 ^ n < 2 := Nat.div_lt_of_lt_mul (by omega)
    rw [h1, h2] at h3
    rcases lt2 h4 with h5 | h5 <;> rw [h5] at h3 ⊢ <;> simp at h3 ⊢ <;> omega
  unfold Ieee.Format.word
  cases k
  · exact key 31 c hc
  · exact key 63 c hc

/-- the opposite -/
theorem fneg_word (k : FloatKind) {c : Nat} (hc : c < 2 * k.format.signWeight) (hn : isNan k c = false) : fneg k c = k.format.word (!(c / k.format.signWeight % 2 == 1)) (c % k.format.signWeight) := by
  unfold fneg
  rw [hn]; simp only [Bool.false_eq_true, if_false]
  rw [negFloat_word k hc]
  refine canon_not ?_
  rw [isNan_rung] at hn ⊢
  rw [(word_parts k _ (sw_lt k c)).1]; exact hn

/-- 0 less a number -/
theorem zero_sub (k : FloatKind) {c : Nat} (hc : c < 2 * k.format.signWeight) (hn : isNan k c = false) :
    fop .sub k 0 c = if c % k.format.signWeight = 0 then 0 else k.format.word (!(c / k.format.signWeight % 2 == 1)) (c % k.format.signWeight) := by
  have hbi := fmt_bi k
  have h0 : (0 : Nat) % k.format.signWeight < k.format.infRung := by simp; omega
  have hr0 : k.format.read 0 = .number false 0 k.format.leastPlace := by
    unfold Ieee.Format.read; dsimp only; rw [if_pos (by simpa using fmt_bin k)]; simp
  unfold fop floatBits
  simp only []
  unfold Ieee.Format.sub
  rw [hr0]
  have hn' := hn
  rw [isNan_rung] at hn'
  simp only [decide_eq_false_iff_not, Nat.not_lt] at hn'
  have fin : ∀ s, canon k (k.format.word s (c % k.format.signWeight)) = k.format.word s (c % k.format.signWeight) := fun s => canon_not (by
    rw [isNan_rung] at hn ⊢
    rw [(word_parts k _ (sw_lt k c)).1]; exact hn)
  rcases Nat.lt_or_ge (c % k.format.signWeight) k.format.infRung with h1 | h1
  · obtain ⟨m, i, h, hm0, hnear⟩ := read_fin h1
    rw [h]
    simp only [Ieee.Datum.opposite, Ieee.Datum.sum]
    have hmin : min k.format.leastPlace (k.format.leastPlace + (i : Int)) = k.format.leastPlace := by omega
    rw [hmin, Int.sub_self]
    have e1 : (k.format.leastPlace + (i : Int) - k.format.leastPlace).toNat = i := by omega
    rw [e1]
    have e2 : Ieee.signed false 0 (0 : Int).toNat = 0 := by simp [Ieee.signed]
    rw [e2, Int.zero_add, signed_eq]
    simp only [Option.map_some, Ieee.Format.write]
    by_cases hm : m = 0
    · have hz := hm0.1 hm
      subst hm
      simp only [Nat.zero_mul, sg1]
      rw [if_pos hz]
      have e3 : (if (!(c / k.format.signWeight % 2 == 1)) = true then -((0 : Nat) : Int) else ((0 : Nat) : Int)) = 0 := by split <;> rfl
      rw [e3]
      simp only [if_true, Int.natAbs_zero, Bool.false_and, Ieee.Format.nearest, Ieee.Format.word, Bool.false_eq_true, if_false]
      exact canon_not (by rw [isNan_rung]; simp)
    · have hz : ¬ (c % k.format.signWeight = 0) := fun h => hm (hm0.2 h)
      rw [if_neg hz]
      have hp : m * 2 ^ i ≠ 0 := Nat.mul_ne_zero hm (Nat.ne_of_gt (Nat.two_pow_pos i))
      have e3 : sg1 (!(c / k.format.signWeight % 2 == 1)) (m * 2 ^ i) ≠ 0 := by revert hp; unfold sg1; generalize m * 2 ^ i = z; intro hp; split <;> omega
      rw [if_neg e3]
      have e4 : (sg1 (!(c / k.format.signWeight % 2 == 1)) (m * 2 ^ i)).natAbs = m * 2 ^ i := by unfold sg1; generalize m * 2 ^ i = z; split <;> omega
      have e5 : decide (sg1 (!(c / k.format.signWeight % 2 == 1)) (m * 2 ^ i) < 0) = !(c / k.format.signWeight % 2 == 1) := by
        revert hp; unfold sg1; generalize m * 2 ^ i = z; intro hp; cases (!(c / k.format.signWeight % 2 == 1)) <;> simp <;> omega
      rw [e4, e5]
      have e6 := nearest_scale k.format (!(c / k.format.signWeight % 2 == 1)) m i (k.format.leastPlace + (i : Int))
      have e7 : k.format.leastPlace + (i : Int) - (i : Int) = k.format.leastPlace := by omega
      rw [e7] at e6
      rw [e6, hnear]
      exact fin _
  · have h1' : c % k.format.signWeight = k.format.infRung := by omega
    rw [read_inf h1']
    simp only [Ieee.Datum.opposite, Ieee.Datum.sum, Option.map_some, Ieee.Format.write]
    rw [if_neg (by omega), ← h1']
    exact fin _

end Go.Aw
