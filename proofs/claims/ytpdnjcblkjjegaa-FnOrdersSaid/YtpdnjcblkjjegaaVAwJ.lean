/- The numbers of words as rationals, and what an operation rounds away. No condition. -/
import Derived.Test.YtpdnjcblkjjegaaVAwG
import Derived.Test.YtpdnjcblkjjegaaVAwC
import Derived.Test.YtpdnjcblkjjegaaVAwI
set_option linter.unusedVariables false
namespace Go.Aw

theorem valR_ulp (f : Ieee.Format) (r : Nat) : valR f (r + 1) * f.binade ≤ valR f r * f.binade + valR f r + f.binade := by
  have hB : 0 < f.binade := Nat.two_pow_pos _
  unfold valR
  generalize f.binade = B at *
  by_cases h1 : r + 1 < B
  · rw [if_pos h1, if_pos (show r < B by omega), Nat.add_mul]; omega
  · by_cases h2 : r < B
    · have : r + 1 = B := by omega
      rw [if_pos h2, if_neg h1, this]
      simp [Nat.div_self hB]
      have e : B * B = r * B + B := by rw [← this, Nat.mul_add, Nat.mul_one, this, Nat.mul_comm]
      have e2 := Nat.mul_mod_left
      have e3 : B % B = 0 := Nat.mod_self B
      omega
    · rw [if_neg h2, if_neg h1]
      have hm := Nat.mod_lt r hB
      have hd : 1 ≤ r / B := (Nat.one_le_div_iff hB).2 (by omega)
      by_cases h3 : r % B + 1 < B
      · have e1 : (r + 1) % B = r % B + 1 := by
          rw [Nat.add_mod]
          rcases Nat.lt_or_ge 1 B with h | h
          · rw [Nat.mod_eq_of_lt h, Nat.mod_eq_of_lt h3]
          · omega
        have e2 : (r + 1) / B = r / B := by
          have := Nat.div_add_mod r B
          have h4 : r + 1 = r % B + 1 + B * (r / B) := by omega
          rw [h4, Nat.add_mul_div_left _ _ hB, Nat.div_eq_of_lt h3]; omega
        rw [e1, e2]
        generalize 2 ^ (r / B - 1) = p
        generalize r % B = m
        have : (B + (m + 1)) * p * B = (B + m) * p * B + B * p := by
          have : B + (m + 1) = (B + m) + 1 := by omega
          rw [this, Nat.add_mul, Nat.add_mul, Nat.one_mul, Nat.mul_comm p B]
        rw [this, Nat.add_mul B m p]
        omega
      · have h4 : r + 1 = B * (r / B + 1) := by
          have := Nat.div_add_mod r B
          rw [Nat.mul_add, Nat.mul_one]; omega
        have e1 : (r + 1) % B = 0 := by rw [h4]; exact Nat.mul_mod_right _ _
        have e2 : (r + 1) / B = r / B + 1 := by rw [h4]; exact Nat.mul_div_cancel_left _ hB
        rw [e1, e2]
        have e3 : 2 ^ (r / B + 1 - 1) = 2 * 2 ^ (r / B - 1) := by
          obtain ⟨q, hq⟩ : ∃ q, r / B = q + 1 := ⟨r / B - 1, by omega⟩
          rw [hq]; simp [Nat.pow_succ, Nat.mul_comm]
        rw [e3]
        have hmB : r % B = B - 1 := by omega
        generalize 2 ^ (r / B - 1) = p
        rw [hmB, Nat.add_zero]
        have e4 : (B + (B - 1)) * p * B + B * p = B * (2 * p) * B := by
          obtain ⟨c, hc⟩ : ∃ c, B = c + 1 := ⟨B - 1, by omega⟩
          subst hc
          rw [Nat.add_sub_cancel]
          grind
        have e5 : B * p ≤ (B + (B - 1)) * p := Nat.mul_le_mul_right _ (by omega)
        omega

def uU (k : FloatKind) : Rat := 1 / ((2 ^ lpN k : Nat) : Rat)
def ep (k : FloatKind) : Rat := 1 / (k.format.binade : Rat)
/-- the number of a rung -/
def rvR (k : FloatKind) (r : Nat) : Rat := (valR k.format r : Rat) * uU k
/-- the number of a word -/
def rv (k : FloatKind) (c : Nat) : Rat := ((sg1 (c / k.format.signWeight % 2 == 1) (valR k.format (c % k.format.signWeight)) : Int) : Rat) * uU k
/-- a word that is a number -/
def Fnt (k : FloatKind) (c : Nat) : Prop := c < 2 * k.format.signWeight ∧ c % k.format.signWeight < k.format.infRung

theorem uU_pos (k : FloatKind) : 0 < uU k := by cases k <;> decide +kernel
theorem ep_pos (k : FloatKind) : 0 < ep k := by cases k <;> decide +kernel
theorem ep_B (k : FloatKind) : (k.format.binade : Rat) * ep k = 1 := by cases k <;> decide +kernel
theorem uU_two (k : FloatKind) : ((2 ^ lpN k : Nat) : Rat) * uU k = 1 := by cases k <;> decide +kernel
theorem Fnt.word {k : FloatKind} {c : Nat} (h : Fnt k c) : c = k.format.word (c / k.format.signWeight % 2 == 1) (c % k.format.signWeight) := word_rung k h.1
theorem Fn_word (k : FloatKind) (s : Bool) {r : Nat} (h : r < k.format.infRung) : Fnt k (k.format.word s r) := by
  obtain ⟨w1, w2, w3⟩ := word_parts k s (r := r) (by have := inf_sw k; omega)
  exact ⟨w3, by rw [w1]; exact h⟩
theorem rv_word (k : FloatKind) (s : Bool) {r : Nat} (h : r < k.format.infRung) : rv k (k.format.word s r) = if s then - rvR k r else rvR k r := by
  obtain ⟨w1, w2, w3⟩ := word_parts k s (r := r) (by have := inf_sw k; omega)
  unfold rv rvR sg1
  rw [w1, w2]
  cases s
  · simp [Rat.intCast_natCast]
  · simp only [if_true]; push_cast; grind
theorem Fnt.ex {k : FloatKind} {c : Nat} (h : Fnt k c) : ∃ s r, c = k.format.word s r ∧ r < k.format.infRung ∧ rv k c = if s then - rvR k r else rvR k r :=
  ⟨_, _, h.word, h.2, by rw [← rv_word k _ h.2, ← h.word]⟩
theorem rvR_nn (k : FloatKind) (r : Nat) : 0 ≤ rvR k r := Rat.mul_nonneg (by exact_mod_cast Nat.zero_le _) (Rat.le_of_lt (uU_pos k))
theorem rvR_mono (k : FloatKind) {r q : Nat} (h : r ≤ q) : rvR k r ≤ rvR k q :=
  Rat.mul_le_mul_of_nonneg_right (by exact_mod_cast valR_mono k.format h) (Rat.le_of_lt (uU_pos k))
theorem rvR_lt (k : FloatKind) {r q : Nat} (h : r < q) : rvR k r < rvR k q :=
  Rat.mul_lt_mul_of_pos_right (by exact_mod_cast valR_lt k.format h) (uU_pos k)
theorem rvR_ulp (k : FloatKind) (r : Nat) : rvR k (r + 1) ≤ rvR k r + ep k * rvR k r + uU k := by
  have h : (valR k.format (r + 1) : Rat) * k.format.binade ≤ valR k.format r * k.format.binade + valR k.format r + k.format.binade := by exact_mod_cast valR_ulp k.format r
  have h1 := Rat.mul_le_mul_of_nonneg_right h (Rat.le_of_lt (ep_pos k))
  have h2 := ep_B k
  have h3 : (valR k.format (r + 1) : Rat) * k.format.binade * ep k = valR k.format (r + 1) := by rw [Rat.mul_assoc, h2, Rat.mul_one]
  have h4 : ((valR k.format r : Rat) * k.format.binade + valR k.format r + k.format.binade) * ep k = valR k.format r + ep k * valR k.format r + 1 := by
    have : ((valR k.format r : Rat) * k.format.binade + valR k.format r + k.format.binade) * ep k = valR k.format r * (k.format.binade * ep k) + ep k * valR k.format r + k.format.binade * ep k := by grind
    rw [this, h2]; grind
  rw [h3, h4] at h1
  have h5 := Rat.mul_le_mul_of_nonneg_right h1 (Rat.le_of_lt (uU_pos k))
  unfold rvR
  have : ((valR k.format r : Rat) + ep k * valR k.format r + 1) * uU k = valR k.format r * uU k + ep k * (valR k.format r * uU k) + uU k := by grind
  rw [this] at h5
  exact h5

/-- 'r' is what 'x', not negative, is rounded to -/
structure Rd (k : FloatKind) (x : Rat) (r : Nat) : Prop where
  le : ∀ q, q < k.format.infRung → x ≤ rvR k q → r ≤ q
  ge : ∀ q, q < k.format.infRung → rvR k q ≤ x → q ≤ r

def topR (k : FloatKind) : Rat := rvR k (k.format.infRung - 1)
theorem inf_pos (k : FloatKind) : 0 < k.format.infRung := by cases k <;> decide
theorem Rd.err {k : FloatKind} {x : Rat} {r : Nat} (h : Rd k x r) (h0 : 0 ≤ x) (ht : x ≤ topR k) : r < k.format.infRung ∧ rvR k r ≤ x + ep k * x + uU k ∧ x ≤ rvR k r + ep k * x + uU k := by
  have hi := inf_pos k
  have h1 := h.le (k.format.infRung - 1) (by omega) ht
  have hE := ep_pos k
  have hU := uU_pos k
  refine ⟨by omega, ?_, ?_⟩
  · rcases Rat.le_total (a := rvR k r) (b := x) with hc | hc
    · have := Rat.mul_nonneg (Rat.le_of_lt hE) h0
      grind
    · cases r with
      | zero =>
        have hz : rvR k 0 = 0 := by unfold rvR; rw [valR_zero]; simp
        have := Rat.mul_nonneg (Rat.le_of_lt hE) h0
        grind
      | succ n =>
        have h2 : rvR k n ≤ x := by
          rcases Rat.le_total (a := rvR k n) (b := x) with hn | hn
          · exact hn
          · have := h.le n (by omega) hn; omega
        have h3 := rvR_ulp k n
        have h4 := Rat.mul_le_mul_of_nonneg_left h2 (Rat.le_of_lt hE)
        grind
  · rcases Rat.le_total (a := x) (b := rvR k r) with hc | hc
    · have := Rat.mul_nonneg (Rat.le_of_lt hE) h0
      grind
    · have h3 := rvR_ulp k r
      have h4 := Rat.mul_le_mul_of_nonneg_left hc (Rat.le_of_lt hE)
      by_cases hr : r + 1 < k.format.infRung
      · have h5 : x ≤ rvR k (r + 1) := by
          rcases Rat.le_total (a := x) (b := rvR k (r + 1)) with hn | hn
          · exact hn
          · have := h.ge (r + 1) hr hn; omega
        grind
      · have : r = k.format.infRung - 1 := by omega
        have h6 : x ≤ rvR k r := by rw [this]; exact ht
        have := Rat.mul_nonneg (Rat.le_of_lt hE) h0
        grind

/-- 'c' is the word that 'x' is rounded to -/
def RdS (k : FloatKind) (x : Rat) (c : Nat) : Prop := ∃ s r, c = k.format.word s r ∧ r ≤ k.format.infRung ∧ (s = false → 0 ≤ x ∧ Rd k x r) ∧ (s = true → x ≤ 0 ∧ Rd k (-x) r)

theorem RdS.fin {k : FloatKind} {x : Rat} {c : Nat} (h : RdS k x c) (h1 : x ≤ topR k) (h2 : -topR k ≤ x) : Fnt k c := by
  obtain ⟨s, r, rfl, hr, hf, ht⟩ := h
  cases s with
  | false => exact Fn_word k _ ((hf rfl).2.err (hf rfl).1 h1).1
  | true => exact Fn_word k _ ((ht rfl).2.err (by have := (ht rfl).1; grind) (by grind)).1
theorem RdS.err {k : FloatKind} {x M : Rat} {c : Nat} (h : RdS k x c) (h1 : x ≤ M) (h2 : -M ≤ x) (hM : M ≤ topR k) : Fnt k c ∧ rv k c ≤ x + (ep k * M + uU k) ∧ x ≤ rv k c + (ep k * M + uU k) := by
  have hE := ep_pos k
  refine ⟨h.fin (by grind) (by grind), ?_⟩
  obtain ⟨s, r, rfl, hr, hf, ht⟩ := h
  cases s with
  | false =>
    obtain ⟨g0, g⟩ := hf rfl
    obtain ⟨e1, e2, e3⟩ := g.err g0 (by grind)
    have h4 := Rat.mul_le_mul_of_nonneg_left h1 (Rat.le_of_lt hE)
    rw [rv_word k _ e1]
    simp only [Bool.false_eq_true, if_false]
    constructor <;> grind
  | true =>
    obtain ⟨g0, g⟩ := ht rfl
    obtain ⟨e1, e2, e3⟩ := g.err (by grind) (by grind)
    have h4 := Rat.mul_le_mul_of_nonneg_left (show -x ≤ M by grind) (Rat.le_of_lt hE)
    rw [rv_word k _ e1]
    simp only [if_true]
    constructor <;> grind
/-- rounding keeps an order against a number that is a word -/
theorem RdS.le {k : FloatKind} {x : Rat} {c d : Nat} (h : RdS k x c) (hd : Fnt k d) (hc : Fnt k c) (hx : x ≤ rv k d) : rv k c ≤ rv k d := by
  obtain ⟨s, r, rfl, hr, hf, ht⟩ := h
  obtain ⟨t, q, rfl, hq, hv⟩ := hd.ex
  have hr' : r < k.format.infRung := by
    have := hc.2
    rw [(word_parts k s (r := r) (by have := inf_sw k; omega)).1] at this; exact this
  have hqn := rvR_nn k q
  have hrn := rvR_nn k r
  rw [hv] at hx ⊢
  rw [rv_word k _ hr']
  cases s with
  | false =>
    obtain ⟨g0, g⟩ := hf rfl
    cases t with
    | false =>
      simp only [Bool.false_eq_true, if_false] at hx ⊢
      exact rvR_mono k (g.le q hq hx)
    | true =>
      simp only [Bool.false_eq_true, if_false, if_true] at hx ⊢
      have hz : rvR k 0 = 0 := by unfold rvR; rw [valR_zero]; simp
      have := rvR_mono k (g.le 0 (inf_pos k) (by grind))
      grind
  | true =>
    obtain ⟨g0, g⟩ := ht rfl
    cases t with
    | false =>
      simp only [Bool.false_eq_true, if_false, if_true] at hx ⊢
      grind
    | true =>
      simp only [if_true] at hx ⊢
      have := rvR_mono k (g.ge q hq (by grind))
      grind
theorem RdS.ge {k : FloatKind} {x : Rat} {c d : Nat} (h : RdS k x c) (hd : Fnt k d) (hc : Fnt k c) (hx : rv k d ≤ x) : rv k d ≤ rv k c := by
  obtain ⟨s, r, rfl, hr, hf, ht⟩ := h
  obtain ⟨t, q, rfl, hq, hv⟩ := hd.ex
  have hr' : r < k.format.infRung := by
    have := hc.2
    rw [(word_parts k s (r := r) (by have := inf_sw k; omega)).1] at this; exact this
  have hqn := rvR_nn k q
  have hrn := rvR_nn k r
  rw [hv] at hx ⊢
  rw [rv_word k _ hr']
  cases s with
  | false =>
    obtain ⟨g0, g⟩ := hf rfl
    cases t with
    | false =>
      simp only [Bool.false_eq_true, if_false] at hx ⊢
      exact rvR_mono k (g.ge q hq hx)
    | true =>
      simp only [Bool.false_eq_true, if_false, if_true] at hx ⊢
      grind
  | true =>
    obtain ⟨g0, g⟩ := ht rfl
    cases t with
    | false =>
      simp only [Bool.false_eq_true, if_false, if_true] at hx ⊢
      have hz : rvR k 0 = 0 := by unfold rvR; rw [valR_zero]; simp
      have := rvR_mono k (g.le 0 (inf_pos k) (by grind))
      grind
    | true =>
      simp only [if_true] at hx ⊢
      have := rvR_mono k (g.le q hq (by grind))
      grind
theorem RdS.exact {k : FloatKind} {x : Rat} {c d : Nat} (h : RdS k x c) (hd : Fnt k d) (hc : Fnt k c) (hx : x = rv k d) : rv k c = rv k d :=
  Rat.le_antisymm (h.le hd hc (by rw [hx]; exact Rat.le_refl)) (h.ge hd hc (by rw [hx]; exact Rat.le_refl))

/-! ### the operations -/
theorem Rd_near (k : FloatKind) (m : Nat) : Rd k ((m : Rat) * uU k) (k.format.nearest false m k.format.leastPlace) := by
  have hU := uU_pos k
  refine ⟨fun q hq h => near_le k hq ?_, fun q hq h => near_ge k hq ?_⟩
  · unfold rvR at h
    have := Rat.le_of_mul_le_mul_right h hU
    exact_mod_cast this
  · unfold rvR at h
    have := Rat.le_of_mul_le_mul_right h hU
    exact_mod_cast this
theorem rdS_int (k : FloatKind) (T : Int) (s : Bool) (hs : T ≠ 0 → s = decide (T < 0)) : RdS k ((T : Rat) * uU k) (k.format.word s (k.format.nearest false T.natAbs k.format.leastPlace)) := by
  have hU := uU_pos k
  refine ⟨_, _, rfl, nearest_inf _ _ _, fun h => ?_, fun h => ?_⟩
  · have hT : 0 ≤ T := by
      rcases Int.lt_or_le T 0 with h1 | h1
      · have := hs (by omega); rw [h] at this; simp at this; omega
      · exact h1
    obtain ⟨n, rfl⟩ : ∃ n : Nat, T = (n : Int) := ⟨T.toNat, by omega⟩
    have e : (((n : Nat) : Int) : Rat) = (n : Rat) := by push_cast; rfl
    rw [Int.natAbs_natCast, e]
    exact ⟨Rat.mul_nonneg (by exact_mod_cast Nat.zero_le _) (Rat.le_of_lt hU), Rd_near k n⟩
  · have hT : T ≤ 0 := by
      rcases Int.lt_or_le 0 T with h1 | h1
      · have := hs (by omega); rw [h] at this; simp at this; omega
      · exact h1
    obtain ⟨n, rfl⟩ : ∃ n : Nat, T = -(n : Int) := ⟨(-T).toNat, by omega⟩
    have e : ((-((n : Nat) : Int) : Int) : Rat) = -(n : Rat) := by push_cast; rfl
    rw [Int.natAbs_neg, Int.natAbs_natCast, e]
    have hn : 0 ≤ (n : Rat) * uU k := Rat.mul_nonneg (by exact_mod_cast Nat.zero_le _) (Rat.le_of_lt hU)
    refine ⟨by grind, ?_⟩
    have e2 : -(-(n : Rat) * uU k) = (n : Rat) * uU k := by grind
    rw [e2]
    exact Rd_near k n
theorem sg1_rv (k : FloatKind) (s : Bool) (r : Nat) : ((sg1 s (valR k.format r) : Int) : Rat) * uU k = if s then -rvR k r else rvR k r := by
  unfold sg1 rvR
  cases s
  · simp [Rat.intCast_natCast]
  · simp only [if_true]; push_cast; grind
theorem add_rds {k : FloatKind} {a b : Nat} (ha : Fnt k a) (hb : Fnt k b) : RdS k (rv k a + rv k b) (fop .add k a b) := by
  obtain ⟨s, r, rfl, hr, hv⟩ := ha.ex
  obtain ⟨t, q, rfl, hq, hw⟩ := hb.ex
  rw [sum_word k s t hr hq]
  have := rdS_int k (sg1 s (valR k.format r) + sg1 t (valR k.format q)) (if sg1 s (valR k.format r) + sg1 t (valR k.format q) = 0 then s && t else decide (sg1 s (valR k.format r) + sg1 t (valR k.format q) < 0)) (fun h => by rw [if_neg h])
  have e : ((sg1 s (valR k.format r) + sg1 t (valR k.format q) : Int) : Rat) * uU k = rv k (k.format.word s r) + rv k (k.format.word t q) := by
    rw [hv, hw, ← sg1_rv, ← sg1_rv]; push_cast; grind
  rw [e] at this
  exact this
theorem sub_rds {k : FloatKind} {a b : Nat} (ha : Fnt k a) (hb : Fnt k b) : RdS k (rv k a - rv k b) (fop .sub k a b) := by
  obtain ⟨s, r, rfl, hr, hv⟩ := ha.ex
  obtain ⟨t, q, rfl, hq, hw⟩ := hb.ex
  rw [sub_word k s t hr hq]
  have := rdS_int k (sg1 s (valR k.format r) + sg1 (!t) (valR k.format q)) (if sg1 s (valR k.format r) + sg1 (!t) (valR k.format q) = 0 then s && !t else decide (sg1 s (valR k.format r) + sg1 (!t) (valR k.format q) < 0)) (fun h => by rw [if_neg h])
  have e : ((sg1 s (valR k.format r) + sg1 (!t) (valR k.format q) : Int) : Rat) * uU k = rv k (k.format.word s r) - rv k (k.format.word t q) := by
    rw [hv, hw, ← sg1_rv]
    have : (if t = true then -rvR k q else rvR k q) = - (((sg1 (!t) (valR k.format q) : Int) : Rat) * uU k) := by rw [sg1_rv]; cases t <;> simp
    rw [this]; push_cast; grind
  rw [e] at this
  exact this
theorem Rd_nearS (k : FloatKind) (m p : Nat) (x : Rat) (hx : x * ((2 ^ p : Nat) : Rat) = (m : Rat) * uU k) : Rd k x (k.format.nearest false m (k.format.leastPlace - (p : Int))) := by
  have hU := uU_pos k
  have hP : (0 : Rat) < ((2 ^ p : Nat) : Rat) := by exact_mod_cast Nat.two_pow_pos p
  have key : ∀ q, q < k.format.infRung → k.format.nearest false (valR k.format q * 2 ^ p) (k.format.leastPlace - (p : Int)) = q := fun q hq => by
    rw [nearest_scale, nearest_valR k hq]
  refine ⟨fun q hq h => ?_, fun q hq h => ?_⟩
  · have h1 := Rat.mul_le_mul_of_nonneg_right h (Rat.le_of_lt hP)
    rw [hx] at h1
    have e : rvR k q * ((2 ^ p : Nat) : Rat) = ((valR k.format q * 2 ^ p : Nat) : Rat) * uU k := by unfold rvR; push_cast; grind
    rw [e] at h1
    have h2 := Rat.le_of_mul_le_mul_right h1 hU
    have h3 : m ≤ valR k.format q * 2 ^ p := by exact_mod_cast h2
    have := nearest_mono k.format (k.format.leastPlace - (p : Int)) h3
    rw [key q hq] at this; exact this
  · have h1 := Rat.mul_le_mul_of_nonneg_right h (Rat.le_of_lt hP)
    rw [hx] at h1
    have e : rvR k q * ((2 ^ p : Nat) : Rat) = ((valR k.format q * 2 ^ p : Nat) : Rat) * uU k := by unfold rvR; push_cast; grind
    rw [e] at h1
    have h2 := Rat.le_of_mul_le_mul_right h1 hU
    have h3 : valR k.format q * 2 ^ p ≤ m := by exact_mod_cast h2
    have := nearest_mono k.format (k.format.leastPlace - (p : Int)) h3
    rw [key q hq] at this; exact this
theorem rdS_of {k : FloatKind} {x : Rat} {s : Bool} {r : Nat} (hx : 0 ≤ x) (h : Rd k x r) (hr : r ≤ k.format.infRung) : RdS k (if s then -x else x) (k.format.word s r) := by
  refine ⟨s, r, rfl, hr, fun hs => ?_, fun hs => ?_⟩
  · subst hs; exact ⟨by simpa using hx, by simpa using h⟩
  · subst hs
    simp only [if_true]
    refine ⟨by grind, ?_⟩
    have : - -x = x := by grind
    rw [this]; exact h
theorem mul_rds {k : FloatKind} {a b : Nat} (ha : Fnt k a) (hb : Fnt k b) : RdS k (rv k a * rv k b) (fop .mul k a b) := by
  obtain ⟨s, r, rfl, hr, hv⟩ := ha.ex
  obtain ⟨t, q, rfl, hq, hw⟩ := hb.ex
  rw [mul_word k s t hr hq]
  have hlp : k.format.leastPlace + k.format.leastPlace = k.format.leastPlace - ((lpN k : Nat) : Int) := by have := lp_N k; omega
  rw [hlp]
  have h1 := Rd_nearS k (valR k.format r * valR k.format q) (lpN k) (rvR k r * rvR k q) (by
    have h2 := uU_two k
    have : rvR k r * rvR k q * ((2 ^ lpN k : Nat) : Rat) = (valR k.format r : Rat) * (valR k.format q : Rat) * uU k * (((2 ^ lpN k : Nat) : Rat) * uU k) := by unfold rvR; grind
    rw [this, h2]; push_cast; grind)
  have h2 := rdS_of (s := s ^^ t) (Rat.mul_nonneg (rvR_nn k r) (rvR_nn k q)) h1 (nearest_inf _ _ _)
  have e : rv k (k.format.word s r) * rv k (k.format.word t q) = if (s ^^ t) = true then -(rvR k r * rvR k q) else rvR k r * rvR k q := by
    rw [hv, hw]; cases s <;> cases t <;> simp <;> grind
  rw [e]; exact h2

theorem Fnt.notnan {k : FloatKind} {c : Nat} (h : Fnt k c) : isNan k c = false := by
  rw [isNan_rung]; exact decide_eq_false (by have := h.2; omega)
theorem sv_rv (k : FloatKind) {a b : Nat} : (sv k a < sv k b ↔ rv k a < rv k b) ∧ (sv k a = sv k b ↔ rv k a = rv k b) := by
  have hU := uU_pos k
  have h := sg1_iff k.format (a / k.format.signWeight % 2 == 1) (b / k.format.signWeight % 2 == 1) (a % k.format.signWeight) (b % k.format.signWeight)
  rw [sv_eq, sv_eq]
  constructor
  · rw [← h.1]
    unfold rv
    constructor
    · intro h1
      exact Rat.mul_lt_mul_of_pos_right (by exact_mod_cast h1) hU
    · intro h1
      have := Rat.lt_of_mul_lt_mul_right h1 (Rat.le_of_lt hU)
      exact_mod_cast this
  · rw [← h.2]
    unfold rv
    constructor
    · intro h1; rw [h1]
    · intro h1
      have e : ∀ x y : Rat, x * uU k = y * uU k → x = y := fun x y h => by
        have h2 : x * (uU k * (uU k)⁻¹) = y * (uU k * (uU k)⁻¹) := by rw [← Rat.mul_assoc, ← Rat.mul_assoc, h]
        rw [Rat.mul_inv_cancel _ (fun h => by rw [h] at hU; exact absurd hU (by decide)), Rat.mul_one, Rat.mul_one] at h2
        exact h2
      have := e _ _ h1
      exact_mod_cast this
theorem lss_rv {k : FloatKind} {a b : Nat} (ha : Fnt k a) (hb : Fnt k b) : fcmp .lss k a b = decide (rv k a < rv k b) := by
  simp only [fcmp]
  have e : decide (rv k a < rv k b) = decide (sv k a < sv k b) := decide_eq_decide.2 (sv_rv k).1.symm
  rw [order_sv k ha.notnan hb.notnan, e]
  rcases Int.lt_trichotomy (sv k a) (sv k b) with h | h | h
  · rw [cmp_lt h]; simp [h]
  · rw [cmp_eq h]; simp [h]
  · rw [cmp_gt h]; simp; omega
theorem gtr_rv {k : FloatKind} {a b : Nat} (ha : Fnt k a) (hb : Fnt k b) : fcmp .gtr k a b = decide (rv k b < rv k a) := by
  simp only [fcmp]
  have e : decide (rv k b < rv k a) = decide (sv k b < sv k a) := decide_eq_decide.2 (sv_rv k).1.symm
  rw [order_sv k ha.notnan hb.notnan, e]
  rcases Int.lt_trichotomy (sv k a) (sv k b) with h | h | h
  · rw [cmp_lt h]; simp; omega
  · rw [cmp_eq h]; simp [h]
  · rw [cmp_gt h]; simp [h]
theorem quo_near {k : FloatKind} {r q : Nat} (hr : r < k.format.infRung) (hq : q < k.format.infRung) (hq0 : q ≠ 0) (s t : Bool) :
    ∃ r' x, fop .quo k (k.format.word s r) (k.format.word t q) = k.format.word (s ^^ t) r' ∧ r' ≤ k.format.infRung ∧ Rd k x r' ∧ 0 ≤ x ∧ ∀ z, z * rvR k q = rvR k r → 0 ≤ z ∧ x ≤ z + ep k * z ∧ z ≤ x + ep k * z := by
  obtain ⟨m, i, h1, h2⟩ := read_word k s (r := r) hr
  obtain ⟨n, j, g1, g2⟩ := read_word k t (r := q) hq
  have hU := uU_pos k
  have hE := ep_pos k
  have hn : n ≠ 0 := by
    intro h
    rw [h, Nat.zero_mul] at g2
    have := valR_lt k.format (show 0 < q by omega)
    rw [valR_zero] at this; omega
  have hvq : (0 : Rat) < rvR k q := by
    have := rvR_lt k (show 0 < q by omega)
    have hz : rvR k 0 = 0 := by unfold rvR; rw [valR_zero]; simp
    grind
  have hz0 : ∀ z, z * rvR k q = rvR k r → 0 ≤ z := fun z hz => by
    have h5 := rvR_nn k r
    have h6 : 0 * rvR k q ≤ z * rvR k q := by rw [hz]; grind
    exact Rat.le_of_mul_le_mul_right h6 hvq
  generalize hd : k.format.fractionBits + 2 = d
  generalize hmo : d + n.log2 - m.log2 = more
  have hf : floatBits .quo k (k.format.word s r) (k.format.word t q) = some (k.format.nearest (s ^^ t) (2 * ((m * 2 ^ more) / n) + ((m * 2 ^ more) % n != 0).toNat) (k.format.leastPlace + (i : Int) - (k.format.leastPlace + (j : Int)) - (more : Int) - 1)) := by
    unfold floatBits; simp only []; unfold Ieee.Format.div
    rw [h1, g1]
    simp only [Ieee.Datum.quotient, if_neg hn, Option.map_some, Ieee.Format.write, hd, hmo, Nat.shiftLeft_eq]
  rw [fop_eq hf]
  generalize hX : 2 * ((m * 2 ^ more) / n) + ((m * 2 ^ more) % n != 0).toNat = X
  have hlp := lp_N k
  have e1 := nearest_scale k.format false X (i + lpN k) (k.format.leastPlace + (i : Int) - (k.format.leastPlace + (j : Int)) - (more : Int) - 1)
  have e3 : k.format.leastPlace + (i : Int) - (k.format.leastPlace + (j : Int)) - (more : Int) - 1 - ((i + lpN k : Nat) : Int) = k.format.leastPlace - ((j + more + 1 : Nat) : Int) := by omega
  rw [e3] at e1
  have hI : (0 : Rat) < ((2 ^ i : Nat) : Rat) := by exact_mod_cast Nat.two_pow_pos i
  have hJ : (0 : Rat) < ((2 ^ j : Nat) : Rat) := by exact_mod_cast Nat.two_pow_pos j
  have hW : (0 : Rat) < ((2 ^ more : Nat) : Rat) := by exact_mod_cast Nat.two_pow_pos more
  have hP : (0 : Rat) < ((2 ^ (j + more + 1) : Nat) : Rat) := by exact_mod_cast Nat.two_pow_pos _
  have hPe : ((2 ^ (j + more + 1) : Nat) : Rat) = ((2 ^ j : Nat) : Rat) * ((2 ^ more : Nat) : Rat) * 2 := by
    have : (2 : Nat) ^ (j + more + 1) = 2 ^ j * 2 ^ more * 2 := by rw [Nat.pow_succ, Nat.pow_add]
    rw [this]; push_cast; rfl
  obtain ⟨x, hx⟩ : ∃ x : Rat, x * ((2 ^ (j + more + 1) : Nat) : Rat) = (X : Rat) * ((2 ^ i : Nat) : Rat) :=
    ⟨(X : Rat) * ((2 ^ i : Nat) : Rat) * ((2 ^ (j + more + 1) : Nat) : Rat)⁻¹, by rw [Rat.mul_assoc, Rat.inv_mul_cancel _ (fun h => by rw [h] at hP; exact absurd hP (by decide)), Rat.mul_one]⟩
  have hx0 : 0 ≤ x := by
    have h5 : 0 * ((2 ^ (j + more + 1) : Nat) : Rat) ≤ x * ((2 ^ (j + more + 1) : Nat) : Rat) := by
      rw [hx, Rat.zero_mul]; exact Rat.mul_nonneg (by exact_mod_cast Nat.zero_le _) (Rat.le_of_lt hI)
    exact Rat.le_of_mul_le_mul_right h5 hP
  refine ⟨_, x, rfl, nearest_inf _ _ _, ?_, hx0, fun z hz => ⟨hz0 z hz, ?_⟩⟩
  · rw [← e1]
    refine Rd_nearS k _ _ x ?_
    rw [hx]
    have h5 := uU_two k
    have : (((X * 2 ^ (i + lpN k) : Nat)) : Rat) * uU k = (X : Rat) * ((2 ^ i : Nat) : Rat) * (((2 ^ lpN k : Nat) : Rat) * uU k) := by
      rw [Nat.pow_add]; push_cast; grind
    rw [this, h5, Rat.mul_one]
  · -- z n 2^j = m 2^i
    have hzz : z * ((n : Rat) * ((2 ^ j : Nat) : Rat)) = (m : Rat) * ((2 ^ i : Nat) : Rat) := by
      unfold rvR at hz
      rw [← h2, ← g2] at hz
      have h6 : (z * ((n * 2 ^ j : Nat) : Rat)) * uU k = ((m * 2 ^ i : Nat) : Rat) * uU k := by rw [← hz]; grind
      have e : ∀ x y : Rat, x * uU k = y * uU k → x = y := fun x y h => Rat.le_antisymm (Rat.le_of_mul_le_mul_right (by rw [h]; exact Rat.le_refl) hU) (Rat.le_of_mul_le_mul_right (by rw [h]; exact Rat.le_refl) hU)
      have := e _ _ h6
      push_cast at this ⊢
      exact this
    have hnR : (0 : Rat) < (n : Rat) := by exact_mod_cast (show 0 < n by omega)
    -- the quotient's integer
    generalize hA : m * 2 ^ more = A at *
    have b0 := Nat.div_add_mod A n
    have b1 := Nat.mod_lt A (show 0 < n by omega)
    have hXn : X * n ≤ 2 * A + n ∧ 2 * A ≤ X * n + n ∧ (A = 0 → X = 0) := by
      rw [← hX]
      have e5 : (2 * (A / n) + (A % n != 0).toNat) * n = 2 * (n * (A / n)) + (A % n != 0).toNat * n := by
        rw [Nat.add_mul, Nat.mul_assoc, Nat.mul_comm (A / n) n]
      rw [e5]
      refine ⟨?_, ?_, fun h => by subst h; simp⟩
      · by_cases h0 : A % n = 0
        · simp [h0]; omega
        · have : (A % n != 0) = true := by simpa using h0
          rw [this]; simp; omega
      · by_cases h0 : A % n = 0
        · simp [h0]; omega
        · have : (A % n != 0) = true := by simpa using h0
          rw [this]; simp; omega
    have hAR : (A : Rat) = (m : Rat) * ((2 ^ more : Nat) : Rat) := by rw [← hA]; push_cast; rfl
    by_cases hm : m = 0
    · have hX0 : X = 0 := hXn.2.2 (by rw [← hA, hm, Nat.zero_mul])
      have hx00 : x = 0 := by
        rw [hX0] at hx
        have : x * ((2 ^ (j + more + 1) : Nat) : Rat) ≤ 0 * ((2 ^ (j + more + 1) : Nat) : Rat) := by rw [hx]; simp
        have := Rat.le_of_mul_le_mul_right this hP
        exact Rat.le_antisymm this hx0
      have hz00 : z = 0 := by
        rw [hm] at hzz
        have hnJ := Rat.mul_pos hnR hJ
        have : z * ((n : Rat) * ((2 ^ j : Nat) : Rat)) ≤ 0 * ((n : Rat) * ((2 ^ j : Nat) : Rat)) := by rw [hzz]; simp
        have := Rat.le_of_mul_le_mul_right this hnJ
        exact Rat.le_antisymm this (hz0 z hz)
      rw [hx00, hz00]; constructor <;> grind
    · have hbig : n * (2 * k.format.binade) ≤ A := by
        have a1 : n < 2 ^ (n.log2 + 1) := Nat.lt_log2_self
        have a2 : 2 ^ (m.log2 + more) ≤ m * 2 ^ more := by rw [Nat.pow_add]; exact Nat.mul_le_mul_right _ (Nat.log2_self_le hm)
        have a3 : 2 ^ (n.log2 + 1) * 2 ^ (k.format.fractionBits + 1) ≤ 2 ^ (m.log2 + more) := by rw [← Nat.pow_add]; exact Nat.pow_le_pow_right (by decide) (by omega)
        have a4 : 2 * k.format.binade = 2 ^ (k.format.fractionBits + 1) := by rw [Nat.pow_succ, Nat.mul_comm]; rfl
        rw [a4, ← hA]
        exact Nat.le_trans (Nat.mul_le_mul_right _ (Nat.le_of_lt a1)) (Nat.le_trans a3 a2)
      have c1 : (X : Rat) * n ≤ 2 * A + n := by exact_mod_cast hXn.1
      have c2 : (2 : Rat) * A ≤ X * n + n := by exact_mod_cast hXn.2.1
      have c3 : (n : Rat) * (2 * k.format.binade) ≤ A := by exact_mod_cast hbig
      have c4 := Rat.mul_le_mul_of_nonneg_right c3 (Rat.le_of_lt (Rat.mul_pos hE hI))
      have c5 : (n : Rat) * (2 * k.format.binade) * (ep k * ((2 ^ i : Nat) : Rat)) = 2 * n * ((2 ^ i : Nat) : Rat) := by
        have := ep_B k
        have h7 : (n : Rat) * (2 * k.format.binade) * (ep k * ((2 ^ i : Nat) : Rat)) = 2 * n * ((2 ^ i : Nat) : Rat) * (k.format.binade * ep k) := by grind
        rw [h7, this, Rat.mul_one]
      rw [c5] at c4
      have d1 := Rat.mul_le_mul_of_nonneg_right c1 (Rat.le_of_lt hI)
      have d2 := Rat.mul_le_mul_of_nonneg_right c2 (Rat.le_of_lt hI)
      have hnI := Rat.mul_pos hnR hI
      rw [hPe] at hx
      generalize ((2 ^ i : Nat) : Rat) = I at *
      generalize ((2 ^ j : Nat) : Rat) = J at *
      generalize ((2 ^ more : Nat) : Rat) = W at *
      have hQ : (0 : Rat) < n * J * W * 2 := Rat.mul_pos (Rat.mul_pos (Rat.mul_pos hnR hJ) hW) (by decide)
      have f1 : x * (n * J * W * 2) = X * n * I := by
        have : x * (n * J * W * 2) = (x * (J * W * 2)) * n := by grind
        rw [this, hx]; grind
      have f2 : z * (n * J * W * 2) = 2 * A * I := by
        have : z * (n * J * W * 2) = (z * (n * J)) * W * 2 := by grind
        rw [this, hzz, hAR]; grind
      constructor
      · refine Rat.le_of_mul_le_mul_right ?_ hQ
        have : (z + ep k * z) * (n * J * W * 2) = z * (n * J * W * 2) + ep k * (z * (n * J * W * 2)) := by grind
        rw [this, f1, f2]
        grind
      · refine Rat.le_of_mul_le_mul_right ?_ hQ
        have : (x + ep k * z) * (n * J * W * 2) = x * (n * J * W * 2) + ep k * (z * (n * J * W * 2)) := by grind
        rw [this, f1, f2]
        grind
/-- a quotient: what is rounded differs from the quotient by little -/
theorem quo_rds {k : FloatKind} {a b : Nat} {z : Rat} (ha : Fnt k a) (hb : Fnt k b) (hb0 : rv k b ≠ 0) (hz : z * rv k b = rv k a) :
    ∃ x, RdS k x (fop .quo k a b) ∧ ((0 ≤ z ∧ 0 ≤ x ∧ x ≤ z + ep k * z ∧ z ≤ x + ep k * z) ∨ (z ≤ 0 ∧ x ≤ 0 ∧ -x ≤ -z + ep k * -z ∧ -z ≤ -x + ep k * -z)) := by
  obtain ⟨s, r, rfl, hr, hv⟩ := ha.ex
  obtain ⟨t, q, rfl, hq, hw⟩ := hb.ex
  have hq0 : q ≠ 0 := by
    rintro rfl
    have hzz : rvR k 0 = 0 := by unfold rvR; rw [valR_zero]; simp
    rw [hw, hzz] at hb0; cases t <;> simp at hb0
  obtain ⟨r', x, e1, e2, e3, e4, e5⟩ := quo_near hr hq hq0 s t
  rw [e1]
  refine ⟨_, rdS_of e4 e3 e2, ?_⟩
  rw [hv, hw] at hz
  have h6 := e5 (if s ^^ t then -z else z) (by cases s <;> cases t <;> simp at hz ⊢ <;> grind)
  cases hst : s ^^ t with
  | false => rw [hst] at h6; simp only [Bool.false_eq_true, if_false] at h6 ⊢; exact .inl ⟨h6.1, e4, h6.2⟩
  | true => rw [hst] at h6; simp only [if_true] at h6 ⊢; refine .inr ⟨by grind, by grind, ?_, ?_⟩ <;> grind

theorem fint_rds (k : FloatKind) (n : Int) : RdS k (n : Rat) (fint k n) := by
  have e : k.nearest n = k.format.word (decide (n < 0)) (k.format.nearest false n.natAbs 0) := by
    show k.format.nearest (decide (n < 0)) n.natAbs 0 = _
    exact nearest_sign _ _ _ _
  have h := nearest_scale k.format false n.natAbs (lpN k) 0
  have hlp := lp_N k
  rw [show (0 : Int) - ((lpN k : Nat) : Int) = k.format.leastPlace by omega] at h
  unfold fint
  rw [e, canon_word k _ (nearest_inf _ _ _), ← h]
  have h2 := rdS_int k (n * ((2 ^ lpN k : Nat) : Int)) (decide (n < 0)) (fun _ => by
    have hp : (0 : Int) < ((2 ^ lpN k : Nat) : Int) := by have := Nat.two_pow_pos (lpN k); omega
    rw [decide_eq_decide]
    constructor
    · intro h; exact Int.mul_neg_of_neg_of_pos h hp
    · intro h
      rcases Int.lt_or_le n 0 with h' | h'
      · exact h'
      · have := Int.mul_nonneg h' (Int.le_of_lt hp); omega)
  rw [Int.natAbs_mul, Int.natAbs_natCast] at h2
  have e3 : (((n * ((2 ^ lpN k : Nat) : Int) : Int)) : Rat) * uU k = (n : Rat) := by
    have := uU_two k
    have h5 : (((n * ((2 ^ lpN k : Nat) : Int) : Int)) : Rat) = (n : Rat) * ((2 ^ lpN k : Nat) : Rat) := by push_cast; rfl
    rw [h5, Rat.mul_assoc, this, Rat.mul_one]
  rw [e3] at h2
  exact h2

theorem fconv_word {k k' : FloatKind} (s : Bool) {r : Nat} (hr : r < k.format.infRung) : fconv k k' (k.format.word s r) = k'.format.word s (k'.format.nearest false (valR k.format r) k.format.leastPlace) := by
  obtain ⟨m, i, h1, h2⟩ := read_word k s hr
  unfold fconv
  rw [(Fn_word k s hr).notnan]
  simp only [Bool.false_eq_true, if_false]
  have e : k'.encode (k.decode (k.format.word s r)) = k'.format.word s (k'.format.nearest false (valR k.format r) k.format.leastPlace) := by
    unfold FloatKind.decode
    rw [h1, ← h2]
    show k'.format.nearest s m (k.format.leastPlace + (i : Int)) = _
    rw [nearest_sign]
    have := nearest_scale k'.format false m i (k.format.leastPlace + (i : Int))
    rw [Int.add_sub_cancel] at this
    rw [this]
  rw [e, canon_word k' s (nearest_inf _ _ _)]
def wN : Nat := 925
theorem wide_rds {c : Nat} (hc : Fnt .f32 c) : RdS .f64 (rv .f32 c) (fconv .f32 .f64 c) := by
  obtain ⟨s, r, rfl, hr, hv⟩ := hc.ex
  rw [fconv_word s hr, hv]
  refine rdS_of (rvR_nn .f32 r) ?_ (nearest_inf _ _ _)
  have h := nearest_scale FloatKind.f64.format false (valR FloatKind.f32.format r) wN (-149)
  rw [lp32]
  have hw : ((-149 : Int)) - ((wN : Nat) : Int) = -1074 := by decide
  rw [hw] at h
  rw [← h]
  have h2 := Rd_near .f64 (valR FloatKind.f32.format r * 2 ^ wN)
  rw [lp64] at h2
  have e : ((valR FloatKind.f32.format r * 2 ^ wN : Nat) : Rat) * uU .f64 = rvR .f32 r := by
    unfold rvR
    have h3 : ((2 ^ wN : Nat) : Rat) * uU .f64 = uU .f32 := by decide +kernel
    rw [← h3]; push_cast; grind
  rw [e] at h2
  exact h2
theorem finB_Fn {c : Nat} (h : Fnt .f32 c) : finB .f32 c = true := by
  rw [finB_eq]; exact decide_eq_true h.2
end Go.Aw

set_option linter.unusedVariables false
namespace Go.Aw

def okM (M : Rat) : Prop := 1 / 1000000000000000000000000000000 ≤ M ∧ M ≤ 1000000000000000000000000000000
theorem ep32 : ep .f32 = 1 / 8388608 := by decide +kernel
theorem u32 : uU .f32 ≤ 1 / 1000000000000000000000000000000000000000 := by decide +kernel
theorem top32 : 1000000000000000000000000000000 ≤ topR .f32 := by decide +kernel
theorem rds32 {x M : Rat} {c : Nat} (h : RdS .f32 x c) (h1 : x ≤ M) (h2 : -M ≤ x) (hM : okM M) : ∃ e, rv .f32 c = x + e ∧ -(M / 8000000) ≤ e ∧ e ≤ M / 8000000 ∧ Fnt .f32 c := by
  have ht := top32
  obtain ⟨g1, g2, g3⟩ := h.err h1 h2 (by have := hM.2; grind)
  rw [ep32] at g2 g3
  have hu := u32
  have := hM.1
  refine ⟨rv .f32 c - x, by grind, ?_, ?_, g1⟩ <;> grind
theorem add32 {a b : Nat} {M : Rat} (ha : Fnt .f32 a) (hb : Fnt .f32 b) (h1 : rv .f32 a + rv .f32 b ≤ M) (h2 : -M ≤ rv .f32 a + rv .f32 b) (hM : okM M) :
    ∃ e, rv .f32 (fop .add .f32 a b) = rv .f32 a + rv .f32 b + e ∧ -(M / 8000000) ≤ e ∧ e ≤ M / 8000000 ∧ Fnt .f32 (fop .add .f32 a b) := rds32 (add_rds ha hb) h1 h2 hM
theorem sub32 {a b : Nat} {M : Rat} (ha : Fnt .f32 a) (hb : Fnt .f32 b) (h1 : rv .f32 a - rv .f32 b ≤ M) (h2 : -M ≤ rv .f32 a - rv .f32 b) (hM : okM M) :
    ∃ e, rv .f32 (fop .sub .f32 a b) = rv .f32 a - rv .f32 b + e ∧ -(M / 8000000) ≤ e ∧ e ≤ M / 8000000 ∧ Fnt .f32 (fop .sub .f32 a b) := rds32 (sub_rds ha hb) h1 h2 hM
theorem mul32 {a b : Nat} {M : Rat} (ha : Fnt .f32 a) (hb : Fnt .f32 b) (h1 : rv .f32 a * rv .f32 b ≤ M) (h2 : -M ≤ rv .f32 a * rv .f32 b) (hM : okM M) :
    ∃ e, rv .f32 (fop .mul .f32 a b) = rv .f32 a * rv .f32 b + e ∧ -(M / 8000000) ≤ e ∧ e ≤ M / 8000000 ∧ Fnt .f32 (fop .mul .f32 a b) := rds32 (mul_rds ha hb) h1 h2 hM
/-- a quotient z (z b = a) -/
theorem quo32 {a b : Nat} {z M : Rat} (ha : Fnt .f32 a) (hb : Fnt .f32 b) (hb0 : rv .f32 b ≠ 0) (hz : z * rv .f32 b = rv .f32 a) (h1 : z ≤ M) (h2 : -M ≤ z) (hM : okM (2 * M)) :
    ∃ e, rv .f32 (fop .quo .f32 a b) = z + e ∧ -(M / 2000000) ≤ e ∧ e ≤ M / 2000000 ∧ Fnt .f32 (fop .quo .f32 a b) := by
  obtain ⟨x, hx, hc⟩ := quo_rds ha hb hb0 hz
  rw [ep32] at hc
  obtain ⟨e, g1, g2, g3, g4⟩ := rds32 (M := 2 * M) hx (by rcases hc with hc | hc <;> grind) (by rcases hc with hc | hc <;> grind) hM
  refine ⟨x - z + e, by grind, ?_, ?_, g4⟩
  · rcases hc with hc | hc <;> grind
  · rcases hc with hc | hc <;> grind
theorem int32 {n : Int} {M : Rat} (h1 : (n : Rat) ≤ M) (h2 : -M ≤ (n : Rat)) (hM : okM M) : ∃ e, rv .f32 (fint .f32 n) = n + e ∧ -(M / 8000000) ≤ e ∧ e ≤ M / 8000000 ∧ Fnt .f32 (fint .f32 n) := rds32 (fint_rds _ _) h1 h2 hM
theorem mul_bd {x y M N : Rat} (h1 : x ≤ M) (h2 : -M ≤ x) (h3 : y ≤ N) (h4 : -N ≤ y) : x * y ≤ M * N ∧ -(M * N) ≤ x * y := by
  have a1 := Rat.mul_nonneg (show 0 ≤ M - x by grind) (show 0 ≤ N + y by grind)
  have a2 := Rat.mul_nonneg (show 0 ≤ M + x by grind) (show 0 ≤ N - y by grind)
  have a3 := Rat.mul_nonneg (show 0 ≤ M - x by grind) (show 0 ≤ N - y by grind)
  have a4 := Rat.mul_nonneg (show 0 ≤ M + x by grind) (show 0 ≤ N + y by grind)
  constructor <;> grind
/-- a quotient of bounded by what is not less than one -/
theorem quo_ex {x y M : Rat} (h1 : x ≤ M) (h2 : -M ≤ x) (hy : 1 ≤ y) : ∃ z, z * y = x ∧ z ≤ M ∧ -M ≤ z := by
  have hy0 : 0 < y := by grind
  have e : x * y⁻¹ * y = x := by rw [Rat.mul_assoc, Rat.inv_mul_cancel _ (by grind), Rat.mul_one]
  refine ⟨x * y⁻¹, e, ?_, ?_⟩
  · refine Rat.le_of_mul_le_mul_right ?_ hy0
    rw [e]
    have := Rat.mul_nonneg (show 0 ≤ M by grind) (show 0 ≤ y - 1 by grind)
    grind
  · refine Rat.le_of_mul_le_mul_right ?_ hy0
    rw [e]
    have := Rat.mul_nonneg (show 0 ≤ M by grind) (show 0 ≤ y - 1 by grind)
    grind
/-- a finite word between -M and M -/
def Bd (c : Nat) (M : Rat) : Prop := Fnt .f32 c ∧ rv .f32 c ≤ M ∧ -M ≤ rv .f32 c
theorem Bd.mono {c : Nat} {M N : Rat} (h : Bd c M) (hM : M ≤ N) : Bd c N := ⟨h.1, by have := h.2.1; grind, by have := h.2.2; grind⟩
theorem Bd.add {a b : Nat} {M N L : Rat} (ha : Bd a M) (hb : Bd b N) (hL : 2 * (M + N) ≤ L) (hM : okM (M + N)) : Bd (fop .add .f32 a b) L := by
  obtain ⟨a1, a2, a3⟩ := ha
  obtain ⟨b1, b2, b3⟩ := hb
  obtain ⟨e, h1, h2, h3, h4⟩ := add32 (M := M + N) a1 b1 (by grind) (by grind) hM
  exact ⟨h4, by rw [h1]; grind, by rw [h1]; grind⟩
theorem Bd.sub {a b : Nat} {M N L : Rat} (ha : Bd a M) (hb : Bd b N) (hL : 2 * (M + N) ≤ L) (hM : okM (M + N)) : Bd (fop .sub .f32 a b) L := by
  obtain ⟨a1, a2, a3⟩ := ha
  obtain ⟨b1, b2, b3⟩ := hb
  obtain ⟨e, h1, h2, h3, h4⟩ := sub32 (M := M + N) a1 b1 (by grind) (by grind) hM
  exact ⟨h4, by rw [h1]; grind, by rw [h1]; grind⟩
theorem Bd.mul {a b : Nat} {M N L : Rat} (ha : Bd a M) (hb : Bd b N) (hL : 2 * (M * N) ≤ L) (hM : okM (M * N)) : Bd (fop .mul .f32 a b) L := by
  obtain ⟨a1, a2, a3⟩ := ha
  obtain ⟨b1, b2, b3⟩ := hb
  obtain ⟨p1, p2⟩ := mul_bd a2 a3 b2 b3
  obtain ⟨e, h1, h2, h3, h4⟩ := mul32 (M := M * N) a1 b1 p1 p2 hM
  exact ⟨h4, by rw [h1]; grind, by rw [h1]; grind⟩
theorem Bd.quo {a b : Nat} {M L : Rat} (ha : Bd a M) (hb : Fnt .f32 b) (h1b : 1 ≤ rv .f32 b) (hL : 2 * M ≤ L) (hM : okM (2 * M)) : Bd (fop .quo .f32 a b) L := by
  obtain ⟨a1, a2, a3⟩ := ha
  obtain ⟨z, z1, z2, z3⟩ := quo_ex a2 a3 h1b
  obtain ⟨e, h1, h2, h3, h4⟩ := quo32 a1 hb (by grind) z1 z2 z3 hM
  exact ⟨h4, by rw [h1]; grind, by rw [h1]; grind⟩
theorem Bd.fin {c : Nat} {M : Rat} (h : Bd c M) : finB .f32 c = true := finB_Fn h.1
theorem fint_ge1 {n : Nat} (h1 : 1 ≤ n) (h2 : n ≤ 16777216) : Fnt .f32 (fint .f32 (n : Int)) ∧ 1 ≤ rv .f32 (fint .f32 (n : Int)) := by
  have hF : Fnt .f32 (fint .f32 (n : Int)) := by
    have e : (((n : Nat) : Int) : Rat) = (n : Rat) := by push_cast; rfl
    have hn : (n : Rat) ≤ 16777216 := by exact_mod_cast h2
    have hn0 : (0 : Rat) ≤ (n : Rat) := by exact_mod_cast Nat.zero_le n
    obtain ⟨_, _, _, _, h⟩ := int32 (n := (n : Int)) (M := 16777216) (by rw [e]; exact hn) (by rw [e]; grind) (by unfold okM; constructor <;> grind)
    exact h
  refine ⟨hF, ?_⟩
  have hr := fint_rds .f32 (n : Int)
  have hone : Fnt .f32 1065353216 ∧ rv .f32 1065353216 = 1 := by unfold Fnt; decide +kernel
  have := hr.ge hone.1 hF (by rw [hone.2]; have e : (((n : Nat) : Int) : Rat) = (n : Rat) := by (push_cast; rfl)
                              rw [e]; exact_mod_cast h1)
  rw [hone.2] at this; exact this
end Go.Aw

