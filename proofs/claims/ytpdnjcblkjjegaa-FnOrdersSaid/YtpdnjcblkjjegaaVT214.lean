import Derived.Test.YtpdnjcblkjjegaaVT213
set_option linter.unusedVariables false
set_option linter.unusedSimpArgs false
namespace Go.Proofs.Ytpdnjcblkjjegaa
open Go.Aw

/-! ### series of quarters: their numbers less their mean -/
def qw (x : Int) : Nat := fop .quo .f32 (fint .f32 x) 1082130432
theorem qw_tab : (List.range 1025).all (fun n => decide (qw ((n : Int) - 512) < 2 * FloatKind.f32.format.signWeight) && decide (qw ((n : Int) - 512) % FloatKind.f32.format.signWeight < FloatKind.f32.format.infRung) && decide (rv .f32 (qw ((n : Int) - 512)) * 4 = (((n : Int) - 512 : Int) : Rat))) = true := by decide +kernel
theorem qw_rv {x : Int} (h : -512 ≤ x ∧ x ≤ 512) : Fnt .f32 (qw x) ∧ rv .f32 (qw x) * 4 = (x : Rat) := by
  obtain ⟨n, hn⟩ : ∃ n : Nat, x = (n : Int) - 512 := ⟨(x + 512).toNat, by omega⟩
  have := List.all_eq_true.1 qw_tab n (List.mem_range.2 (by omega))
  subst hn
  simp only [Bool.and_eq_true, decide_eq_true_eq] at this
  exact ⟨⟨this.1.1, this.1.2⟩, this.2⟩
structure Ser (a : List Nat) (k : Nat → Int) : Prop where
  l1 : 1 ≤ a.length
  l29 : a.length ≤ 29
  fn : ∀ i, i < a.length → Fnt .f32 (a.getD i 0)
  rv4 : ∀ i, i < a.length → rv .f32 (a.getD i 0) * 4 = (k i : Rat)
  rg : ∀ i, i < a.length → -16 ≤ k i ∧ k i ≤ 16
def smI (k : Nat → Int) : Nat → Int
  | 0 => 0
  | n + 1 => smI k n + k n
theorem smI_rg {k : Nat → Int} : ∀ {n : Nat}, (∀ i, i < n → -16 ≤ k i ∧ k i ≤ 16) → -(16 * (n : Int)) ≤ smI k n ∧ smI k n ≤ 16 * (n : Int)
  | 0, _ => by simp [smI]
  | n + 1, h => by
    have h1 := smI_rg (n := n) (fun i hi => h i (by omega))
    have h2 := h n (by omega)
    rw [smI]; omega
theorem smI_sm (k : Nat → Int) : ∀ n, (smI k n : Rat) = sm (fun i => (k i : Rat)) n
  | 0 => rfl
  | n + 1 => by rw [smI, sm, Rat.intCast_add, smI_sm k n]
theorem cast_le {a b : Int} (h : a ≤ b) : (a : Rat) ≤ (b : Rat) := by exact_mod_cast h
theorem ex_word {c : Nat} {x : Rat} {y : Int} (h : RdS .f32 x c) (hy : -512 ≤ y ∧ y ≤ 512) (e : x * 4 = (y : Rat)) : Fnt .f32 c ∧ rv .f32 c * 4 = (y : Rat) := by
  obtain ⟨w1, w2⟩ := qw_rv hy
  have hy1 : (y : Rat) ≤ 512 := cast_le hy.2
  have hy2 : (-512 : Rat) ≤ (y : Rat) := cast_le hy.1
  have ht := top_big
  have hc := h.fin (by grind) (by grind)
  refine ⟨hc, ?_⟩
  rw [h.exact w1 hc (by grind)]; exact w2
theorem sum_ex {a : List Nat} {k : Nat → Int} (h : Ser a k) : ∀ {m : Nat}, m ≤ a.length → Fnt .f32 (sumF (a.take m)) ∧ rv .f32 (sumF (a.take m)) * 4 = (smI k m : Rat)
  | 0, _ => by
    have e : rv .f32 0 = 0 := by decide +kernel
    refine ⟨by show Fnt .f32 0; unfold Fnt; decide +kernel, ?_⟩
    show rv .f32 0 * 4 = ((0 : Int) : Rat)
    rw [e]; simp
  | m + 1, hm => by
    obtain ⟨f1, f2⟩ := sum_ex h (m := m) (by omega)
    unfold sumF at f1 f2 ⊢
    rw [foldl_take (by omega)]
    have hr := smI_rg (n := m + 1) (k := k) (fun i hi => h.rg i (by omega))
    have hl := h.l29
    refine ex_word (add_rds f1 (h.fn m (by omega))) (by omega) ?_
    have := h.rv4 m (by omega)
    rw [smI, Rat.intCast_add]; grind
theorem len_ex {n : Nat} (h : n ≤ 29) : Fnt .f32 (fint .f32 (n : Nat)) ∧ rv .f32 (fint .f32 (n : Nat)) = (n : Rat) := by
  obtain ⟨h1, h2⟩ := ex_word (y := 4 * (n : Int)) (fint_rds .f32 (n : Nat)) (by omega) (by
    have : ((4 * (n : Int) : Int) : Rat) = 4 * (n : Rat) := by push_cast; rfl
    rw [this]
    have : (((n : Nat) : Int) : Rat) = (n : Rat) := by push_cast; rfl
    rw [this]; grind)
  refine ⟨h1, ?_⟩
  have : ((4 * (n : Int) : Int) : Rat) = 4 * (n : Rat) := by push_cast; rfl
  rw [this] at h2
  grind
theorem word_eq {a b : Nat} (ha : Fnt .f32 a) (hb : Fnt .f32 b) (h : rv .f32 a = rv .f32 b) (h0 : rv .f32 a ≠ 0) : a = b := by
  obtain ⟨s, r, rfl, hr, hv⟩ := ha.ex
  obtain ⟨t, q, rfl, hq, hw⟩ := hb.ex
  rw [hv, hw] at h
  rw [hv] at h0
  have p1 := rvR_nn .f32 r
  have p2 := rvR_nn .f32 q
  have hst : s = t ∧ rvR .f32 r = rvR .f32 q := by
    cases s <;> cases t <;> simp at h h0 ⊢ <;> grind
  have hrq : r = q := by
    rcases Nat.lt_trichotomy r q with h1 | h1 | h1
    · have := rvR_lt .f32 h1; grind
    · exact h1
    · have := rvR_lt .f32 h1; grind
  rw [hst.1, hrq]
theorem quo_tab : (List.range 29).all (fun n => (List.range 33).all fun y => decide (rv .f32 (fop .quo .f32 (qw (((n : Int) + 1) * ((y : Int) - 16))) (fint .f32 ((n : Int) + 1))) * 4 = (((y : Int) - 16 : Int) : Rat))) = true := by decide +kernel
/-- what a number is, less the mean, in quarters and n-ths -/
def tru (k : Nat → Int) (n : Nat) (i : Nat) : Rat := (((n : Int) * k i - smI k n : Int) : Rat) / (4 * (n : Rat))
theorem mean_ex {a : List Nat} {k : Nat → Int} (h : Ser a k) : Fnt .f32 (meanF a) ∧ Ab (rv .f32 (meanF a) - (smI k a.length : Rat) / (4 * (a.length : Rat))) (401 / 100 * uu) ∧ Ab (rv .f32 (meanF a)) (401 / 100) ∧
    (∀ z : Int, smI k a.length = (a.length : Int) * z → rv .f32 (meanF a) * 4 = (z : Rat)) := by
  obtain ⟨s1, s2⟩ := sum_ex h (m := a.length) (Nat.le_refl _)
  rw [List.take_length] at s1 s2
  obtain ⟨n1, n2⟩ := len_ex h.l29
  have hl1 := h.l1
  have hl2 := h.l29
  have hn1 : (1 : Rat) ≤ (a.length : Rat) := by exact_mod_cast hl1
  obtain ⟨r1, r2⟩ := smI_rg (n := a.length) (k := k) (fun i hi => h.rg i hi)
  have c1 := cast_le r1
  have c2 := cast_le r2
  have e1 : ((-(16 * (a.length : Int)) : Int) : Rat) = -(16 * (a.length : Rat)) := by push_cast; rfl
  have e2 : ((16 * (a.length : Int) : Int) : Rat) = 16 * (a.length : Rat) := by push_cast; rfl
  rw [e1] at c1; rw [e2] at c2
  generalize hz : (smI k a.length : Rat) / (4 * (a.length : Rat)) = z
  have hz1 : z * (4 * (a.length : Rat)) = (smI k a.length : Rat) := by
    rw [← hz]; exact Rat.div_mul_cancel (by grind)
  have hz2 : z * rv .f32 (fint .f32 (a.length : Nat)) = rv .f32 (sumF a) := by
    rw [n2]
    grind
  have hb : Ab z 4 := by
    constructor
    · refine Rat.le_of_mul_le_mul_right (c := 4 * (a.length : Rat)) ?_ (by grind)
      rw [hz1]; grind
    · refine Rat.le_of_mul_le_mul_right (c := 4 * (a.length : Rat)) ?_ (by grind)
      rw [hz1]; grind
  have hq := quo_rds s1 n1 (by rw [n2]; grind) hz2
  have ht := top_big
  obtain ⟨xx, hq, hqx⟩ := hq
  rw [ep_u] at hqx
  have hxx : Ab xx 5 := by
    obtain ⟨b1, b2⟩ := hb
    unfold uu at hqx
    constructor <;> grind
  have hf : Fnt .f32 (meanF a) := hq.fin (by have := hxx.1; grind) (by have := hxx.2; grind)
  have hh := quo_half s1 n1 (by rw [n2]; grind) hz2 hf 4 hb.1 hb.2
  rw [eh_u] at hh
  have hu := uU_small
  have hub : uU .f32 ≤ 1 / 100 * uu := by unfold uu; grind
  have hA : Ab (rv .f32 (meanF a) - z) (401 / 100 * uu) := by
    obtain ⟨h1, h2⟩ := hh
    change rv .f32 (meanF a) ≤ _ at h1
    change z ≤ rv .f32 (meanF a) + _ at h2
    constructor <;> grind
  refine ⟨hf, hA, ?_, fun y hy => ?_⟩
  · obtain ⟨a1, a2⟩ := hA
    obtain ⟨b1, b2⟩ := hb
    unfold uu at a1 a2
    constructor <;> grind
  · have hy1 : -16 ≤ y ∧ y ≤ 16 := by
      rw [hy] at r1 r2
      constructor
      · refine Int.le_of_mul_le_mul_left (a := (a.length : Int)) ?_ (by omega)
        rw [show (a.length : Int) * -16 = -(16 * (a.length : Int)) by omega]; exact r1
      · refine Int.le_of_mul_le_mul_left (a := (a.length : Int)) ?_ (by omega)
        rw [show (a.length : Int) * 16 = 16 * (a.length : Int) by omega]; exact r2
    by_cases hy0 : y = 0
    · subst hy0
      rw [Int.mul_zero] at hy
      rw [hy] at hz1
      have e0 : ((0 : Int) : Rat) = 0 := rfl
      rw [e0] at hz1 ⊢
      have hz0 : z = 0 := Rat.le_antisymm (Rat.le_of_mul_le_mul_right (c := 4 * (a.length : Rat)) (by grind) (by grind)) (Rat.le_of_mul_le_mul_right (c := 4 * (a.length : Rat)) (by grind) (by grind))
      have hx0 : xx = 0 := by
        rw [hz0] at hqx
        clear hh hA hub hu hz hz1 hz2 hq hf hb hxx
        rcases hqx with ⟨_, b, c, _⟩ | ⟨_, b, c, _⟩
        · exact Rat.le_antisymm (by simpa [Rat.add_zero] using c) b
        · exact Rat.le_antisymm b (by have := (show -xx ≤ 0 by simpa [Rat.add_zero] using c); grind)
      have f0 : Fnt .f32 0 := by unfold Fnt; decide +kernel
      have e1 : rv .f32 0 = 0 := by decide +kernel
      have := hq.exact f0 hf (by rw [hx0, e1])
      show rv .f32 (fop .quo .f32 (sumF a) (fint .f32 (a.length : Nat))) * 4 = 0
      rw [this, e1]; simp
    · obtain ⟨w1, w2⟩ := qw_rv (x := (a.length : Int) * y) (by rw [← hy]; omega)
      have hs0 : ((a.length : Int) * y : Int) ≠ 0 := by
        intro h0
        rcases Int.mul_eq_zero.1 h0 with h1 | h1 <;> omega
      have hsR : (((a.length : Int) * y : Int) : Rat) ≠ 0 := by
        intro h0; exact hs0 (by exact_mod_cast h0)
      rw [hy] at s2
      have hw := word_eq s1 w1 (by grind) (by intro h0; rw [h0] at s2; apply hsR; rw [← s2]; simp)
      have := List.all_eq_true.1 (List.all_eq_true.1 quo_tab (a.length - 1) (List.mem_range.2 (by omega))) (y + 16).toNat (List.mem_range.2 (by omega))
      simp only [decide_eq_true_eq] at this
      rw [show (((a.length - 1 : Nat) : Int) + 1) = (a.length : Int) by omega, show (((y + 16).toNat : Int) - 16) = y by omega, ← hw] at this
      exact this
theorem off_get {a : List Nat} {i : Nat} (hi : i < a.length) : (offL a).getD i 0 = fop .sub .f32 (a.getD i 0) (meanF a) := by
  unfold offL lessL; exact getD_map hi
theorem off_ge {a : List Nat} {i : Nat} (hi : a.length ≤ i) : (offL a).getD i 0 = 0 := by
  have : (offL a).length = a.length := lessL_len _ _
  rw [List.getD_eq_getElem?_getD, List.getElem?_eq_none (by omega)]; rfl
theorem rv0 : rv .f32 0 = 0 := by decide +kernel
theorem off_ex {a : List Nat} {k : Nat → Int} (h : Ser a k) : ∀ i, i < a.length → Fnt .f32 ((offL a).getD i 0) ∧ Ab (rc (offL a) i - tru k a.length i) (121 / 10 * uu) ∧ Ab (rc (offL a) i) (801 / 100) ∧
    (∀ z : Int, smI k a.length = (a.length : Int) * z → rc (offL a) i * 4 = ((k i - z : Int) : Rat)) := by
  intro i hi
  obtain ⟨m1, m2, m3, m4⟩ := mean_ex h
  have f1 := h.fn i hi
  have f2 := h.rv4 i hi
  have hr := h.rg i hi
  have c1 := cast_le hr.1
  have c2 := cast_le hr.2
  have e1 : ((-16 : Int) : Rat) = -16 := rfl
  have e2 : ((16 : Int) : Rat) = 16 := rfl
  rw [e1] at c1; rw [e2] at c2
  have hb : Ab (rv .f32 (a.getD i 0) - rv .f32 (meanF a)) (8011 / 1000) := by
    obtain ⟨a1, a2⟩ := m3
    constructor <;> grind
  have hq := sub_rds f1 m1
  have ht := top_big
  have hf : Fnt .f32 (fop .sub .f32 (a.getD i 0) (meanF a)) := hq.fin (by have := hb.1; grind) (by have := hb.2; grind)
  have hn1 : (1 : Rat) ≤ (a.length : Rat) := by exact_mod_cast h.l1
  have htr : tru k a.length i = (k i : Rat) / 4 - (smI k a.length : Rat) / (4 * (a.length : Rat)) := by
    unfold tru
    rw [Rat.intCast_sub, Rat.intCast_mul, Rat.intCast_natCast]
    generalize (smI k a.length : Rat) = K
    generalize (a.length : Rat) = n at *
    rw [Rat.div_def, Rat.div_def (b := 4 * n)]
    have : (4 * n) * (4 * n)⁻¹ = 1 := Rat.mul_inv_cancel _ (by grind)
    grind
  have hmx : Ab (rv .f32 (a.getD i 0) - rv .f32 (meanF a)) (80001 / 10000) := by
    have hK : Ab ((k i : Rat) / 4 - (smI k a.length : Rat) / (4 * (a.length : Rat))) 8 := by
      obtain ⟨r1, r2⟩ := smI_rg (n := a.length) (k := k) (fun i hi => h.rg i hi)
      have d1 := cast_le r1
      have d2 := cast_le r2
      have e1 : ((-(16 * (a.length : Int)) : Int) : Rat) = -(16 * (a.length : Rat)) := by push_cast; rfl
      have e2 : ((16 * (a.length : Int) : Int) : Rat) = 16 * (a.length : Rat) := by push_cast; rfl
      rw [e1] at d1; rw [e2] at d2
      have hdv : (smI k a.length : Rat) / (4 * (a.length : Rat)) * (4 * (a.length : Rat)) = (smI k a.length : Rat) := Rat.div_mul_cancel (by grind)
      generalize (smI k a.length : Rat) / (4 * (a.length : Rat)) = z at *
      have g1 : z ≤ 4 := by
        refine Rat.le_of_mul_le_mul_right (c := 4 * (a.length : Rat)) ?_ (by grind)
        rw [hdv]; grind
      have g2 : -4 ≤ z := by
        refine Rat.le_of_mul_le_mul_right (c := 4 * (a.length : Rat)) ?_ (by grind)
        rw [hdv]; grind
      constructor <;> grind
    obtain ⟨a1, a2⟩ := m2
    obtain ⟨b1, b2⟩ := hK
    unfold uu at a1 a2
    constructor <;> grind
  have hh := sub_half f1 m1 hf (80001 / 10000) hmx.1 hmx.2
  rw [eh_u] at hh
  show Fnt .f32 ((offL a).getD i 0) ∧ Ab (rv .f32 ((offL a).getD i 0) - _) _ ∧ Ab (rv .f32 ((offL a).getD i 0)) _ ∧ ∀ z : Int, _ → rv .f32 ((offL a).getD i 0) * 4 = _
  rw [off_get hi]
  refine ⟨hf, ?_, ?_, fun z hz => ?_⟩
  · rw [htr]
    obtain ⟨a1, a2⟩ := m2
    unfold uu at *
    constructor <;> grind
  · obtain ⟨a1, a2⟩ := hmx
    unfold uu at hh
    constructor <;> grind
  · have hz4 := m4 z hz
    have hzr : -16 ≤ z ∧ z ≤ 16 := by
      obtain ⟨r1, r2⟩ := smI_rg (n := a.length) (k := k) (fun i hi => h.rg i hi)
      rw [hz] at r1 r2
      have hl1 := h.l1
      constructor
      · refine Int.le_of_mul_le_mul_left (a := (a.length : Int)) ?_ (by omega)
        rw [show (a.length : Int) * -16 = -(16 * (a.length : Int)) by omega]; exact r1
      · refine Int.le_of_mul_le_mul_left (a := (a.length : Int)) ?_ (by omega)
        rw [show (a.length : Int) * 16 = 16 * (a.length : Int) by omega]; exact r2
    refine (ex_word hq (y := k i - z) (by omega) ?_).2
    rw [Rat.intCast_sub]; grind
theorem off_Sm {a : List Nat} {k : Nat → Int} (h : Ser a k) : Sm (offL a) := by
  have hl : (offL a).length = a.length := lessL_len _ _
  refine ⟨fun i hi => (off_ex h i (by omega)).1, fun i hi => ?_, fun i hi => ?_, by have := h.l29; omega⟩
  · have := (off_ex h i (by omega)).2.2.1.1; grind
  · have := (off_ex h i (by omega)).2.2.1.2; grind
theorem rc_ge {a : List Nat} {i : Nat} (hi : a.length ≤ i) : rc (offL a) i = 0 := by
  show rv .f32 ((offL a).getD i 0) = 0
  rw [off_ge hi]; exact rv0
theorem sm_const (x : Rat) : ∀ n, sm (fun _ => x) n = (n : Rat) * x
  | 0 => by show (0 : Rat) = ((0 : Nat) : Rat) * x; simp
  | n + 1 => by rw [sm, sm_const x n]; push_cast; grind
/-- the numbers less the mean have nearly no sum -/
theorem tru_sum (k : Nat → Int) {n : Nat} (hn : 1 ≤ n) : sm (tru k n) n = 0 := by
  have hn1 : (1 : Rat) ≤ (n : Rat) := by exact_mod_cast hn
  have e : sm (tru k n) n = sm (fun i => (1 / 4 : Rat) * (k i : Rat) + (- ((smI k n : Rat) / (4 * (n : Rat))))) n := by
    refine sm_congr fun i _ => ?_
    unfold tru
    rw [Rat.intCast_sub, Rat.intCast_mul, Rat.intCast_natCast]
    generalize (smI k n : Rat) = K
    generalize (n : Rat) = n at *
    rw [Rat.div_def, Rat.div_def (b := 4 * n)]
    have : (4 * n) * (4 * n)⁻¹ = 1 := Rat.mul_inv_cancel _ (by grind)
    grind
  rw [e, sm_add, sm_mul, sm_const, ← smI_sm]
  have hdv : (smI k n : Rat) / (4 * (n : Rat)) * (4 * (n : Rat)) = (smI k n : Rat) := Rat.div_mul_cancel (by grind)
  grind
theorem off_sum {a : List Nat} {k : Nat → Int} (h : Ser a k) : Ab (sm (rc (offL a)) a.length) (351 * uu) := by
  have ht := tru_sum k h.l1
  have hn : (a.length : Rat) ≤ 29 := by exact_mod_cast h.l29
  have hup := uu_pos
  have h1 : sm (rc (offL a)) a.length ≤ sm (fun i => tru k a.length i + 121 / 10 * uu) a.length := sm_le fun i hi => by
    have := (off_ex h i hi).2.1.1; grind
  have h2 : sm (fun i => tru k a.length i + (-(121 / 10 * uu))) a.length ≤ sm (rc (offL a)) a.length := sm_le fun i hi => by
    have := (off_ex h i hi).2.1.2; grind
  rw [sm_add, sm_const] at h1 h2
  have := Rat.mul_le_mul_of_nonneg_right hn (show 0 ≤ 121 / 10 * uu by grind)
  change sm (tru k a.length) a.length = 0 at ht
  have e1 : sm (fun i => tru k a.length i) a.length = 0 := ht
  rw [e1] at h1 h2
  constructor <;> grind
/-! a series whose sum of squares is no nought -/
theorem sm_one_le {f : Nat → Rat} : ∀ {n i : Nat}, (∀ j, j < n → 0 ≤ f j) → i < n → f i ≤ sm f n
  | n + 1, i, h, hi => by
    rw [sm]
    rcases Nat.lt_or_ge i n with h1 | h1
    · have := sm_one_le (n := n) (fun j hj => h j (by omega)) h1
      have := h n (by omega)
      grind
    · obtain rfl : i = n := by omega
      have := sm_nn (f := f) (n := i) (fun j hj => h j (by omega))
      grind
theorem sm_two_le {f : Nat → Rat} : ∀ {n i j : Nat}, (∀ j, j < n → 0 ≤ f j) → i < j → j < n → f i + f j ≤ sm f n
  | n + 1, i, j, h, hij, hj => by
    rw [sm]
    rcases Nat.lt_or_ge j n with h1 | h1
    · have := sm_two_le (n := n) (fun j hj => h j (by omega)) hij h1
      have := h n (by omega)
      grind
    · obtain rfl : j = n := by omega
      have := sm_one_le (f := f) (n := j) (fun j hj => h j (by omega)) hij
      grind
theorem dl_zeros {a : List Nat} (h : Sm a) (hz : ∀ i, i < a.length → rc a i = 0) : ∀ {m : Nat}, rv .f32 (dlN a 0 m) = 0 ∧ Fnt .f32 (dlN a 0 m)
  | 0 => ⟨rv0, by show Fnt .f32 0; unfold Fnt; decide +kernel⟩
  | m + 1 => by
    obtain ⟨h1, h2⟩ := dl_zeros h hz (m := m)
    rw [dlN]
    split
    · rename_i hm
      have f0 : Fnt .f32 0 := by unfold Fnt; decide +kernel
      have p := prod_fin h (i := m) (j := m + 0) (by omega) (by omega)
      have p0 : rv .f32 (fop .mul .f32 (a.getD m 0) (a.getD (m + 0) 0)) = 0 := by
        have z1 : rv .f32 (a.getD m 0) = 0 := hz m (by omega)
        rw [(mul_rds (h.fin m (by omega)) (h.fin (m + 0) (by omega))).exact f0 p.1 (by rw [z1, rv0]; simp)]
        exact rv0
      have hr := add_rds h2 p.1
      have hf : Fnt .f32 (fop .add .f32 (dlN a 0 m) (fop .mul .f32 (a.getD m 0) (a.getD (m + 0) 0))) := hr.fin (by rw [h1, p0]; have := top_big; grind) (by rw [h1, p0]; have := top_big; grind)
      refine ⟨?_, hf⟩
      rw [hr.exact f0 hf (by rw [h1, p0, rv0]; grind)]; exact rv0
    · exact ⟨h1, h2⟩
theorem off_D0 {a : List Nat} {k : Nat → Int} (h : Ser a k) (h0 : rv .f32 (dlF (offL a) 0) ≠ 0) : 1 / 33 ≤ sm (fun i => rc (offL a) i * rc (offL a) i) a.length := by
  by_cases he : ∀ i, i < a.length → k i = k 0
  · exfalso; apply h0
    have hs : ∀ n, n ≤ a.length → smI k n = (n : Int) * k 0 := fun n => by
      induction n with
      | zero => intro _; simp [smI]
      | succ n ih => intro hn; rw [smI, ih (by omega), he n (by omega)]; push_cast; rw [Int.add_mul]; omega
    refine (dl_zeros (off_Sm h) (fun i hi => ?_)).1
    have hi' : i < a.length := by rw [show (offL a).length = a.length from lessL_len _ _] at hi; exact hi
    have := (off_ex h i hi').2.2.2 (k 0) (hs _ (Nat.le_refl _))
    rw [he i hi', Int.sub_self] at this
    have e0 : ((0 : Int) : Rat) = 0 := rfl
    rw [e0] at this
    grind
  · obtain ⟨i, hi, hne⟩ : ∃ i, i < a.length ∧ k i ≠ k 0 := by
      refine Classical.byContradiction fun hc => he fun i hi => ?_
      exact Classical.byContradiction fun hn => hc ⟨i, hi, hn⟩
    have hi0 : 0 < i := by
      rcases Nat.eq_zero_or_pos i with h1 | h1
      · subst h1; exact absurd rfl hne
      · exact h1
    have hl := h.l1
    have h2 := sm_two_le (f := fun i => rc (offL a) i * rc (offL a) i) (n := a.length) (fun j _ => mulself_nn _) hi0 hi
    have c0 := (off_ex h 0 (by omega)).2.1
    have ci := (off_ex h i hi).2.1
    have hn1 : (1 : Rat) ≤ (a.length : Rat) := by exact_mod_cast h.l1
    have hd : tru k a.length i - tru k a.length 0 = ((k i - k 0 : Int) : Rat) / 4 := by
      unfold tru
      simp only [Rat.intCast_sub, Rat.intCast_mul, Rat.intCast_natCast]
      generalize (smI k a.length : Rat) = K
      generalize (a.length : Rat) = n at *
      rw [Rat.div_def, Rat.div_def]
      have : (4 * n) * (4 * n)⁻¹ = 1 := Rat.mul_inv_cancel _ (by grind)
      grind
    have hk : ((k i - k 0 : Int) : Rat) ≤ -1 ∨ (1 : Rat) ≤ ((k i - k 0 : Int) : Rat) := by
      rcases (show k i - k 0 ≤ -1 ∨ 1 ≤ k i - k 0 by omega) with h1 | h1
      · left; have := cast_le h1; have e : ((-1 : Int) : Rat) = -1 := rfl; rwa [e] at this
      · right; have := cast_le h1; have e : ((1 : Int) : Rat) = 1 := rfl; rwa [e] at this
    generalize rc (offL a) i = x at *
    generalize rc (offL a) 0 = y at *
    have hxy := mulself_nn (x + y)
    obtain ⟨a1, a2⟩ := c0
    obtain ⟨b1, b2⟩ := ci
    have hsq : 1 / 16 - 1 / 10000 ≤ (x - y) * (x - y) := by
      rcases hk with h1 | h1
      · have := Rat.mul_nonneg (show 0 ≤ (y - x) - (1 / 4 - 1 / 100000) by unfold uu at *; grind) (show 0 ≤ (y - x) + (1 / 4 - 1 / 100000) by unfold uu at *; grind)
        grind
      · have := Rat.mul_nonneg (show 0 ≤ (x - y) - (1 / 4 - 1 / 100000) by unfold uu at *; grind) (show 0 ≤ (x - y) + (1 / 4 - 1 / 100000) by unfold uu at *; grind)
        grind
    grind

end Go.Proofs.Ytpdnjcblkjjegaa

