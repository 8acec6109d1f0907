import Derived.Test.YtpdnjcblkjjegaaVT211
set_option linter.unusedVariables false
set_option linter.unusedSimpArgs false
namespace Go.Proofs.Ytpdnjcblkjjegaa
open Go.Aw

/-! ### the ends of a series, from below -/
theorem sq_low {x y δ : Rat} (h : Ab (x - y) δ) : 99 / 100 * (y * y) ≤ x * x + 99 * (δ * δ) := by
  have h1 : (x - y) * (x - y) ≤ δ * δ := (h.mul h).1
  have h2 := mulself_nn (y + 100 * (x - y))
  grind
def zL (g : Rat) (z : Nat → Rat) (i : Nat) : Rat := z (i + 3) + g * (z (i + 2) + z (i + 1)) + z i
theorem win {n G r P : Int} (hn : 0 < n) (hn2 : n ≤ 29) {g : Rat} (g1 : 1024 * g - G ≤ 4) (g2 : -4 ≤ 1024 * g - G) (gb : Ab g (301 / 100)) {z : Nat → Rat} {Y : Nat → Int}
    (y0 : Y 0 = 0) (y1 : Y 1 = 0) (y2 : Y 2 = 0) (z0 : ∀ i, i < 3 → z i = 0)
    (zy : ∀ i, 3 ≤ i → i < 9 → Ab (4 * (n : Rat) * z i - Y i) (4 * (n : Rat) * (121 / 10 * uu)))
    (cl : ∀ i, i < 6 → ∃ k, Y (i + 3) = r + n * k) (hP : P ≤ pathC n G r 6 0 0 0) :
    99 / 100 * (P : Rat) ≤ (4096 * (n : Rat)) * (4096 * (n : Rat)) * (sm (fun i => zL g z i * zL g z i) 6 + 1 / 40000000) := by
  have hp := path_le hn g1 g2 Y 6 0 (fun i hi => by rw [Nat.zero_add]; exact cl i hi)
  rw [y0, y1, y2] at hp
  have hPR := cast_le hP
  have hnR : (0 : Rat) < (n : Rat) := by exact_mod_cast hn
  have hup := uu_pos
  have hzy : ∀ i, i < 9 → Ab (4 * (n : Rat) * z i - Y i) (4 * (n : Rat) * (121 / 10 * uu)) := fun i hi => by
    rcases Nat.lt_or_ge i 3 with h | h
    · have hY : Y i = 0 := by
        rcases (show i = 0 ∨ i = 1 ∨ i = 2 by omega) with rfl | rfl | rfl <;> assumption
      have := Rat.mul_pos hnR hup
      rw [z0 i h, hY, show ((0 : Int) : Rat) = 0 from rfl]
      constructor <;> grind
    · exact zy i h hi
  have hterm : sm (fun i => 99 / 100 * (eL g Y (0 + i) * eL g Y (0 + i))) 6 ≤ sm (fun i => (4096 * (n : Rat)) * (4096 * (n : Rat)) * (zL g z i * zL g z i) + (4096 * (n : Rat)) * (4096 * (n : Rat)) * (99 * ((98 * uu) * (98 * uu)))) 6 := sm_le fun i hi => by
    rw [Nat.zero_add]
    have a0 := hzy i (by omega)
    have a1 := hzy (i + 1) (by omega)
    have a2 := hzy (i + 2) (by omega)
    have a3 := hzy (i + 3) (by omega)
    have hd : Ab (4096 * (n : Rat) * zL g z i - eL g Y i) (4096 * (n : Rat) * (98 * uu)) := by
      have hh := ((a3.add (gb.mul (a2.add a1))).add a0)
      have e : 4096 * (n : Rat) * zL g z i - eL g Y i = 1024 * ((4 * (n : Rat) * z (i + 3) - Y (i + 3)) + g * ((4 * (n : Rat) * z (i + 2) - Y (i + 2)) + (4 * (n : Rat) * z (i + 1) - Y (i + 1))) + (4 * (n : Rat) * z i - Y i)) := by
        unfold zL eL; grind
      rw [e]
      have hpos := Rat.mul_pos hnR hup
      obtain ⟨b1, b2⟩ := hh
      constructor <;> grind
    have := sq_low hd
    grind
  rw [sm_mul, sm_add, sm_mul, sm_const] at hterm
  generalize sm (fun i => eL g Y (0 + i) * eL g Y (0 + i)) 6 = E at *
  generalize sm (fun i => zL g z i * zL g z i) 6 = Z at *
  have hN := Rat.mul_pos (Rat.mul_pos (show (0 : Rat) < 4096 by decide +kernel) hnR) (Rat.mul_pos (show (0 : Rat) < 4096 by decide +kernel) hnR)
  generalize (4096 * (n : Rat)) * (4096 * (n : Rat)) = N at *
  rw [show ((6 : Nat) : Rat) = 6 from rfl] at hterm
  have : 6 * (N * (99 * ((98 * uu) * (98 * uu)))) ≤ N * (1 / 40000000) := by
    have e : 6 * (N * (99 * ((98 * uu) * (98 * uu)))) = N * (6 * 99 * ((98 * uu) * (98 * uu))) := by grind
    rw [e]
    exact Rat.mul_le_mul_of_nonneg_left (by decide +kernel) (Rat.le_of_lt hN)
  grind
def sgx (i : Nat) : Rat := if i % 2 = 0 then 1 else -1
theorem sgx_S (i : Nat) : sgx (i + 1) = -sgx i := by
  unfold sgx
  by_cases h : i % 2 = 0
  · rw [if_pos h, if_neg (by omega)]
  · rw [if_neg h, if_pos (by omega)]; grind
theorem sgx_sq (i : Nat) : sgx i * sgx i = 1 := by
  unfold sgx; split <;> grind
theorem alt_sgx (c : Nat → Rat) (i : Nat) : alt c i = sgx i * c i := by
  unfold alt sgx; split <;> grind
/-- the series from its front, and from its back -/
def zF (c : Nat → Rat) (i : Nat) : Rat := if i < 3 then 0 else c (i - 3)
def zB (c : Nat → Rat) (n i : Nat) : Rat := if i < 3 then 0 else c (n + 2 - i)
theorem yF (c : Nat → Rat) {n i : Nat} (h : i < n + 3) : yOf (alt c) n (i + 1) = sgx (i + 1) * zF c i := by
  unfold yOf zF
  by_cases h1 : i < 3
  · rw [if_neg (by omega), if_pos h1]; simp
  · rw [if_pos (by omega), if_neg h1, alt_sgx]
    obtain ⟨j, rfl⟩ : ∃ j, i = j + 3 := ⟨i - 3, by omega⟩
    rw [show j + 3 + 1 - 4 = j by omega, show j + 3 - 3 = j by omega, sgx_S, sgx_S, sgx_S, sgx_S]; grind
theorem sgx_add (i j : Nat) : sgx (i + j) = sgx i * sgx j := by
  unfold sgx
  by_cases h1 : i % 2 = 0 <;> by_cases h2 : j % 2 = 0
  · rw [if_pos h1, if_pos h2, if_pos (by omega)]; grind
  · rw [if_pos h1, if_neg h2, if_neg (by omega)]; grind
  · rw [if_neg h1, if_pos h2, if_neg (by omega)]; grind
  · rw [if_neg h1, if_neg h2, if_pos (by omega)]; grind
theorem yB (c : Nat → Rat) {n i : Nat} (h : i < n + 3) (h1 : 1 ≤ n) : yOf (alt c) n (n + 6 - i) = sgx n * sgx i * zB c n i := by
  unfold yOf zB
  by_cases h1 : i < 3
  · rw [if_neg (by omega), if_pos h1]; simp
  · rw [if_pos (by omega), if_neg h1, alt_sgx]
    obtain ⟨j, hj⟩ : ∃ j, n + 2 = j + i := ⟨n + 2 - i, by omega⟩
    rw [show n + 6 - i - 4 = j by omega, show n + 2 - i = j by omega]
    have e1 : sgx (n + 2) = sgx n := by rw [sgx_S, sgx_S]; grind
    rw [← e1, hj, sgx_add]
    have := sgx_sq i
    grind
theorem eF (c : Nat → Rat) {n m : Nat} (h : m < n) (g : Rat) : eY (alt c) n g m * eY (alt c) n g m = zL g (zF c) m * zL g (zF c) m := by
  have e : eY (alt c) n g m = sgx m * zL g (zF c) m := by
    unfold eY zL
    rw [yF c (show m + 3 < n + 3 by omega), yF c (show m + 2 < n + 3 by omega), yF c (show m + 1 < n + 3 by omega), yF c (show m < n + 3 by omega)]
    simp only [sgx_S]
    grind
  rw [e]
  have := sgx_sq m
  grind
theorem eB (c : Nat → Rat) {n i : Nat} (h : i < n) (g : Rat) : eY (alt c) n g (n + 2 - i) * eY (alt c) n g (n + 2 - i) = zL g (zB c n) i * zL g (zB c n) i := by
  have e : eY (alt c) n g (n + 2 - i) = sgx n * sgx i * zL g (zB c n) i := by
    unfold eY zL
    rw [show n + 2 - i + 4 = n + 6 - i by omega, show n + 2 - i + 3 = n + 6 - (i + 1) by omega, show n + 2 - i + 2 = n + 6 - (i + 2) by omega, show n + 2 - i + 1 = n + 6 - (i + 3) by omega]
    rw [yB c (show i < n + 3 by omega) (by omega), yB c (show i + 1 < n + 3 by omega) (by omega), yB c (show i + 2 < n + 3 by omega) (by omega), yB c (show i + 3 < n + 3 by omega) (by omega)]
    simp only [sgx_S]
    grind
  rw [e]
  have := sgx_sq n
  have := sgx_sq i
  grind
theorem sm_mono_n {H : Nat → Rat} (hH : ∀ i, 0 ≤ H i) {a b : Nat} (h : a ≤ b) : sm H a ≤ sm H b := by
  have e := sm_split H a (b - a)
  rw [show a + (b - a) = b by omega] at e
  have := sm_nn (f := fun i => H (i + a)) (n := b - a) (fun i _ => hH _)
  grind
theorem sm_rev6 (f : Nat → Rat) : sm (fun i => f (5 - i)) 6 = sm f 6 := by
  simp only [sm, Nat.sub_zero, Nat.reduceSub]; grind
/-- the form is no less than its two ends -/
theorem vF_ends (c : Nat → Rat) {n : Nat} (hn : 9 ≤ n) (g : Rat) : sm (fun i => zL g (zF c) i * zL g (zF c) i) 6 + sm (fun i => zL g (zB c n) i * zL g (zB c n) i) 6 ≤ 2 * vF (alt c) n g := by
  rw [vF_sq (alt c) (by omega) g]
  have hH : ∀ m, 0 ≤ eY (alt c) n g m * eY (alt c) n g m := fun m => mulself_nn _
  have h1 := sm_mono_n hH (show (n - 3) + 6 ≤ n + 4 by omega)
  have h2 := sm_split (fun m => eY (alt c) n g m * eY (alt c) n g m) (n - 3) 6
  have h3 := sm_mono_n hH (show 6 ≤ n - 3 by omega)
  have e1 : sm (fun m => eY (alt c) n g m * eY (alt c) n g m) 6 = sm (fun i => zL g (zF c) i * zL g (zF c) i) 6 := sm_congr fun i hi => eF c (by omega) g
  have e2 : sm (fun i => eY (alt c) n g (i + (n - 3)) * eY (alt c) n g (i + (n - 3))) 6 = sm (fun i => zL g (zB c n) i * zL g (zB c n) i) 6 := by
    rw [← sm_rev6]
    refine sm_congr fun i hi => ?_
    rw [show 5 - i + (n - 3) = n + 2 - i by omega]
    exact eB c (by omega) g
  rw [e2] at h2
  grind

/-! ### what the ends of a series of quarters cost -/
theorem front {a : List Nat} {k : Nat → Int} (h : Ser a k) (hn : 25 ≤ a.length) (h0 : rv .f32 (dlF (offL a) 0) ≠ 0) {P : Int} (hP2 : P ≤ (1024 * (a.length : Int)) * (1024 * (a.length : Int)))
    (hF : (rgB.all fun p => (List.range (a.length - 1)).all fun (i : Nat) => decide (P ≤ pathC a.length p.1 ((i : Int) + 1) 6 0 0 0)) = true) {p : Int × Int} (hp : p ∈ rgB) {g : Rat} (g1 : 1024 * g - p.1 ≤ 4) (g2 : -4 ≤ 1024 * g - p.1) (gb : Ab g (301 / 100)) :
    99 / 100 * (P : Rat) ≤ (4096 * (a.length : Rat)) * (4096 * (a.length : Rat)) * (vF (alt (rc (offL a))) a.length g + 1 / 40000000) := by
  have hn29 := h.l29
  have hnR : (0 : Rat) < (a.length : Rat) := by exact_mod_cast (show 0 < a.length by omega)
  have htr : ∀ i, i < a.length → Ab (4 * (a.length : Rat) * rc (offL a) i - (((a.length : Int) * k i - smI k a.length : Int) : Rat)) (4 * (a.length : Rat) * (121 / 10 * uu)) := fun i hi => by
    have h1 := (off_ex h i hi).2.1
    have e : 4 * (a.length : Rat) * tru k a.length i = (((a.length : Int) * k i - smI k a.length : Int) : Rat) := by
      unfold tru
      rw [Rat.mul_comm]; exact Rat.div_mul_cancel (by grind)
    rw [← e]
    have h2 := Rat.mul_le_mul_of_nonneg_left h1.1 (show 0 ≤ 4 * (a.length : Rat) by grind)
    have h3 := Rat.mul_le_mul_of_nonneg_left h1.2 (show 0 ≤ 4 * (a.length : Rat) by grind)
    constructor <;> grind
  have hV := vF_ends (rc (offL a)) (n := a.length) (by omega) g
  by_cases hr : ∃ z : Int, smI k a.length = (a.length : Int) * z
  · obtain ⟨z, hz⟩ := hr
    have hc : ∀ i, i < a.length → rc (offL a) i * 4 = ((k i - z : Int) : Rat) := fun i hi => (off_ex h i hi).2.2.2 z hz
    have hD := off_D0 h h0
    -- some number is not the mean
    have hex : ∃ i, i < a.length ∧ k i ≠ z := by
      refine Classical.byContradiction fun hc2 => ?_
      have : sm (fun i => rc (offL a) i * rc (offL a) i) a.length = 0 := sm_zero fun i hi => by
        have hk : k i = z := Classical.byContradiction fun hh => hc2 ⟨i, hi, hh⟩
        have := hc i hi
        rw [hk, Int.sub_self, show ((0 : Int) : Rat) = 0 from rfl] at this
        have : rc (offL a) i = 0 := by grind
        rw [this]; simp
      rw [this] at hD
      exact absurd hD (by decide +kernel)
    have hsq : ∀ i, i < a.length → k i ≠ z → 1 / 16 ≤ rc (offL a) i * rc (offL a) i := fun i hi hne => by
      have h4 := hc i hi
      rcases (show k i - z ≤ -1 ∨ 1 ≤ k i - z by omega) with h5 | h5
      · have := cast_le h5; rw [← h4, show ((-1 : Int) : Rat) = -1 from rfl] at this
        have := Rat.mul_nonneg (show 0 ≤ -rc (offL a) i - 1 / 4 by grind) (show 0 ≤ -rc (offL a) i + 1 / 4 by grind)
        grind
      · have := cast_le h5; rw [← h4, show ((1 : Int) : Rat) = 1 from rfl] at this
        have := Rat.mul_nonneg (show 0 ≤ rc (offL a) i - 1 / 4 by grind) (show 0 ≤ rc (offL a) i + 1 / 4 by grind)
        grind
    have hzero : ∀ i, i < a.length → k i = z → rc (offL a) i = 0 := fun i hi hk => by
      have := hc i hi
      rw [hk, Int.sub_self, show ((0 : Int) : Rat) = 0 from rfl] at this
      grind
    -- the first and the last of them
    obtain ⟨i0, i0n, i0k, i0m⟩ : ∃ i, i < a.length ∧ k i ≠ z ∧ ∀ j, j < i → k j = z := by
      obtain ⟨i, hi, hk⟩ := hex
      have : ∀ m, (∃ i, i ≤ m ∧ i < a.length ∧ k i ≠ z) → ∃ i, i < a.length ∧ k i ≠ z ∧ ∀ j, j < i → k j = z := fun m => by
        induction m with
        | zero => rintro ⟨i, h1, h2, h3⟩; exact ⟨i, h2, h3, fun j hj => by omega⟩
        | succ m ih =>
          rintro ⟨i, h1, h2, h3⟩
          by_cases hx : ∃ i, i ≤ m ∧ i < a.length ∧ k i ≠ z
          · exact ih hx
          · refine ⟨i, h2, h3, fun j hj => Classical.byContradiction fun hh => hx ⟨j, by omega, by omega, hh⟩⟩
      exact this i ⟨i, Nat.le_refl _, hi, hk⟩
    obtain ⟨i1, i1n, i1k, i1m⟩ : ∃ i, i < a.length ∧ k i ≠ z ∧ ∀ j, i < j → j < a.length → k j = z := by
      have : ∀ m, m ≤ a.length → (∃ i, a.length - m ≤ i ∧ i < a.length ∧ k i ≠ z) → ∃ i, i < a.length ∧ k i ≠ z ∧ ∀ j, i < j → j < a.length → k j = z := fun m => by
        induction m with
        | zero => rintro _ ⟨i, h1, h2, h3⟩; omega
        | succ m ih =>
          rintro hm ⟨i, h1, h2, h3⟩
          by_cases hx : ∃ i, a.length - m ≤ i ∧ i < a.length ∧ k i ≠ z
          · exact ih (by omega) hx
          · refine ⟨i, h2, h3, fun j hj hj2 => Classical.byContradiction fun hh => hx ⟨j, by omega, by omega, hh⟩⟩
      obtain ⟨i, hi, hk⟩ := hex
      exact this a.length (Nat.le_refl _) ⟨i, by omega, hi, hk⟩
    have h2 := sm_two_le (f := fun m => eY (alt (rc (offL a))) a.length g m * eY (alt (rc (offL a))) a.length g m) (n := a.length + 4) (i := i0) (j := i1 + 3) (fun j _ => mulself_nn _) (by
      rcases Nat.lt_or_ge i1 i0 with h5 | h5
      · exact absurd (i0m i1 h5) i1k
      · omega) (by omega)
    have e0 : eY (alt (rc (offL a))) a.length g i0 = alt (rc (offL a)) i0 := by
      have hy : ∀ j, j < i0 → yOf (alt (rc (offL a))) a.length (j + 4) = 0 := fun j hj => by
        rw [yOf_in _ (by omega), alt_sgx, hzero j (by omega) (i0m j hj)]; simp
      have hy2 : ∀ j, j < i0 + 4 → yOf (alt (rc (offL a))) a.length j = 0 := fun j hj => by
        rcases Nat.lt_or_ge j 4 with h5 | h5
        · exact yOf_lo _ _ h5
        · have := hy (j - 4) (by omega)
          rwa [show j - 4 + 4 = j by omega] at this
      unfold eY
      rw [hy2 (i0 + 3) (by omega), hy2 (i0 + 2) (by omega), hy2 (i0 + 1) (by omega), yOf_in _ i0n]; grind
    have e1 : eY (alt (rc (offL a))) a.length g (i1 + 3) = -alt (rc (offL a)) i1 := by
      have hy2 : ∀ j, i1 < j → yOf (alt (rc (offL a))) a.length (j + 4) = 0 := fun j hj => by
        rcases Nat.lt_or_ge j a.length with h5 | h5
        · rw [yOf_in _ h5, alt_sgx, hzero j h5 (i1m j hj h5)]; simp
        · exact yOf_hi _ _ (by omega)
      unfold eY
      rw [hy2 (i1 + 3) (by omega), show i1 + 3 + 3 = i1 + 2 + 4 by omega, hy2 (i1 + 2) (by omega), show i1 + 3 + 2 = i1 + 1 + 4 by omega, hy2 (i1 + 1) (by omega), show i1 + 3 + 1 = i1 + 4 by omega, yOf_in _ i1n]; grind
    simp only [e0, e1] at h2
    rw [← vF_sq _ (by omega)] at h2
    have q0 := hsq i0 i0n i0k
    have q1 := hsq i1 i1n i1k
    rw [alt_sgx, alt_sgx] at h2
    have s0 := sgx_sq i0
    have s1 := sgx_sq i1
    have hv : 1 / 16 ≤ vF (alt (rc (offL a))) a.length g := by
      generalize vF (alt (rc (offL a))) a.length g = V at *
      have e5 : ∀ s x : Rat, s * s = 1 → s * x * (s * x) = x * x := fun s x hs => by
        have : s * x * (s * x) = (s * s) * (x * x) := by grind
        rw [this, hs]; grind
      have e6 : ∀ x : Rat, -x * -x = x * x := fun x => by grind
      rw [e6, e5 _ _ s0, e5 _ _ s1] at h2
      clear hV hc hzero hsq e0 e1 hD hF g1 g2 gb
      grind
    have hPR := cast_le hP2
    rw [Rat.intCast_mul, Rat.intCast_mul, Rat.intCast_natCast, show ((1024 : Int) : Rat) = 1024 from rfl] at hPR
    have hpp : (0 : Rat) ≤ (a.length : Rat) * (a.length : Rat) := mulself_nn _
    have := Rat.mul_nonneg (show 0 ≤ (4096 * (a.length : Rat)) * (4096 * (a.length : Rat)) by grind) (show 0 ≤ vF (alt (rc (offL a))) a.length g - 1 / 16 by grind)
    grind
  · generalize hK : smI k a.length = K at *
    have hmod := Int.mul_ediv_add_emod (-K) (a.length : Int)
    have hm1 := Int.emod_nonneg (-K) (show (a.length : Int) ≠ 0 by omega)
    have hm2 := Int.emod_lt_of_pos (-K) (show (0 : Int) < (a.length : Int) by omega)
    have hm0 : (-K) % (a.length : Int) ≠ 0 := fun h5 => hr ⟨-((-K) / (a.length : Int)), by rw [Int.mul_neg]; omega⟩
    generalize hrv : (-K) % (a.length : Int) = r at *
    generalize (-K) / (a.length : Int) = q at *
    have hPp : P ≤ pathC a.length p.1 r 6 0 0 0 := by
      have := of_decide_eq_true (List.all_eq_true.1 (List.all_eq_true.1 hF p hp) (r - 1).toNat (List.mem_range.2 (by omega)))
      rwa [show (((r - 1).toNat : Int) + 1) = r by omega] at this
    have wF := win (n := a.length) (by omega) (by omega) g1 g2 gb (z := zF (rc (offL a))) (Y := fun i => if i < 3 then 0 else (a.length : Int) * k (i - 3) - K) rfl rfl rfl (fun i hi => by unfold zF; rw [if_pos hi])
      (fun i h3 h9 => by
        have := htr (i - 3) (by omega)
        unfold zF
        rw [if_neg (by omega), if_neg (by omega)]
        rw [Rat.intCast_natCast]; exact this)
      (fun i hi => ⟨q + k i, by
        rw [if_neg (by omega), show i + 3 - 3 = i by omega, Int.mul_add]; omega⟩) hPp
    have wB := win (n := a.length) (by omega) (by omega) g1 g2 gb (z := zB (rc (offL a)) a.length) (Y := fun i => if i < 3 then 0 else (a.length : Int) * k (a.length + 2 - i) - K) rfl rfl rfl (fun i hi => by unfold zB; rw [if_pos hi])
      (fun i h3 h9 => by
        have := htr (a.length + 2 - i) (by omega)
        unfold zB
        rw [if_neg (by omega), if_neg (by omega)]
        rw [Rat.intCast_natCast]; exact this)
      (fun i hi => ⟨q + k (a.length + 2 - (i + 3)), by
        rw [if_neg (by omega), Int.mul_add]; omega⟩) hPp
    rw [Rat.intCast_natCast] at wF wB
    have hpp : (0 : Rat) ≤ (a.length : Rat) * (a.length : Rat) := mulself_nn _
    have := Rat.mul_nonneg (show 0 ≤ (4096 * (a.length : Rat)) * (4096 * (a.length : Rat)) by grind) (show 0 ≤ 2 * vF (alt (rc (offL a))) a.length g - (sm (fun i => zL g (zF (rc (offL a))) i * zL g (zF (rc (offL a))) i) 6 + sm (fun i => zL g (zB (rc (offL a)) a.length) i * zL g (zB (rc (offL a)) a.length) i) 6) by grind)
    grind

end Go.Proofs.Ytpdnjcblkjjegaa

