import Derived.Test.YtpdnjcblkjjegaaVT209
import Derived.Test.YtpdnjcblkjjegaaVT214
set_option linter.unusedVariables false
set_option linter.unusedSimpArgs false
namespace Go.Proofs.Ytpdnjcblkjjegaa
open Go.Aw

/-! ### the form as a sum of squares -/
def eY (c : Nat → Rat) (n : Nat) (g : Rat) (m : Nat) : Rat := yOf c n (m + 4) - g * yOf c n (m + 3) + g * yOf c n (m + 2) - yOf c n (m + 1)
theorem vF_sq (c : Nat → Rat) {n : Nat} (hn : 4 ≤ n) (g : Rat) : 2 * vF c n g = sm (fun m => eY c n g m * eY c n g m) (n + 4) := by
  have h := form_sum c hn 1 (-g) g (-1) 0 (g * g) (-(g * g)) g 0 (g * g) (-g) 0 1 0 0
  have e : 2 * vF c n g = (1 + g * g + g * g + 1 + 0) * dk c n 0 + 2 * (-g + -(g * g) + -g + 0) * dk c n 1 + 2 * (g + g + 0) * dk c n 2 + 2 * (-1 + 0) * dk c n 3 + 2 * 0 * dk c n 4 := by
    unfold vF; grind
  rw [e, ← h]
  refine sm_congr fun m _ => ?_
  unfold eY; grind
theorem d01 (c : Nat → Rat) {n : Nat} (hn : 4 ≤ n) : dk c n 1 ≤ dk c n 0 := by
  have h := form_sum c hn 1 (-1) 0 0 0 1 0 0 0 0 0 0 0 0 0
  have h2 : 0 ≤ sm (fun m => (yOf c n (m + 4) - yOf c n (m + 3)) * (yOf c n (m + 4) - yOf c n (m + 3))) (n + 4) := sm_nn fun m _ => mulself_nn _
  have e : sm (fun m => (yOf c n (m + 4) - yOf c n (m + 3)) * (yOf c n (m + 4) - yOf c n (m + 3))) (n + 4) = sm (fun m => 1 * (yOf c n (m + 4) * yOf c n (m + 4)) + 2 * -1 * (yOf c n (m + 4) * yOf c n (m + 3)) + 2 * 0 * (yOf c n (m + 4) * yOf c n (m + 2)) + 2 * 0 * (yOf c n (m + 4) * yOf c n (m + 1)) + 2 * 0 * (yOf c n (m + 4) * yOf c n m) + 1 * (yOf c n (m + 3) * yOf c n (m + 3)) + 2 * 0 * (yOf c n (m + 3) * yOf c n (m + 2)) + 2 * 0 * (yOf c n (m + 3) * yOf c n (m + 1)) + 2 * 0 * (yOf c n (m + 3) * yOf c n m) + 0 * (yOf c n (m + 2) * yOf c n (m + 2)) + 2 * 0 * (yOf c n (m + 2) * yOf c n (m + 1)) + 2 * 0 * (yOf c n (m + 2) * yOf c n m) + 0 * (yOf c n (m + 1) * yOf c n (m + 1)) + 2 * 0 * (yOf c n (m + 1) * yOf c n m) + 0 * (yOf c n m * yOf c n m)) (n + 4) :=
    sm_congr fun m _ => by grind
  rw [e, h] at h2
  grind
/-- signs in turn -/
def alt (c : Nat → Rat) (i : Nat) : Rat := if i % 2 = 0 then c i else -c i
theorem alt_dk (c : Nat → Rat) (n k : Nat) : dk (alt c) n k = if k % 2 = 0 then dk c n k else -dk c n k := by
  unfold dk
  by_cases hk : k % 2 = 0
  · rw [if_pos hk]
    refine sm_congr fun i _ => ?_
    unfold alt
    by_cases h : i % 2 = 0
    · rw [if_pos h, if_pos (by omega)]
    · rw [if_neg h, if_neg (by omega)]; grind
  · rw [if_neg hk, ← sm_neg]
    refine sm_congr fun i _ => ?_
    unfold alt
    by_cases h : i % 2 = 0
    · rw [if_pos h, if_neg (by omega)]; grind
    · rw [if_neg h, if_pos (by omega)]; grind

end Go.Proofs.Ytpdnjcblkjjegaa

set_option linter.unusedVariables false
set_option linter.unusedSimpArgs false
namespace Go.Proofs.Ytpdnjcblkjjegaa
open Go.Aw

/-! ### the forms hold with the weights of the errors -/
def chn : Int → List (Int × Int) → Int → Bool
  | lo, [], hi => decide (hi ≤ lo)
  | lo, p :: l, hi => decide (p.1 - p.2 ≤ lo) && chn (p.1 + p.2) l hi
theorem chn_cov : ∀ {l : List (Int × Int)} {lo hi : Int}, chn lo l hi = true → ∀ x : Rat, (lo : Rat) < x → x ≤ (hi : Rat) → ∃ p, p ∈ l ∧ ((p.1 - p.2 : Int) : Rat) ≤ x ∧ x ≤ ((p.1 + p.2 : Int) : Rat)
  | [], lo, hi, h, x, h1, h2 => by
    unfold chn at h
    have := cast_le (of_decide_eq_true h)
    grind
  | p :: l, lo, hi, h, x, h1, h2 => by
    unfold chn at h
    simp only [Bool.and_eq_true, decide_eq_true_eq] at h
    rcases Rat.le_total (a := x) (b := ((p.1 + p.2 : Int) : Rat)) with h3 | h3
    · exact ⟨p, List.mem_cons_self, by have := cast_le h.1; grind, h3⟩
    · by_cases h4 : x = ((p.1 + p.2 : Int) : Rat)
      · exact ⟨p, List.mem_cons_self, by have := cast_le h.1; grind, by grind⟩
      · obtain ⟨q, q1, q2⟩ := chn_cov h.2 x (by grind) h2
        exact ⟨q, List.mem_cons_of_mem _ q1, q2⟩
theorem yw_sum (c : Nat → Rat) (w : Nat → Rat) (n : Nat) : sm (fun m => w m * (yOf c n (m + 4) * yOf c n (m + 4))) (n + 4) = sm (fun m => w m * (c m * c m)) n := by
  rw [sm_split, sm_zero (n := 4) (fun i hi => by rw [yOf_hi c n (by omega)]; simp)]
  rw [sm_congr (g := fun m => w m * (c m * c m)) (fun m hm => by rw [yOf_in c hm])]
  grind
theorem dk_pad {c : Nat → Rat} {n N : Nat} (hz : ∀ i, n ≤ i → c i = 0) (hN : n ≤ N) (k : Nat) : dk c N k = dk c n k := by
  unfold dk
  have h := sm_split (fun i => c i * c (i + k)) (n - k) ((N - k) - (n - k))
  rw [show n - k + (N - k - (n - k)) = N - k by omega] at h
  rw [h, sm_zero (n := (N - k) - (n - k)) (fun i hi => by rw [hz (i + (n - k) + k) (by omega)]; simp)]
  grind
theorem vF_pad {c : Nat → Rat} {n N : Nat} (hz : ∀ i, n ≤ i → c i = 0) (hN : n ≤ N) (g : Rat) : vF c N g = vF c n g := by
  unfold vF; rw [dk_pad hz hN, dk_pad hz hN, dk_pad hz hN, dk_pad hz hN]
theorem dk0 (c : Nat → Rat) (n : Nat) : dk c n 0 = sm (fun j => c j * c j) n := rfl
/-- the weights of a delayed sum's error -/
def wW (c : Nat → Rat) (n k : Nat) : Rat := sm (fun j => (wD n k j : Rat) * (c j * c j)) n
def wS (c : Nat → Rat) (n : Nat) (g A : Rat) : Rat := (1 + g * g) * wW c n 0 + (2 * A + g * g) * wW c n 1 + 2 * A * wW c n 2 + wW c n 3
theorem wD_mono {n N : Nat} (h : n ≤ N) (k j : Nat) : wD n k j ≤ wD N k j := by
  unfold wD; split <;> split <;> omega
theorem natN (k : Nat) : (0 : Rat) ≤ (k : Rat) := by exact_mod_cast Nat.zero_le k
theorem natM {a b : Nat} (h : a ≤ b) : (a : Rat) ≤ (b : Rat) := by exact_mod_cast h
theorem wW_nn (c : Nat → Rat) (n k : Nat) : 0 ≤ wW c n k := sm_nn fun j _ => Rat.mul_nonneg (natN _) (mulself_nn _)
theorem wS_eq (c : Nat → Rat) (n : Nat) (g A b : Rat) : wS c n g A + b * dk c n 0 = sm (fun j => ((1 + g * g) * (wD n 0 j : Rat) + (2 * A + g * g) * (wD n 1 j : Rat) + 2 * A * (wD n 2 j : Rat) + (wD n 3 j : Rat) + b) * (c j * c j)) n := by
  unfold wS wW
  rw [dk0, ← sm_mul, ← sm_mul, ← sm_mul, ← sm_mul, ← sm_add, ← sm_add, ← sm_add, ← sm_add]
  exact sm_congr fun j _ => by grind
theorem wI_ge {n N m : Nat} (hm : m < n) (hN : n ≤ N) {Gb base : Int} {g A : Rat} (hA : Ab g A) (hG : 1024 * A ≤ (Gb : Rat)) :
    1099511627776 * ((1 + g * g) * (wD n 0 m : Rat) + (2 * A + g * g) * (wD n 1 m : Rat) + 2 * A * (wD n 2 m : Rat) + (wD n 3 m : Rat) + 2 * (base : Rat)) ≤ (wI N Gb base m : Rat) := by
  unfold wI
  rw [if_pos (by omega)]
  simp only [Rat.intCast_add, Rat.intCast_mul, Rat.intCast_ofNat, Rat.intCast_natCast]
  have m0 := natM (wD_mono hN 0 m)
  have m1 := natM (wD_mono hN 1 m)
  have m2 := natM (wD_mono hN 2 m)
  have m3 := natM (wD_mono hN 3 m)
  have n0 := natN (wD n 0 m)
  have n1 := natN (wD n 1 m)
  have n2 := natN (wD n 2 m)
  generalize (wD n 0 m : Rat) = a0 at *
  generalize (wD n 1 m : Rat) = a1 at *
  generalize (wD n 2 m : Rat) = a2 at *
  generalize (wD n 3 m : Rat) = a3 at *
  generalize (wD N 0 m : Rat) = b0 at *
  generalize (wD N 1 m : Rat) = b1 at *
  generalize (wD N 2 m : Rat) = b2 at *
  generalize (wD N 3 m : Rat) = b3 at *
  generalize (base : Rat) = B
  generalize (Gb : Rat) = Γ at *
  have hA0 := hA.nn
  have hgg : g * g ≤ A * A := (hA.mul hA).1
  have hg0 := mulself_nn g
  have hΓ : 1048576 * (A * A) ≤ Γ * Γ := by
    have := Rat.mul_nonneg (show 0 ≤ Γ - 1024 * A by grind) (show 0 ≤ Γ + 1024 * A by grind)
    grind
  have p0 : 1048576 * ((1 + g * g) * a0) ≤ (1048576 + Γ * Γ) * b0 := by
    have q1 := Rat.mul_nonneg (show 0 ≤ (1048576 + Γ * Γ) - 1048576 * (1 + g * g) by grind) n0
    have q2 := Rat.mul_nonneg (show 0 ≤ 1048576 + Γ * Γ by grind) (show 0 ≤ b0 - a0 by grind)
    grind
  have p1 : 1048576 * ((2 * A + g * g) * a1) ≤ (2048 * Γ + Γ * Γ) * b1 := by
    have q1 := Rat.mul_nonneg (show 0 ≤ (2048 * Γ + Γ * Γ) - 1048576 * (2 * A + g * g) by grind) n1
    have q2 := Rat.mul_nonneg (show 0 ≤ 2048 * Γ + Γ * Γ by grind) (show 0 ≤ b1 - a1 by grind)
    grind
  have p2 : 1048576 * (2 * A * a2) ≤ 2048 * Γ * b2 := by
    have q1 := Rat.mul_nonneg (show 0 ≤ 2048 * Γ - 1048576 * (2 * A) by grind) n2
    have q2 := Rat.mul_nonneg (show 0 ≤ 2048 * Γ by grind) (show 0 ≤ b2 - a2 by grind)
    grind
  grind
/-- the weights of a certificate are no less than those of the errors -/
theorem wI_sum {c : Nat → Rat} {n N : Nat} (hz : ∀ i, n ≤ i → c i = 0) (hN : n ≤ N) {Gb base : Int} {g A : Rat} (hA : Ab g A) (hG : 1024 * A ≤ (Gb : Rat)) :
    1099511627776 * (wS c n g A + 2 * (base : Rat) * dk c n 0) ≤ sm (fun m => (wI N Gb base m : Rat) * (c m * c m)) N := by
  rw [wS_eq, ← sm_mul]
  have h := sm_split (fun m => (wI N Gb base m : Rat) * (c m * c m)) n (N - n)
  rw [show n + (N - n) = N by omega] at h
  rw [h, sm_zero (n := N - n) (fun i hi => by rw [hz (i + n) (by omega)]; simp), Rat.add_zero]
  refine sm_le fun m hm => ?_
  have := Rat.mul_le_mul_of_nonneg_right (wI_ge (base := base) hm hN hA hG) (mulself_nn (c m))
  grind
theorem gb_of {p : Int × Int} {g A : Rat} (h1 : ((p.1 - p.2 : Int) : Rat) ≤ 1024 * g) (h2 : 1024 * g ≤ ((p.1 + p.2 : Int) : Rat)) (hA : A = g ∨ A = -g) (hp : 0 ≤ p.2) : 1024 * A ≤ (((p.1.natAbs : Int) + p.2 : Int) : Rat) := by
  have c1 := cast_le (show p.1 + p.2 ≤ (p.1.natAbs : Int) + p.2 by omega)
  have c2 := cast_le (show -(p.1 - p.2) ≤ (p.1.natAbs : Int) + p.2 by omega)
  rw [Rat.intCast_neg] at c2
  rcases hA with rfl | rfl <;> grind
theorem rng_of {p : Int × Int} {g : Rat} (h1 : ((p.1 - p.2 : Int) : Rat) ≤ 1024 * g) (h2 : 1024 * g ≤ ((p.1 + p.2 : Int) : Rat)) : (p.1 : Rat) / 1024 - (p.2 : Rat) / 1024 ≤ g ∧ g ≤ (p.1 : Rat) / 1024 + (p.2 : Rat) / 1024 := by
  rw [Rat.intCast_sub] at h1
  rw [Rat.intCast_add] at h2
  constructor <;> grind
theorem abs_ex (g : Rat) : ∃ A, Ab g A ∧ (A = g ∨ A = -g) := by
  rcases Rat.le_total (a := 0) (b := g) with h | h
  · exact ⟨g, ⟨by grind, by grind⟩, .inl rfl⟩
  · exact ⟨-g, ⟨by grind, by grind⟩, .inr rfl⟩
/-- what is to be shown of a series and a g -/
def Form (c : Nat → Rat) (n : Nat) (g A : Rat) : Prop := uu * wS c n g A + 120 * uu * dk c n 0 ≤ 2 * vF c n g
theorem pos_rgS29 : (rgS29.all fun p => decide (0 < p.2)) = true := by decide
theorem pos_rgS24 : (rgS24.all fun p => decide (0 < p.2)) = true := by decide
theorem box0 (c : Nat → Rat) (n : Nat) : sm (fun m => (((fun _ => 0 : Nat → Int) m : Int) : Rat) * ((yOf c n (m + 4) + yOf c n (m + 3)) * (yOf c n (m + 4) + yOf c n (m + 3)))) (n + 4) = 0 := sm_zero fun i _ => by
  show ((0 : Int) : Rat) * _ = 0
  simp
theorem formS {N : Nat} (hN4 : 4 ≤ N) {l : List (Int × Int)} {lo hi : Int} (hl : chn lo l hi = true) (hp : (l.all fun p => decide (0 < p.2)) = true) (hc : (l.all fun p => okS N 60 p.1 p.2) = true)
    {c : Nat → Rat} {n : Nat} (hz : ∀ i, n ≤ i → c i = 0) (hN : n ≤ N) {g A : Rat} (h1 : (lo : Rat) < 1024 * g) (h2 : 1024 * g ≤ (hi : Rat)) (hA : Ab g A) (hA2 : A = g ∨ A = -g) : Form c n g A := by
  obtain ⟨p, pm, p1, p2⟩ := chn_cov hl (1024 * g) h1 h2
  have hok := List.all_eq_true.1 hc p pm
  have hd := of_decide_eq_true (List.all_eq_true.1 hp p pm)
  unfold okS at hok
  simp only [Bool.and_eq_true] at hok
  obtain ⟨r1, r2⟩ := rng_of p1 p2
  have hf := form_range hN4 (by decide) hd (b := fun _ => 0) hok.1 hok.2 c g r1 r2 (d01 c hN4)
  rw [box0, yw_sum c (fun m => (wI N (p.1.natAbs + p.2) 60 m : Rat))] at hf
  have hw := wI_sum hz hN (base := 60) hA (gb_of p1 p2 hA2 (by omega))
  rw [vF_pad hz hN] at hf
  unfold Form uu
  have e1 : ((16 : Int) : Rat) = 16 := rfl
  have e2 : ((60 : Int) : Rat) = 60 := rfl
  rw [e1] at hf
  rw [e2] at hw
  grind
theorem chS29 : chn (-1025) rgS29 2971 = true := by decide
theorem chS24 : chn (-1025) rgS24 3103 = true := by decide
theorem formS29 {c : Nat → Rat} {n : Nat} (hz : ∀ i, n ≤ i → c i = 0) (hN : n ≤ 29) {g A : Rat} (h1 : -1025 < 1024 * g) (h2 : 1024 * g ≤ 2971) (hA : Ab g A) (hA2 : A = g ∨ A = -g) : Form c n g A :=
  formS (by decide) chS29 pos_rgS29 certS29 hz hN (lo := -1025) (hi := 2971) h1 h2 hA hA2
theorem formS24 {c : Nat → Rat} {n : Nat} (hz : ∀ i, n ≤ i → c i = 0) (hN : n ≤ 24) {g A : Rat} (h1 : -1025 < 1024 * g) (h2 : 1024 * g ≤ 3103) (hA : Ab g A) (hA2 : A = g ∨ A = -g) : Form c n g A :=
  formS (by decide) chS24 pos_rgS24 certS24 hz hN (lo := -1025) (hi := 3103) h1 h2 hA hA2

end Go.Proofs.Ytpdnjcblkjjegaa

set_option linter.unusedVariables false
set_option linter.unusedSimpArgs false
namespace Go.Proofs.Ytpdnjcblkjjegaa
open Go.Aw

/-! ### g' in [2.9, 3]: with a box in the middle -/
def bI (l : List Nat) (j : Nat) : Int := ((l.getD j 0 * 1073741824 : Nat) : Int)
def okB (n : Nat) (al : Int) (l : List Nat) (base G d : Int) : Bool :=
  runQ (fsF (fun j => mkQ al G d (wI n (G.natAbs + d) base j) (bI l j)) (n + 4) 0) sV0 && runQ (fsF (fun j => mkQ al G (-d) (wI n (G.natAbs + d) base j) (bI l j)) (n + 4) 0) sV0
def rgB : List (Int × Int) := [(2969, 4), (2977, 4), (2985, 4), (2993, 4), (3001, 4), (3009, 4), (3017, 4), (3025, 4), (3033, 4), (3041, 4), (3049, 4), (3057, 4), (3065, 4), (3073, 4)]
def bx25 : List Nat := [3, 3, 3, 3, 3, 3, 4, 5, 6, 10, 19, 63, 1604061, 112, 25, 11, 7, 5, 4, 4, 3, 3, 3, 3, 3, 3]
theorem certB25 : (rgB.all fun p => okB 25 5 bx25 60 p.1 p.2) = true := by decide +kernel
def bx26 : List Nat := [3, 3, 3, 3, 3, 4, 4, 5, 6, 10, 18, 53, 1690775, 508573, 53, 19, 10, 7, 5, 4, 4, 3, 3, 3, 3, 3, 3]
theorem certB26 : (rgB.all fun p => okB 26 3 bx26 60 p.1 p.2) = true := by decide +kernel
def bx27 : List Nat := [3, 3, 3, 3, 3, 4, 5, 7, 11, 22, 62, 334, 1782657, 98624, 632025, 383, 71, 25, 12, 7, 5, 4, 4, 3, 3, 3, 3, 3]
theorem certB27 : (rgB.all fun p => okB 27 3 bx27 60 p.1 p.2) = true := by decide +kernel
def bx28 : List Nat := [3, 3, 3, 3, 3, 4, 5, 6, 9, 17, 43, 186, 19854, 2545331, 36799, 23859, 210, 48, 19, 10, 7, 5, 4, 4, 3, 3, 3, 3, 3]
theorem certB28 : (rgB.all fun p => okB 28 4 bx28 60 p.1 p.2) = true := by decide +kernel
def bx29 : List Nat := [3, 3, 3, 3, 3, 3, 4, 5, 6, 8, 14, 27, 84, 1135410, 1652263, 93, 32, 16, 10, 7, 5, 4, 4, 3, 3, 3, 3, 3, 3, 3]
theorem certB29 : (rgB.all fun p => okB 29 5 bx29 60 p.1 p.2) = true := by decide +kernel

end Go.Proofs.Ytpdnjcblkjjegaa

set_option linter.unusedVariables false
set_option linter.unusedSimpArgs false
namespace Go.Proofs.Ytpdnjcblkjjegaa
open Go.Aw

/-! ### the ends of a series: whole numbers of one class -/
def nearY (n r t : Int) : Int := r + n * ((-t - 1024 * r + 512 * n) / (1024 * n))
def lowB (x s : Int) : Int := if 4 * (s.natAbs : Int) ≤ (x.natAbs : Int) then (x.natAbs : Int) - 4 * (s.natAbs : Int) else 0
def pathC (n G r : Int) : Nat → Int → Int → Int → Int
  | 0, _, _, _ => 0
  | w + 1, y1, y2, y3 =>
    let t := 1024 * y3 + G * (y1 + y2)
    let y := nearY n r t
    min (lowB (512 * n) (y1 + y2) * lowB (512 * n) (y1 + y2)) (lowB (1024 * y + t) (y1 + y2) * lowB (1024 * y + t) (y1 + y2) + pathC n G r w y y1 y2)
theorem near_far {n r t y k : Int} (hn : 0 < n) (hy : y = r + n * k) (hne : y ≠ nearY n r t) : 512 * n ≤ ((1024 * y + t).natAbs : Int) := by
  unfold nearY at hne
  have h1 := Int.mul_ediv_add_emod (-t - 1024 * r + 512 * n) (1024 * n)
  have h2 := Int.emod_nonneg (-t - 1024 * r + 512 * n) (show (1024 * n) ≠ 0 by omega)
  have h3 := Int.emod_lt_of_pos (-t - 1024 * r + 512 * n) (show 0 < 1024 * n by omega)
  generalize (-t - 1024 * r + 512 * n) / (1024 * n) = q at *
  generalize (-t - 1024 * r + 512 * n) % (1024 * n) = e at *
  have hk : k ≠ q := by rintro rfl; exact hne hy
  subst hy
  rcases (show k ≤ q - 1 ∨ q + 1 ≤ k by omega) with h | h
  · have := Int.mul_le_mul_of_nonneg_left h (Int.le_of_lt hn)
    rw [Int.mul_sub] at this
    have e1 : 1024 * n * q = 1024 * (n * q) := by rw [Int.mul_assoc]
    rw [e1] at h1
    omega
  · have := Int.mul_le_mul_of_nonneg_left h (Int.le_of_lt hn)
    rw [Int.mul_add] at this
    have e1 : 1024 * n * q = 1024 * (n * q) := by rw [Int.mul_assoc]
    rw [e1] at h1
    omega

theorem lowB_nn (x s : Int) : 0 ≤ lowB x s := by unfold lowB; split <;> omega
theorem lowB_sq {x s : Int} {g : Rat} {G : Int} (g1 : 1024 * g - G ≤ 4) (g2 : -4 ≤ 1024 * g - G) : ((lowB x s * lowB x s : Int) : Rat) ≤ ((x : Rat) + (1024 * g - G) * s) * ((x : Rat) + (1024 * g - G) * s) := by
  unfold lowB
  split
  · rename_i h
    generalize 1024 * g - (G : Rat) = d at *
    have hs1 : (s : Rat) ≤ ((s.natAbs : Int) : Rat) := by exact_mod_cast (show s ≤ (s.natAbs : Int) by omega)
    have hs2 : -((s.natAbs : Int) : Rat) ≤ (s : Rat) := by exact_mod_cast (show -(s.natAbs : Int) ≤ s by omega)
    have hhR : 4 * ((s.natAbs : Int) : Rat) ≤ ((x.natAbs : Int) : Rat) := by exact_mod_cast h
    have hx : (x : Rat) = ((x.natAbs : Int) : Rat) ∨ (x : Rat) = -((x.natAbs : Int) : Rat) := by
      rcases (show x = (x.natAbs : Int) ∨ x = -(x.natAbs : Int) by omega) with h1 | h1
      · left; exact_mod_cast h1
      · right; exact_mod_cast h1
    simp only [Rat.intCast_mul, Rat.intCast_sub, Rat.intCast_ofNat]
    generalize ((s.natAbs : Int) : Rat) = S at *
    generalize ((x.natAbs : Int) : Rat) = X at *
    have b1 := Rat.mul_nonneg (show 0 ≤ 4 - d by grind) (show 0 ≤ S - s by grind)
    have b2 := Rat.mul_nonneg (show 0 ≤ 4 + d by grind) (show 0 ≤ S + s by grind)
    have b3 := Rat.mul_nonneg (show 0 ≤ 4 - d by grind) (show 0 ≤ S + s by grind)
    have b4 := Rat.mul_nonneg (show 0 ≤ 4 + d by grind) (show 0 ≤ S - s by grind)
    have c1 : d * s ≤ 4 * S := by grind
    have c2 : -(4 * S) ≤ d * s := by grind
    rcases hx with hx | hx
    · rw [hx]
      have := Rat.mul_nonneg (show 0 ≤ (X + d * s) - (X - 4 * S) by grind) (show 0 ≤ (X + d * s) + (X - 4 * S) by grind)
      grind
    · rw [hx]
      have := Rat.mul_nonneg (show 0 ≤ (X - d * s) - (X - 4 * S) by grind) (show 0 ≤ (X - d * s) + (X - 4 * S) by grind)
      grind
  · have := mulself_nn ((x : Rat) + (1024 * g - G) * s)
    simpa using this

/-- 1024 times a step's miss, at the whole numbers Y (the step makes Y (j + 3)) -/
def eL (g : Rat) (Y : Nat → Int) (j : Nat) : Rat := 1024 * ((Y (j + 3) : Rat) + g * ((Y (j + 2) : Rat) + Y (j + 1)) + Y j)
theorem path_le {n G r : Int} (hn : 0 < n) {g : Rat} (g1 : 1024 * g - G ≤ 4) (g2 : -4 ≤ 1024 * g - G) (Y : Nat → Int) :
    ∀ w j, (∀ i, i < w → ∃ k, Y (j + i + 3) = r + n * k) → ((pathC n G r w (Y (j + 2)) (Y (j + 1)) (Y j) : Int) : Rat) ≤ sm (fun i => eL g Y (j + i) * eL g Y (j + i)) w
  | 0, _, _ => by show ((0 : Int) : Rat) ≤ 0; simp
  | w + 1, j, h => by
    rw [sm_left]
    have ih := path_le hn g1 g2 Y w (j + 1) (fun i hi => by
      obtain ⟨k, hk⟩ := h (i + 1) (by omega)
      exact ⟨k, by rw [← hk, show j + 1 + i + 3 = j + (i + 1) + 3 by omega]⟩)
    have ef : (fun i => eL g Y (j + 1 + i) * eL g Y (j + 1 + i)) = fun i => eL g Y (j + (i + 1)) * eL g Y (j + (i + 1)) := by
      funext i; rw [show j + 1 + i = j + (i + 1) by omega]
    rw [ef] at ih
    obtain ⟨k, hk⟩ := h 0 (by omega)
    rw [Nat.add_zero] at hk ⊢
    have hsq := lowB_sq (x := 1024 * Y (j + 3) + (1024 * Y j + G * (Y (j + 2) + Y (j + 1)))) (s := Y (j + 2) + Y (j + 1)) g1 g2
    have hE : eL g Y j = ((1024 * Y (j + 3) + (1024 * Y j + G * (Y (j + 2) + Y (j + 1))) : Int) : Rat) + (1024 * g - G) * ((Y (j + 2) + Y (j + 1) : Int) : Rat) := by
      unfold eL
      simp only [Rat.intCast_mul, Rat.intCast_add, Rat.intCast_ofNat]
      grind
    rw [← hE] at hsq
    have hr0 : 0 ≤ sm (fun i => eL g Y (j + (i + 1)) * eL g Y (j + (i + 1))) w := sm_nn fun i _ => mulself_nn _
    unfold pathC
    by_cases hy : Y (j + 3) = nearY n r (1024 * Y j + G * (Y (j + 2) + Y (j + 1)))
    · have hmin : ∀ a b : Int, ((min a b : Int) : Rat) ≤ (b : Rat) := fun a b => by exact_mod_cast Int.min_le_right a b
      refine Rat.le_trans (hmin _ _) ?_
      rw [← hy]
      rw [Rat.intCast_add]
      simp only [Nat.add_assoc, Nat.reduceAdd] at ih ⊢
      grind
    · have hmin : ∀ a b : Int, ((min a b : Int) : Rat) ≤ (a : Rat) := fun a b => by exact_mod_cast Int.min_le_left a b
      refine Rat.le_trans (hmin _ _) ?_
      have hf := near_far (t := 1024 * Y j + G * (Y (j + 2) + Y (j + 1))) hn hk hy
      have hm : lowB (512 * n) (Y (j + 2) + Y (j + 1)) ≤ lowB (1024 * Y (j + 3) + (1024 * Y j + G * (Y (j + 2) + Y (j + 1)))) (Y (j + 2) + Y (j + 1)) := by
        unfold lowB
        split <;> split <;> omega
      have h0 := lowB_nn (512 * n) (Y (j + 2) + Y (j + 1))
      have hmm := Int.mul_le_mul hm hm h0 (Int.le_trans h0 hm)
      have toR : ∀ a b : Int, a ≤ b → (a : Rat) ≤ (b : Rat) := fun a b h => by exact_mod_cast h
      have hmR := toR _ _ hmm
      grind

/-! the least costs: 25: 0.1640, 26: 0.1370, 27: 0.1000, 28: 0.1090, 29: 0.1540 times (1024 n)^2 -/
theorem certF25 : (rgB.all fun p => (List.range 24).all fun (i : Nat) => decide (107479040 ≤ pathC 25 p.1 ((i : Int) + 1) 6 0 0 0)) = true := by decide +kernel
theorem certF26 : (rgB.all fun p => (List.range 25).all fun (i : Nat) => decide (97110720 ≤ pathC 26 p.1 ((i : Int) + 1) 6 0 0 0)) = true := by decide +kernel
theorem certF27 : (rgB.all fun p => (List.range 26).all fun (i : Nat) => decide (76441190 ≤ pathC 27 p.1 ((i : Int) + 1) 6 0 0 0)) = true := by decide +kernel
theorem certF28 : (rgB.all fun p => (List.range 27).all fun (i : Nat) => decide (89607110 ≤ pathC 28 p.1 ((i : Int) + 1) 6 0 0 0)) = true := by decide +kernel
theorem certF29 : (rgB.all fun p => (List.range 28).all fun (i : Nat) => decide (135805272 ≤ pathC 29 p.1 ((i : Int) + 1) 6 0 0 0)) = true := by decide +kernel

end Go.Proofs.Ytpdnjcblkjjegaa

