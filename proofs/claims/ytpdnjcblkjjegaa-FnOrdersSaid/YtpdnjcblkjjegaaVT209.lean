import Derived.Test.YtpdnjcblkjjegaaVT204
set_option linter.unusedVariables false
set_option linter.unusedSimpArgs false
namespace Go.Proofs.Ytpdnjcblkjjegaa
open Go.Aw

theorem uF_lin (c : Nat → Rat) (n : Nat) (g d t : Rat) : 2 * d * uF c n g t = (d + t) * uF c n g d + (d - t) * uF c n g (-d) := by
  unfold uF; grind
/-- a range of g: from its two ends -/
theorem form_range {n : Nat} (hn : 4 ≤ n) {al G d : Int} {w b : Nat → Int} (hal : 0 ≤ al) (hd : 0 < d)
    (h1 : runQ (fsF (fun j => mkQ al G d (w j) (b j)) (n + 4) 0) sV0 = true) (h2 : runQ (fsF (fun j => mkQ al G (-d) (w j) (b j)) (n + 4) 0) sV0 = true)
    (c : Nat → Rat) (g : Rat) (g1 : (G : Rat) / 1024 - (d : Rat) / 1024 ≤ g) (g2 : g ≤ (G : Rat) / 1024 + (d : Rat) / 1024) (hD : dk c n 1 ≤ dk c n 0) :
    sm (fun m => (w m : Rat) * (yOf c n (m + 4) * yOf c n (m + 4))) (n + 4) ≤ 2305843009213693952 * (al : Rat) * vF c n g
      + sm (fun m => (b m : Rat) * ((yOf c n (m + 4) + yOf c n (m + 3)) * (yOf c n (m + 4) + yOf c n (m + 3)))) (n + 4) := by
  have y0 : ∀ i, i < 4 → yOf c n i = 0 := fun i hi => yOf_lo c n hi
  have y1 : ∀ (F : Nat → Q5) i, i < 4 → yOf c n ((fsF F (n + 4) 0).length + i) = 0 := fun F i hi => by rw [fsF_len]; exact yOf_hi c n (by omega)
  have r1 := run_nn h1 (yOf c n) y0 (y1 _)
  have r2 := run_nn h2 (yOf c n) y0 (y1 _)
  rw [sumQ_sm] at r1 r2
  simp only [Nat.zero_add] at r1 r2
  rw [mk_sum c hn] at r1 r2
  generalize sm (fun m => (w m : Rat) * (yOf c n (m + 4) * yOf c n (m + 4))) (n + 4) = W at *
  generalize sm (fun m => (b m : Rat) * ((yOf c n (m + 4) + yOf c n (m + 3)) * (yOf c n (m + 4) + yOf c n (m + 3)))) (n + 4) = X at *
  have e : ((-d : Int) : Rat) / 1024 = -((d : Rat) / 1024) := by push_cast; grind
  rw [e] at r2
  have hdR : (0 : Rat) < (d : Rat) / 1024 := by
    have : (0 : Rat) < (d : Rat) := by exact_mod_cast hd
    grind
  have halR : (0 : Rat) ≤ (al : Rat) := by exact_mod_cast hal
  generalize (d : Rat) / 1024 = D at *
  generalize (G : Rat) / 1024 = Γ at *
  obtain ⟨t, rfl⟩ : ∃ t, g = Γ + t := ⟨g - Γ, by grind⟩
  have hl := uF_lin c n Γ D t
  have hv := uF_vF c n Γ t
  have p1 := Rat.mul_nonneg (show 0 ≤ D + t by grind) r1
  have p2 := Rat.mul_nonneg (show 0 ≤ D - t by grind) r2
  have p3 : (2 * D) * 0 ≤ (2 * D) * (1152921504606846976 * (al : Rat) * uF c n Γ t - W + X) := by
    have : (2 * D) * (1152921504606846976 * (al : Rat) * uF c n Γ t - W + X) = 1152921504606846976 * (al : Rat) * (2 * D * uF c n Γ t) - 2 * D * W + 2 * D * X := by grind
    rw [this, hl]; grind
  have p4 := Rat.le_of_mul_le_mul_left p3 (show 0 < 2 * D by grind)
  rw [hv] at p4
  have p5 := Rat.mul_nonneg halR (Rat.mul_nonneg (show (0 : Rat) ≤ t * t from by
    rcases Rat.le_total (a := 0) (b := t) with h | h
    · exact Rat.mul_nonneg h h
    · have := Rat.mul_nonneg (show 0 ≤ -t by grind) (show 0 ≤ -t by grind)
      grind) (show 0 ≤ dk c n 0 - dk c n 1 by grind))
  generalize dk c n 0 = D0 at *
  generalize dk c n 1 = D1 at *
  generalize vF c n (Γ + t) = V at *
  grind

/-! ### sequences whose sum is nought, by their sums -/
def yS (c : Nat → Rat) (n : Nat) : Nat → Rat := fun i => if i < 4 ∨ n + 3 ≤ i then 0 else sm c (i - 3)
theorem yS_dif (c : Nat → Rat) {n : Nat} (hn : 1 ≤ n) (h : sm c n = 0) (i : Nat) : yS c n (i + 1) - yS c n i = yOf c n (i + 1) := by
  unfold yS yOf
  by_cases h1 : i < 3
  · rw [if_pos (by omega), if_pos (by omega), if_neg (by omega)]; grind
  · by_cases h2 : i = 3
    · subst h2
      by_cases h4 : n = 1
      · subst h4
        rw [if_pos (by omega), if_pos (by omega), if_pos (by omega)]
        have : sm c 1 = 0 + c 0 := rfl
        rw [this] at h
        show 0 - 0 = c 0
        grind
      · rw [if_neg (by omega), if_pos (by omega), if_pos (by omega)]
        show 0 + c 0 - 0 = c 0
        grind
    · obtain ⟨m, rfl⟩ : ∃ m, i = m + 4 := ⟨i - 4, by omega⟩
      by_cases h3 : m + 1 < n
      · by_cases h4 : m + 2 < n
        · rw [if_neg (by omega), if_neg (by omega), if_pos (by omega), show m + 4 + 1 - 3 = m + 1 + 1 by omega, show m + 4 - 3 = m + 1 by omega, show m + 4 + 1 - 4 = m + 1 by omega, sm]; grind
        · rw [if_pos (by omega), if_neg (by omega), if_pos (by omega), show m + 4 - 3 = m + 1 by omega, show m + 4 + 1 - 4 = m + 1 by omega]
          have : n = m + 1 + 1 := by omega
          rw [this, sm] at h
          grind
      · by_cases h4 : m + 1 = n
        · rw [if_pos (by omega), if_pos (by omega), if_neg (by omega)]; grind
        · rw [if_pos (by omega), if_pos (by omega), if_neg (by omega)]; grind
theorem atY_dif (f : Q5) (hf : f.a04 = 0 ∧ f.a14 = 0 ∧ f.a24 = 0 ∧ f.a34 = 0 ∧ f.a44 = 0) (c : Nat → Rat) {n : Nat} (hn : 1 ≤ n) (h : sm c n = 0) (m : Nat) : atY (difQ f) (yS c n) m = atY f (yOf c n) m := by
  unfold atY
  rw [difQ_at f hf]
  have e1 := yS_dif c hn h (m + 3)
  have e2 := yS_dif c hn h (m + 2)
  have e3 := yS_dif c hn h (m + 1)
  have e4 := yS_dif c hn h m
  simp only [Nat.add_assoc, Nat.reduceAdd] at e1 e2 e3
  rw [e1, e2, e3, e4]
  obtain ⟨h1, h2, h3, h4, h5⟩ := hf
  unfold Q5.at
  simp only [h1, h2, h3, h4, h5]
  grind
theorem form_rangeA {n : Nat} (hn : 4 ≤ n) {al G d : Int} {w b : Nat → Int} (hal : 0 ≤ al) (hd : 0 < d)
    (h1 : runQ (fsF (fun j => difQ (mkQ al G d (w j) (b j))) (n + 4) 0) sV0 = true) (h2 : runQ (fsF (fun j => difQ (mkQ al G (-d) (w j) (b j))) (n + 4) 0) sV0 = true)
    (c : Nat → Rat) (hc : sm c n = 0) (g : Rat) (g1 : (G : Rat) / 1024 - (d : Rat) / 1024 ≤ g) (g2 : g ≤ (G : Rat) / 1024 + (d : Rat) / 1024) (hD : dk c n 1 ≤ dk c n 0) :
    sm (fun m => (w m : Rat) * (yOf c n (m + 4) * yOf c n (m + 4))) (n + 4) ≤ 2305843009213693952 * (al : Rat) * vF c n g
      + sm (fun m => (b m : Rat) * ((yOf c n (m + 4) + yOf c n (m + 3)) * (yOf c n (m + 4) + yOf c n (m + 3)))) (n + 4) := by
  have y0 : ∀ i, i < 4 → yS c n i = 0 := fun i hi => by unfold yS; rw [if_pos (by omega)]
  have y1 : ∀ (F : Nat → Q5) i, i < 4 → yS c n ((fsF F (n + 4) 0).length + i) = 0 := fun F i hi => by rw [fsF_len]; unfold yS; rw [if_pos (by omega)]
  have r1 := run_nn h1 (yS c n) y0 (y1 _)
  have r2 := run_nn h2 (yS c n) y0 (y1 _)
  rw [sumQ_sm] at r1 r2
  simp only [Nat.zero_add] at r1 r2
  rw [sm_congr (fun m _ => atY_dif _ ⟨rfl, rfl, rfl, rfl, rfl⟩ c (by omega) hc m)] at r1 r2
  rw [mk_sum c hn] at r1 r2
  generalize sm (fun m => (w m : Rat) * (yOf c n (m + 4) * yOf c n (m + 4))) (n + 4) = W at *
  generalize sm (fun m => (b m : Rat) * ((yOf c n (m + 4) + yOf c n (m + 3)) * (yOf c n (m + 4) + yOf c n (m + 3)))) (n + 4) = X at *
  have e : ((-d : Int) : Rat) / 1024 = -((d : Rat) / 1024) := by push_cast; grind
  rw [e] at r2
  have hdR : (0 : Rat) < (d : Rat) / 1024 := by
    have : (0 : Rat) < (d : Rat) := by exact_mod_cast hd
    grind
  have halR : (0 : Rat) ≤ (al : Rat) := by exact_mod_cast hal
  generalize (d : Rat) / 1024 = D at *
  generalize (G : Rat) / 1024 = Γ at *
  obtain ⟨t, rfl⟩ : ∃ t, g = Γ + t := ⟨g - Γ, by grind⟩
  have hl := uF_lin c n Γ D t
  have hv := uF_vF c n Γ t
  have p1 := Rat.mul_nonneg (show 0 ≤ D + t by grind) r1
  have p2 := Rat.mul_nonneg (show 0 ≤ D - t by grind) r2
  have p3 : (2 * D) * 0 ≤ (2 * D) * (1152921504606846976 * (al : Rat) * uF c n Γ t - W + X) := by
    have : (2 * D) * (1152921504606846976 * (al : Rat) * uF c n Γ t - W + X) = 1152921504606846976 * (al : Rat) * (2 * D * uF c n Γ t) - 2 * D * W + 2 * D * X := by grind
    rw [this, hl]; grind
  have p4 := Rat.le_of_mul_le_mul_left p3 (show 0 < 2 * D by grind)
  rw [hv] at p4
  have p5 := Rat.mul_nonneg halR (Rat.mul_nonneg (mulself_nn t) (show 0 ≤ dk c n 0 - dk c n 1 by grind))
  generalize dk c n 0 = D0 at *
  generalize dk c n 1 = D1 at *
  generalize vF c n (Γ + t) = V at *
  grind

end Go.Proofs.Ytpdnjcblkjjegaa

set_option linter.unusedVariables false
set_option linter.unusedSimpArgs false
namespace Go.Proofs.Ytpdnjcblkjjegaa
open Go.Aw

/-- twice the weight of a square in the error of a delayed sum -/
def wD (n k j : Nat) : Nat := (if j + k < n then n - k - j + 1 else 0) + (n - j + 1)
def wI (n : Nat) (Gb : Int) (base : Int) (j : Nat) : Int :=
  if j < n then 1048576 * ((1048576 + Gb * Gb) * wD n 0 j + (2048 * Gb + Gb * Gb) * wD n 1 j + 2048 * Gb * wD n 2 j + 1048576 * wD n 3 j) + 2199023255552 * base else 0
def okS (n : Nat) (base G d : Int) : Bool :=
  runQ (fsF (fun j => mkQ 16 G d (wI n (G.natAbs + d) base j) 0) (n + 4) 0) sV0 && runQ (fsF (fun j => mkQ 16 G (-d) (wI n (G.natAbs + d) base j) 0) (n + 4) 0) sV0
def okA (n : Nat) (base G d : Int) : Bool :=
  runQ (fsF (fun j => difQ (mkQ 16 G d (2 * wI n (G.natAbs + d) base j) 0)) (n + 4) 0) sV0 && runQ (fsF (fun j => difQ (mkQ 16 G (-d) (2 * wI n (G.natAbs + d) base j) 0)) (n + 4) 0) sV0
def rgS29 : List (Int × Int) := [(-1009, 16), (-977, 16), (-929, 32), (-865, 32), (-769, 64), (-641, 64), (-513, 64), (-321, 128), (-65, 128), (191, 128), (447, 128), (703, 128), (959, 128), (1215, 128), (1471, 128), (1727, 128), (1983, 128), (2239, 128), (2431, 64), (2559, 64), (2687, 64), (2815, 64), (2911, 32), (2951, 8), (2963, 4), (2969, 2)]
def rgS24 : List (Int × Int) := [(-993, 32), (-929, 32), (-833, 64), (-705, 64), (-513, 128), (-257, 128), (-1, 128), (255, 128), (511, 128), (767, 128), (1023, 128), (1279, 128), (1535, 128), (1791, 128), (2047, 128), (2303, 128), (2559, 128), (2751, 64), (2847, 32), (2911, 32), (2959, 16), (3007, 32), (3071, 32)]
def rgA29 : List (Int × Int) := [(-1009, 16), (-977, 16), (-929, 32), (-865, 32), (-769, 64), (-641, 64), (-513, 64), (-321, 128), (-65, 128), (191, 128), (447, 128), (703, 128), (959, 128), (1215, 128), (1471, 128), (1727, 128), (1983, 128), (2239, 128), (2431, 64), (2559, 64), (2687, 64), (2815, 64), (2911, 32), (2975, 32), (3039, 32), (3135, 64)]
theorem certS29 : (rgS29.all fun p => okS 29 60 p.1 p.2) = true := by decide +kernel
theorem certS24 : (rgS24.all fun p => okS 24 60 p.1 p.2) = true := by decide +kernel
end Go.Proofs.Ytpdnjcblkjjegaa

set_option linter.unusedVariables false
set_option linter.unusedSimpArgs false
namespace Go.Proofs.Ytpdnjcblkjjegaa
open Go.Aw

def mkP (f : Q5) (w : Int) : Q5 := ⟨f.a00 - w, f.a01, f.a02, f.a03, f.a04, f.a11, f.a12, f.a13, f.a14, f.a22, f.a23, f.a24, f.a33, f.a34, f.a44⟩
def smQ (f : Q5) (c : Nat → Rat) (n : Nat) : Rat := ((f.a00 : Rat) + f.a11 + f.a22 + f.a33 + f.a44) * dk c n 0 + 2 * ((f.a01 : Rat) + f.a12 + f.a23 + f.a34) * dk c n 1 + 2 * ((f.a02 : Rat) + f.a13 + f.a24) * dk c n 2 + 2 * ((f.a03 : Rat) + f.a14) * dk c n 3 + 2 * (f.a04 : Rat) * dk c n 4
theorem mkP_sum (f : Q5) (w : Nat → Int) (c : Nat → Rat) {n : Nat} (hn : 4 ≤ n) :
    sm (fun m => atY (mkP f (w m)) (yOf c n) m) (n + 4) = smQ f c n - sm (fun m => (w m : Rat) * (yOf c n (m + 4) * yOf c n (m + 4))) (n + 4) := by
  have h := form_sum c hn f.a00 f.a01 f.a02 f.a03 f.a04 f.a11 f.a12 f.a13 f.a14 f.a22 f.a23 f.a24 f.a33 f.a34 f.a44
  unfold smQ
  rw [← h, Rat.sub_eq_add_neg, ← sm_neg, ← sm_add]
  refine sm_congr fun m _ => ?_
  unfold atY mkP Q5.at
  simp only [Rat.intCast_sub]
  grind
theorem formP {n : Nat} (hn : 4 ≤ n) {f : Q5} {w : Nat → Int} (h : runQ (fsF (fun j => mkP f (w j)) (n + 4) 0) sV0 = true) (c : Nat → Rat) :
    sm (fun m => (w m : Rat) * (yOf c n (m + 4) * yOf c n (m + 4))) (n + 4) ≤ smQ f c n := by
  have r := run_nn h (yOf c n) (fun i hi => yOf_lo c n hi) (fun i hi => by rw [fsF_len]; exact yOf_hi c n (by omega))
  rw [sumQ_sm] at r
  simp only [Nat.zero_add] at r
  rw [mkP_sum f w c hn] at r
  grind
/-- weights for the first two orders -/
def w2I (n : Nat) (j : Nat) : Int := if j < n then 1099511627776 * (3 * wD n 0 j + 4 * wD n 1 j + wD n 2 j : Nat) + 131941395333120 else 0
def f1p : Q5 := ⟨18446744073709551616, 18446744073709551616, 0, 0, 0, 18446744073709551616, 0, 0, 0, 0, 0, 0, 0, 0, 0⟩
def f1m : Q5 := ⟨18446744073709551616, -18446744073709551616, 0, 0, 0, 18446744073709551616, 0, 0, 0, 0, 0, 0, 0, 0, 0⟩
def f2m : Q5 := ⟨18446744073709551616, 0, -18446744073709551616, 0, 0, 0, 0, 0, 0, 18446744073709551616, 0, 0, 0, 0, 0⟩
/-- (1, -h, 1) at h + s without the square of s -/
def f2h (G d : Int) : Q5 := ⟨18446744073709551616, -(18014398509481984 * (G + d)), 18446744073709551616, 0, 0, 17592186044416 * (G * G + 2 * d * G), -(18014398509481984 * (G + d)), 0, 0, 18446744073709551616, 0, 0, 0, 0, 0⟩
theorem cert1p : runQ (fsF (fun j => mkP f1p (w2I 29 j)) 33 0) sV0 = true := by decide +kernel
theorem cert1m : runQ (fsF (fun j => mkP f1m (w2I 29 j)) 33 0) sV0 = true := by decide +kernel
theorem cert2m : runQ (fsF (fun j => mkP f2m (w2I 29 j)) 33 0) sV0 = true := by decide +kernel
def okH (G d : Int) : Bool := runQ (fsF (fun j => mkP (f2h G d) (w2I 29 j)) 33 0) sV0 && runQ (fsF (fun j => mkP (f2h G (-d)) (w2I 29 j)) 33 0) sV0
def rgH : List (Int × Int) := [(-2048, 16), (-2016, 16), (-1984, 16), (-1952, 16), (-1920, 16), (-1888, 16), (-1856, 16), (-1792, 64), (-1664, 64), (-1536, 64), (-1408, 64), (-1280, 64), (-1152, 64), (-1024, 64), (-896, 64), (-768, 64), (-640, 64), (-512, 64), (-384, 64), (-256, 64), (-128, 64), (0, 64), (128, 64), (256, 64), (384, 64), (512, 64), (640, 64), (768, 64), (896, 64), (1024, 64), (1152, 64), (1280, 64), (1408, 64), (1536, 64), (1664, 64), (1792, 64), (1856, 16), (1888, 16), (1920, 16), (1952, 16), (1984, 16), (2016, 16), (2048, 16)]
theorem certH : (rgH.all fun p => okH p.1 p.2) = true := by decide +kernel

end Go.Proofs.Ytpdnjcblkjjegaa

set_option linter.unusedVariables false
set_option linter.unusedSimpArgs false
namespace Go.Proofs.Ytpdnjcblkjjegaa
open Go.Aw

/-! ### the error of a delayed sum, by weights -/
def pp (c : Nat → Rat) (g i : Nat) : Rat := (c i * c i + c (i + g) * c (i + g)) / 2
theorem pp_nn (c : Nat → Rat) (g i : Nat) : 0 ≤ pp c g i := by
  have h1 := mulself_nn (c i)
  have h2 := mulself_nn (c (i + g))
  unfold pp; grind
theorem pp_ge (c : Nat → Rat) (g i : Nat) : c i * c (i + g) ≤ pp c g i ∧ -pp c g i ≤ c i * c (i + g) := by
  have h1 := mulself_nn (c i - c (i + g))
  have h2 := mulself_nn (c i + c (i + g))
  unfold pp
  constructor <;> grind
/-- what the rounded sum is off by, in units u -/
def qq (p : Nat → Rat) : Nat → Rat
  | 0 => 0
  | m + 1 => qq p m + p m + sm p (m + 1)
theorem qq_w (p : Nat → Rat) : ∀ m, qq p m = sm (fun j => ((m - j + 1 : Nat) : Rat) * p j) m
  | 0 => rfl
  | m + 1 => by
    rw [qq, qq_w p m, sm, sm]
    have e : sm (fun j => ((m + 1 - j + 1 : Nat) : Rat) * p j) m = sm (fun j => ((m - j + 1 : Nat) : Rat) * p j + p j) m := by
      refine sm_congr fun j hj => ?_
      rw [show m + 1 - j + 1 = (m - j + 1) + 1 by omega]
      push_cast; grind
    rw [e, sm_add]
    have e2 : ((m + 1 - m + 1 : Nat) : Rat) = 2 := by rw [show m + 1 - m + 1 = 2 by omega]; rfl
    rw [e2]; grind
theorem qq_wD (c : Nat → Rat) {n g : Nat} (hg : g ≤ n) : 2 * qq (pp c g) (n - g) ≤ sm (fun j => (wD n g j : Rat) * (c j * c j)) n := by
  rw [qq_w, ← sm_mul]
  have e1 : sm (fun j => 2 * (((n - g - j + 1 : Nat) : Rat) * pp c g j)) (n - g) = sm (fun j => ((n - g - j + 1 : Nat) : Rat) * (c j * c j)) (n - g) + sm (fun j => ((n - (j + g) + 1 : Nat) : Rat) * (c (j + g) * c (j + g))) (n - g) := by
    rw [← sm_add]
    refine sm_congr fun j hj => ?_
    rw [show n - (j + g) + 1 = n - g - j + 1 by omega]
    unfold pp; grind
  have e2 : sm (fun j => (wD n g j : Rat) * (c j * c j)) n = sm (fun j => (if j + g < n then ((n - g - j + 1 : Nat) : Rat) else 0) * (c j * c j)) n + sm (fun j => ((n - j + 1 : Nat) : Rat) * (c j * c j)) n := by
    rw [← sm_add]
    refine sm_congr fun j hj => ?_
    unfold wD
    split <;> push_cast <;> grind
  have e3 := sm_split (fun j => (if j + g < n then ((n - g - j + 1 : Nat) : Rat) else 0) * (c j * c j)) (n - g) g
  have e4 := sm_split (fun j => ((n - j + 1 : Nat) : Rat) * (c j * c j)) g (n - g)
  rw [show n - g + g = n by omega] at e3
  rw [show g + (n - g) = n by omega] at e4
  have e5 : sm (fun j => (if j + g < n then ((n - g - j + 1 : Nat) : Rat) else 0) * (c j * c j)) (n - g) = sm (fun j => ((n - g - j + 1 : Nat) : Rat) * (c j * c j)) (n - g) :=
    sm_congr fun j hj => by rw [if_pos (by omega)]
  have hN : ∀ k : Nat, (0 : Rat) ≤ (k : Rat) := fun k => by exact_mod_cast Nat.zero_le k
  have e6 : 0 ≤ sm (fun i => (if i + (n - g) + g < n then ((n - g - (i + (n - g)) + 1 : Nat) : Rat) else 0) * (c (i + (n - g)) * c (i + (n - g)))) g := sm_nn fun i hi => by
    rw [if_neg (by omega)]; grind
  have e7 : 0 ≤ sm (fun j => ((n - j + 1 : Nat) : Rat) * (c j * c j)) g := sm_nn fun j hj => Rat.mul_nonneg (hN _) (mulself_nn _)
  grind

end Go.Proofs.Ytpdnjcblkjjegaa

