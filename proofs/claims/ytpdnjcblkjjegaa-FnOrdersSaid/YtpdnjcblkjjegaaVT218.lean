import Derived.Test.YtpdnjcblkjjegaaVT209
import Derived.Test.YtpdnjcblkjjegaaVT211
import Derived.Test.YtpdnjcblkjjegaaVT217
set_option linter.unusedVariables false
set_option linter.unusedSimpArgs false
namespace Go.Proofs.Ytpdnjcblkjjegaa
open Go.Aw

/-! ### the form of a series without sum, with more weight -/
theorem certA100 : (rgA29.all fun p => okA 29 100 p.1 p.2) = true := by decide +kernel

end Go.Proofs.Ytpdnjcblkjjegaa

set_option linter.unusedVariables false
set_option linter.unusedSimpArgs false
namespace Go.Proofs.Ytpdnjcblkjjegaa
open Go.Aw

/-! ### a series with nearly no sum -/
/-- the last number changed so that the sum is nought -/
def ctl (c : Nat → Rat) (n : Nat) (S : Rat) (i : Nat) : Rat := if i + 1 = n then c i - S else c i
def dlt (n : Nat) (S : Rat) (i : Nat) : Rat := if i + 1 = n then -S else 0
theorem ctl_dlt (c : Nat → Rat) (n : Nat) (S : Rat) (i : Nat) : ctl c n S i = c i + dlt n S i := by
  unfold ctl dlt; split <;> grind
theorem dlt_sum (n : Nat) (S : Rat) {N : Nat} (h1 : 1 ≤ n) (hN : n ≤ N) : sm (dlt n S) N = -S := by
  have h := sm_split (dlt n S) n (N - n)
  rw [show n + (N - n) = N by omega] at h
  rw [h, sm_zero (n := N - n) (fun i hi => by unfold dlt; rw [if_neg (by omega)])]
  obtain ⟨m, rfl⟩ : ∃ m, n = m + 1 := ⟨n - 1, by omega⟩
  rw [sm, sm_zero (n := m) (fun i hi => by unfold dlt; rw [if_neg (by omega)])]
  unfold dlt
  rw [if_pos rfl]; grind
theorem dlt_sq (n : Nat) (S : Rat) {N : Nat} (h1 : 1 ≤ n) (hN : n ≤ N) : dk (dlt n S) N 0 = S * S := by
  rw [dk0]
  have h := sm_split (fun j => dlt n S j * dlt n S j) n (N - n)
  rw [show n + (N - n) = N by omega] at h
  rw [h, sm_zero (n := N - n) (fun i hi => by unfold dlt; rw [if_neg (by omega)]; simp)]
  obtain ⟨m, rfl⟩ : ∃ m, n = m + 1 := ⟨n - 1, by omega⟩
  rw [sm, sm_zero (n := m) (fun i hi => by unfold dlt; rw [if_neg (by omega)]; simp)]
  unfold dlt
  rw [if_pos rfl]; grind
theorem dlt_dk (n : Nat) (S : Rat) (N : Nat) {k : Nat} (hk : 1 ≤ k) : dk (dlt n S) N k = 0 := by
  unfold dk
  refine sm_zero fun i _ => ?_
  unfold dlt
  by_cases h : i + 1 = n
  · rw [if_neg (c := i + k + 1 = n) (by omega)]; simp
  · rw [if_neg (c := i + 1 = n) h]; simp
theorem yOf_add (c d : Nat → Rat) (n i : Nat) : yOf (fun i => c i + d i) n i = yOf c n i + yOf d n i := by
  unfold yOf; split <;> grind
theorem eY_add (c d : Nat → Rat) (n : Nat) (g : Rat) (m : Nat) : eY (fun i => c i + d i) n g m = eY c n g m + eY d n g m := by
  unfold eY; rw [yOf_add, yOf_add, yOf_add, yOf_add]; grind
theorem vF_add_le (c d : Nat → Rat) {N : Nat} (hN : 4 ≤ N) (g : Rat) : vF (fun i => c i + d i) N g ≤ 2 * vF c N g + 2 * vF d N g := by
  have h1 := vF_sq (fun i => c i + d i) hN g
  have h2 := vF_sq c hN g
  have h3 := vF_sq d hN g
  have h4 : sm (fun m => eY (fun i => c i + d i) N g m * eY (fun i => c i + d i) N g m) (N + 4) ≤ sm (fun m => 2 * (eY c N g m * eY c N g m) + 2 * (eY d N g m * eY d N g m)) (N + 4) := sm_le fun m _ => by
    rw [eY_add]
    have := mulself_nn (eY c N g m - eY d N g m)
    grind
  rw [sm_add, sm_mul, sm_mul] at h4
  grind
theorem pos_rgA29 : (rgA29.all fun p => decide (0 < p.2)) = true := by decide
theorem chA29 : chn (-1025) rgA29 3199 = true := by decide
/-- the weights of the certificates are at most this -/
theorem wI_top : (rgA29.all fun p => (List.range 29).all fun m => decide (wI 29 (p.1.natAbs + p.2) 100 m ≤ 2500 * 1099511627776)) = true := by decide +kernel
theorem formA {c : Nat → Rat} {n : Nat} (hz : ∀ i, n ≤ i → c i = 0) (h1n : 1 ≤ n) (hN : n ≤ 29) (hS : Ab (sm c n) (351 * uu)) (hb : ∀ i, i < n → Ab (c i) (801 / 100)) (hD : 1 / 33 ≤ dk c n 0)
    {g A : Rat} (h1 : -1025 < 1024 * g) (h2 : 1024 * g ≤ 3083) (hA : Ab g A) (hA2 : A = g ∨ A = -g) : Form c n g A := by
  obtain ⟨p, pm, p1, p2⟩ := chn_cov chA29 (1024 * g) h1 (Rat.le_trans h2 (cast_le (show (3083 : Int) ≤ 3199 by decide)))
  have hok := List.all_eq_true.1 certA100 p pm
  have hd := of_decide_eq_true (List.all_eq_true.1 pos_rgA29 p pm)
  have htop := List.all_eq_true.1 wI_top p pm
  unfold okA at hok
  simp only [Bool.and_eq_true] at hok
  obtain ⟨r1, r2⟩ := rng_of p1 p2
  generalize hSv : sm c n = S at *
  have hc0 : sm (ctl c n S) 29 = 0 := by
    have e : ctl c n S = fun i => c i + dlt n S i := funext (ctl_dlt c n S)
    rw [e, sm_add]
    have e2 : sm (fun i => dlt n S i) 29 = -S := dlt_sum n S h1n hN
    have e3 : sm (fun i => c i) 29 = S := by
      have h := sm_split c n (29 - n)
      rw [show n + (29 - n) = 29 by omega] at h
      show sm c 29 = S
      rw [h, sm_zero (n := 29 - n) (fun i hi => hz _ (by omega)), hSv]; grind
    rw [e2, e3]; grind
  have hf := form_rangeA (n := 29) (by decide) (by decide) hd (b := fun _ => 0) hok.1 hok.2 (ctl c n S) hc0 g r1 r2 (d01 _ (by decide))
  rw [box0, yw_sum (ctl c n S) (fun m => ((2 * wI 29 (p.1.natAbs + p.2) 100 m : Int) : Rat))] at hf
  have hw := wI_sum hz hN (base := 100) hA (gb_of p1 p2 hA2 (by omega))
  have hv : vF (ctl c n S) 29 g ≤ 2 * vF c n g + 2 * ((1 + g * g) * (S * S)) := by
    have e : ctl c n S = fun i => c i + dlt n S i := funext (ctl_dlt c n S)
    have := vF_add_le c (dlt n S) (N := 29) (by decide) g
    rw [← e, vF_pad hz hN] at this
    have e2 : vF (dlt n S) 29 g = (1 + g * g) * (S * S) := by
      unfold vF
      rw [dlt_sq n S h1n hN, dlt_dk n S 29 (by omega), dlt_dk n S 29 (by omega), dlt_dk n S 29 (by omega)]
      grind
    rw [e2] at this
    exact this
  -- the weights of the changed series
  have hlow : 2 * sm (fun m => (wI 29 (p.1.natAbs + p.2) 100 m : Rat) * (c m * c m)) 29 - 2 * (1099511627776 * (9 / 10)) ≤ sm (fun m => ((2 * wI 29 (p.1.natAbs + p.2) 100 m : Int) : Rat) * (ctl c n S m * ctl c n S m)) 29 := by
    have hs : sm (fun m => 2 * ((wI 29 (p.1.natAbs + p.2) 100 m : Rat) * (c m * c m)) + (2 * (1099511627776 * (9 / 10)) / (351 * uu)) * (if m + 1 = n then -(351 * uu) else 0)) 29 ≤ sm (fun m => ((2 * wI 29 (p.1.natAbs + p.2) 100 m : Int) : Rat) * (ctl c n S m * ctl c n S m)) 29 := sm_le fun m hm => by
      rw [Rat.intCast_mul]
      have e2 : ((2 : Int) : Rat) = 2 := rfl
      rw [e2]
      unfold ctl
      by_cases h : m + 1 = n
      · rw [if_pos h, if_pos h]
        have ht := of_decide_eq_true (List.all_eq_true.1 htop m (List.mem_range.2 hm))
        have ht2 := cast_le ht
        have ht0 : (0 : Rat) ≤ (wI 29 (p.1.natAbs + p.2) 100 m : Rat) := by
          have := wI_ge (n := 29) (N := 29) hm (Nat.le_refl _) (Gb := p.1.natAbs + p.2) (base := 100) (g := 0) (A := 0) ⟨by grind, by grind⟩ (by have := cast_le (show 0 ≤ (p.1.natAbs : Int) + p.2 by omega); rw [show ((0 : Int) : Rat) = 0 from rfl] at this; grind)
          have n0 := natN (wD 29 0 m)
          have n3 := natN (wD 29 3 m)
          rw [show ((100 : Int) : Rat) = 100 from rfl] at this
          grind
        rw [Rat.intCast_mul, show ((2500 : Int) : Rat) = 2500 from rfl, show ((1099511627776 : Int) : Rat) = 1099511627776 from rfl] at ht2
        have hcb := hb m (by omega)
        have hcs := (hcb.mul hS).1
        have hss := mulself_nn S
        generalize (wI 29 (p.1.natAbs + p.2) 100 m : Rat) = w at *
        generalize c m = x at *
        have q1 := Rat.mul_nonneg ht0 (show 0 ≤ 801 / 100 * (351 * uu) - x * S by grind)
        have q2 := Rat.mul_nonneg ht0 hss
        have e3 : (2 * (1099511627776 * (9 / 10)) / (351 * uu)) * -(351 * uu) = -(2 * (1099511627776 * (9 / 10))) := by unfold uu; decide +kernel
        rw [e3]
        unfold uu at q1
        grind
      · rw [if_neg h, if_neg h]; grind
    rw [sm_add, sm_mul, sm_mul] at hs
    have e := dlt_sum n (351 * uu) h1n hN
    have e' : sm (fun m => if m + 1 = n then -(351 * uu) else 0) 29 = -(351 * uu) := e
    rw [e'] at hs
    have e3 : (2 * (1099511627776 * (9 / 10)) / (351 * uu)) * -(351 * uu) = -(2 * (1099511627776 * (9 / 10))) := by unfold uu; decide +kernel
    rw [e3] at hs
    grind
  have hSS : S * S ≤ (351 * uu) * (351 * uu) := (hS.mul hS).1
  have hgg : g * g ≤ 907 / 100 := by
    have := Rat.mul_nonneg (show 0 ≤ 3083 - 1024 * g by grind) (show 0 ≤ 1024 * g + 3083 by grind)
    grind
  have hg0 := mulself_nn g
  have hS0 := mulself_nn S
  have hgs : (1 + g * g) * (S * S) ≤ 1007 / 100 * ((351 * uu) * (351 * uu)) := by
    have q1 := Rat.mul_nonneg (show 0 ≤ 1007 / 100 - (1 + g * g) by grind) hS0
    have q2 := Rat.mul_nonneg (show (0 : Rat) ≤ 1007 / 100 by decide +kernel) (show 0 ≤ (351 * uu) * (351 * uu) - S * S by grind)
    grind
  generalize (1 + g * g) * (S * S) = T at *
  generalize sm (fun m => ((2 * wI 29 (p.1.natAbs + p.2) 100 m : Int) : Rat) * (ctl c n S m * ctl c n S m)) 29 = Lc at *
  generalize sm (fun m => (wI 29 (p.1.natAbs + p.2) 100 m : Rat) * (c m * c m)) 29 = L at *
  rw [show ((100 : Int) : Rat) = 100 from rfl] at hw
  rw [show ((16 : Int) : Rat) = 16 from rfl] at hf
  unfold Form
  unfold uu at *
  generalize wS c n g A = Wt at *
  generalize vF (ctl c n S) 29 g = V1 at *
  generalize vF c n g = V0 at *
  generalize dk c n 0 = D at *
  grind

end Go.Proofs.Ytpdnjcblkjjegaa

set_option linter.unusedVariables false
set_option linter.unusedSimpArgs false
namespace Go.Proofs.Ytpdnjcblkjjegaa
open Go.Aw

/-! ### series of 25 to 29 numbers, g near 3 -/
theorem pos_rgB : (rgB.all fun p => decide (p.2 = 4)) = true := by decide
theorem chB : chn 2965 rgB 3077 = true := by decide
theorem alt_ge {c : Nat → Rat} {n : Nat} (hz : ∀ i, n ≤ i → c i = 0) : ∀ i, n ≤ i → alt c i = 0 := fun i hi => by
  rw [alt_sgx, hz i hi]; simp
theorem alt_sq (c : Nat → Rat) (i : Nat) : alt c i * alt c i = c i * c i := by
  rw [alt_sgx]
  have := sgx_sq i
  have : sgx i * c i * (sgx i * c i) = (sgx i * sgx i) * (c i * c i) := by grind
  rw [this, sgx_sq]; grind
theorem wW_alt (c : Nat → Rat) (n k : Nat) : wW (alt c) n k = wW c n k := sm_congr fun j _ => by rw [alt_sq]
theorem wS_alt (c : Nat → Rat) (n : Nat) (g A : Rat) : wS (alt c) n g A = wS c n g A := by
  unfold wS; rw [wW_alt, wW_alt, wW_alt, wW_alt]
/-- neighbours differ by at most eight -/
theorem box_le {a : List Nat} {k : Nat → Int} (h : Ser a k) (m : Nat) :
    (yOf (alt (rc (offL a))) a.length (m + 4) + yOf (alt (rc (offL a))) a.length (m + 3)) * (yOf (alt (rc (offL a))) a.length (m + 4) + yOf (alt (rc (offL a))) a.length (m + 3)) ≤ 65 := by
  have hl := h.l1
  have hb : Ab (yOf (alt (rc (offL a))) a.length (m + 4) + yOf (alt (rc (offL a))) a.length (m + 3)) (806 / 100) := by
    have ha : ∀ i, i < a.length → Ab (alt (rc (offL a)) i) (801 / 100) := fun i hi => by
      have := (off_ex h i hi).2.2.1
      unfold alt
      split
      · exact this
      · exact this.neg
    rcases Nat.lt_or_ge m a.length with h1 | h1
    · rw [yOf_in _ h1]
      rcases Nat.eq_zero_or_pos m with h2 | h2
      · subst h2
        rw [yOf_lo _ _ (show 0 + 3 < 4 by omega), Rat.add_zero]
        exact (ha 0 h1).mono (by decide +kernel)
      · obtain ⟨j, rfl⟩ : ∃ j, m = j + 1 := ⟨m - 1, by omega⟩
        rw [show j + 1 + 3 = j + 4 by omega, yOf_in _ (show j < a.length by omega), alt_sgx, alt_sgx, sgx_S]
        have x1 := (off_ex h (j + 1) h1).2.1
        have x0 := (off_ex h j (by omega)).2.1
        have hd : tru k a.length (j + 1) - tru k a.length j = ((k (j + 1) - k j : Int) : Rat) / 4 := by
          unfold tru
          have hn1 : (1 : Rat) ≤ (a.length : Rat) := by exact_mod_cast h.l1
          simp only [Rat.intCast_sub, Rat.intCast_mul, Rat.intCast_natCast]
          generalize (smI k a.length : Rat) = K
          generalize (a.length : Rat) = n at *
          rw [Rat.div_def, Rat.div_def]
          have : (4 * n) * (4 * n)⁻¹ = 1 := Rat.mul_inv_cancel _ (by grind)
          grind
        have r1 := h.rg (j + 1) h1
        have r0 := h.rg j (by omega)
        have c1 := cast_le (show k (j + 1) - k j ≤ 32 by omega)
        have c2 := cast_le (show -32 ≤ k (j + 1) - k j by omega)
        rw [show ((32 : Int) : Rat) = 32 from rfl] at c1
        rw [show ((-32 : Int) : Rat) = -32 from rfl] at c2
        have hdd : Ab (rc (offL a) (j + 1) - rc (offL a) j) (806 / 100) := by
          obtain ⟨a1, a2⟩ := x1
          obtain ⟨b1, b2⟩ := x0
          unfold uu at *
          constructor <;> grind
        have e : -sgx j * rc (offL a) (j + 1) + sgx j * rc (offL a) j = -sgx j * (rc (offL a) (j + 1) - rc (offL a) j) := by grind
        rw [e]
        unfold sgx
        split
        · have := hdd.neg; refine this.eq (by grind)
        · refine hdd.eq (by grind)
    · rw [yOf_hi _ _ (show a.length + 4 ≤ m + 4 by omega)]
      rcases Nat.eq_or_lt_of_le h1 with h2 | h2
      · obtain ⟨j, rfl⟩ : ∃ j, m = j + 1 := ⟨m - 1, by omega⟩
        rw [show j + 1 + 3 = j + 4 by omega, yOf_in _ (show j < a.length by omega)]
        refine ((ha j (by omega)).mono (N := 806 / 100) (by decide +kernel)).eq (by grind)
      · rw [yOf_hi _ _ (show a.length + 4 ≤ m + 3 by omega)]
        exact ⟨by decide +kernel, by decide +kernel⟩
  have := (hb.mul hb).1
  grind
theorem formB {a : List Nat} {k : Nat → Int} (h : Ser a k) (hn : 25 ≤ a.length) (h0 : rv .f32 (dlF (offL a) 0) ≠ 0) {P al : Int} {bx : List Nat} (hP2 : P ≤ (1024 * (a.length : Int)) * (1024 * (a.length : Int)))
    (hal : 0 ≤ al ∧ al ≤ 16)
    (hF : (rgB.all fun p => (List.range (a.length - 1)).all fun (i : Nat) => decide (P ≤ pathC a.length p.1 ((i : Int) + 1) 6 0 0 0)) = true)
    (hB : (rgB.all fun p => okB a.length al bx 60 p.1 p.2) = true)
    (hnum : 65 * sm (fun m => (bI bx m : Rat)) (a.length + 4) * ((4096 * (a.length : Rat)) * (4096 * (a.length : Rat))) ≤ 2305843009213693952 * (16 - (al : Rat)) * (99 / 100 * (P : Rat) - (4096 * (a.length : Rat)) * (4096 * (a.length : Rat)) * (1 / 40000000)))
    {g A : Rat} (h1 : 2965 < 1024 * g) (h2 : 1024 * g ≤ 3077) (hA : Ab g A) (hA2 : A = g ∨ A = -g) : Form (alt (rc (offL a))) a.length g A := by
  obtain ⟨p, pm, p1, p2⟩ := chn_cov chB (1024 * g) h1 h2
  have hok := List.all_eq_true.1 hB p pm
  have hd := of_decide_eq_true (List.all_eq_true.1 pos_rgB p pm)
  unfold okB at hok
  simp only [Bool.and_eq_true] at hok
  obtain ⟨r1, r2⟩ := rng_of p1 p2
  have hz : ∀ i, a.length ≤ i → alt (rc (offL a)) i = 0 := alt_ge (fun i hi => rc_ge hi)
  have hf := form_range (n := a.length) (by omega) hal.1 (by omega) hok.1 hok.2 (alt (rc (offL a))) g r1 r2 (d01 _ (by omega))
  rw [yw_sum (alt (rc (offL a))) (fun m => (wI a.length (p.1.natAbs + p.2) 60 m : Rat))] at hf
  have hw := wI_sum hz (Nat.le_refl _) (base := 60) hA (gb_of p1 p2 hA2 (by omega))
  rw [hd, Rat.intCast_sub, show ((4 : Int) : Rat) = 4 from rfl] at p1
  rw [hd, Rat.intCast_add, show ((4 : Int) : Rat) = 4 from rfl] at p2
  have hfr := front h hn h0 hP2 hF pm (g := g) (by grind) (by grind) (by constructor <;> grind)
  have hbox : sm (fun m => (bI bx m : Rat) * ((yOf (alt (rc (offL a))) a.length (m + 4) + yOf (alt (rc (offL a))) a.length (m + 3)) * (yOf (alt (rc (offL a))) a.length (m + 4) + yOf (alt (rc (offL a))) a.length (m + 3)))) (a.length + 4) ≤ 65 * sm (fun m => (bI bx m : Rat)) (a.length + 4) := by
    rw [← sm_mul]
    refine sm_le fun m _ => ?_
    have hb0 : (0 : Rat) ≤ (bI bx m : Rat) := by
      have := cast_le (show 0 ≤ bI bx m by unfold bI; omega)
      exact this
    have := Rat.mul_le_mul_of_nonneg_left (box_le h m) hb0
    grind
  generalize sm (fun m => (bI bx m : Rat) * ((yOf (alt (rc (offL a))) a.length (m + 4) + yOf (alt (rc (offL a))) a.length (m + 3)) * (yOf (alt (rc (offL a))) a.length (m + 4) + yOf (alt (rc (offL a))) a.length (m + 3)))) (a.length + 4) = X at *
  generalize sm (fun m => (bI bx m : Rat)) (a.length + 4) = B at *
  generalize sm (fun m => (wI a.length (p.1.natAbs + p.2) 60 m : Rat) * (alt (rc (offL a)) m * alt (rc (offL a)) m)) a.length = L at *
  rw [show ((60 : Int) : Rat) = 60 from rfl] at hw
  have hnR : (0 : Rat) < (a.length : Rat) := by exact_mod_cast (show 0 < a.length by omega)
  have hN := Rat.mul_pos (Rat.mul_pos (show (0 : Rat) < 4096 by decide +kernel) hnR) (Rat.mul_pos (show (0 : Rat) < 4096 by decide +kernel) hnR)
  generalize (4096 * (a.length : Rat)) * (4096 * (a.length : Rat)) = N at *
  have hal2 := cast_le hal.2
  rw [show ((16 : Int) : Rat) = 16 from rfl] at hal2
  unfold Form uu
  generalize wS (alt (rc (offL a))) a.length g A = Wt at *
  generalize vF (alt (rc (offL a))) a.length g = V at *
  generalize dk (alt (rc (offL a))) a.length 0 = D at *
  generalize (al : Rat) = α at *
  generalize (P : Rat) = Pr at *
  -- the box is paid for by the ends
  have hpay : 65 * B ≤ 2305843009213693952 * (16 - α) * V := by
    refine Rat.le_of_mul_le_mul_right (c := N) ?_ hN
    refine Rat.le_trans hnum ?_
    have := Rat.mul_le_mul_of_nonneg_left (show 99 / 100 * Pr - N * (1 / 40000000) ≤ N * V by grind) (show 0 ≤ 2305843009213693952 * (16 - α) by grind)
    grind
  grind
theorem formB29 {a : List Nat} {k : Nat → Int} (h : Ser a k) (hn : 25 ≤ a.length) (h0 : rv .f32 (dlF (offL a) 0) ≠ 0) {g A : Rat} (h1 : 2965 < 1024 * g) (h2 : 1024 * g ≤ 3077) (hA : Ab g A) (hA2 : A = g ∨ A = -g) : Form (alt (rc (offL a))) a.length g A := by
  have hl := h.l29
  have hc : a.length = 25 ∨ a.length = 26 ∨ a.length = 27 ∨ a.length = 28 ∨ a.length = 29 := by omega
  rcases hc with e | e | e | e | e
  · exact formB h hn h0 (P := 107479040) (al := 5) (bx := bx25) (by rw [e]; decide) (by decide) (by rw [e]; exact certF25) (by rw [e]; exact certB25) (by rw [e]; decide +kernel) h1 h2 hA hA2
  · exact formB h hn h0 (P := 97110720) (al := 3) (bx := bx26) (by rw [e]; decide) (by decide) (by rw [e]; exact certF26) (by rw [e]; exact certB26) (by rw [e]; decide +kernel) h1 h2 hA hA2
  · exact formB h hn h0 (P := 76441190) (al := 3) (bx := bx27) (by rw [e]; decide) (by decide) (by rw [e]; exact certF27) (by rw [e]; exact certB27) (by rw [e]; decide +kernel) h1 h2 hA hA2
  · exact formB h hn h0 (P := 89607110) (al := 4) (bx := bx28) (by rw [e]; decide) (by decide) (by rw [e]; exact certF28) (by rw [e]; exact certB28) (by rw [e]; decide +kernel) h1 h2 hA hA2
  · exact formB h hn h0 (P := 135805272) (al := 5) (bx := bx29) (by rw [e]; decide) (by decide) (by rw [e]; exact certF29) (by rw [e]; exact certB29) (by rw [e]; decide +kernel) h1 h2 hA hA2

/-! ### both forms of a series of quarters -/
theorem form_alt {a : List Nat} {k : Nat → Int} (h : Ser a k) (h0 : rv .f32 (dlF (offL a) 0) ≠ 0) {g A : Rat} (h1 : -1025 < 1024 * g) (h2 : 1024 * g ≤ 3077) (hA : Ab g A) (hA2 : A = g ∨ A = -g) : Form (alt (rc (offL a))) a.length g A := by
  have hz : ∀ i, a.length ≤ i → alt (rc (offL a)) i = 0 := alt_ge (fun i hi => rc_ge hi)
  rcases Nat.lt_or_ge 24 a.length with h3 | h3
  · rcases Rat.le_total (a := 1024 * g) (b := 2971) with h4 | h4
    · exact formS29 hz h.l29 h1 h4 hA hA2
    · exact formB29 h (by omega) h0 (by grind) h2 hA hA2
  · exact formS24 hz h3 h1 (by grind) hA hA2
theorem form_own {a : List Nat} {k : Nat → Int} (h : Ser a k) (h0 : rv .f32 (dlF (offL a) 0) ≠ 0) {g A : Rat} (h1 : -1025 < 1024 * g) (h2 : 1024 * g ≤ 3077) (hA : Ab g A) (hA2 : A = g ∨ A = -g) : Form (rc (offL a)) a.length g A :=
  formA (fun i hi => rc_ge hi) h.l1 h.l29 (off_sum h) (fun i hi => (off_ex h i hi).2.2.1) (by rw [dk0]; exact off_D0 h h0) h1 (by grind) hA hA2

end Go.Proofs.Ytpdnjcblkjjegaa

