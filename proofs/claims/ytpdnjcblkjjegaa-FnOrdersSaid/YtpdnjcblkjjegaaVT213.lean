import Derived.Test.YtpdnjcblkjjegaaVT209
import Derived.Test.YtpdnjcblkjjegaaVT1a
import Derived.Test.YtpdnjcblkjjegaaVT64
set_option linter.unusedVariables false
set_option linter.unusedSimpArgs false
namespace Go.Proofs.Ytpdnjcblkjjegaa
open Go.Aw

def uu : Rat := 1 / 16777216
theorem eh_u : eh .f32 = uu := by decide +kernel
theorem ep_u : ep .f32 = 2 * uu := by decide +kernel
theorem top_big : (100000000 : Rat) ≤ topR .f32 := by decide +kernel
theorem uU_small : uU .f32 ≤ 1 / 1000000000000000000000000000000 := by decide +kernel
abbrev rc (a : List Nat) (i : Nat) : Rat := rv .f32 (a.getD i 0)
structure Sm (a : List Nat) : Prop where
  fin : ∀ i, i < a.length → Fnt .f32 (a.getD i 0)
  up : ∀ i, i < a.length → rc a i ≤ 16
  dn : ∀ i, i < a.length → -16 ≤ rc a i
  len : a.length ≤ 29
theorem mul_bd {x y : Rat} (h1 : x ≤ 16) (h2 : -16 ≤ x) (h3 : y ≤ 16) (h4 : -16 ≤ y) : x * y ≤ 256 ∧ -256 ≤ x * y := by
  have a1 := Rat.mul_nonneg (show 0 ≤ 16 - x by grind) (show 0 ≤ 16 - y by grind)
  have a2 := Rat.mul_nonneg (show 0 ≤ 16 + x by grind) (show 0 ≤ 16 + y by grind)
  have a3 := Rat.mul_nonneg (show 0 ≤ 16 - x by grind) (show 0 ≤ 16 + y by grind)
  have a4 := Rat.mul_nonneg (show 0 ≤ 16 + x by grind) (show 0 ≤ 16 - y by grind)
  constructor <;> grind
theorem prod_fin {a : List Nat} (h : Sm a) {i j : Nat} (hi : i < a.length) (hj : j < a.length) : Fnt .f32 (fop .mul .f32 (a.getD i 0) (a.getD j 0)) ∧ rv .f32 (fop .mul .f32 (a.getD i 0) (a.getD j 0)) ≤ 257 ∧ -257 ≤ rv .f32 (fop .mul .f32 (a.getD i 0) (a.getD j 0)) := by
  obtain ⟨b1, b2⟩ := mul_bd (h.up i hi) (h.dn i hi) (h.up j hj) (h.dn j hj)
  have := (mul_rds (h.fin i hi) (h.fin j hj)).err (M := 256) b1 b2 (by have := top_big; grind)
  have hu := uU_small
  rw [ep_u] at this
  unfold uu at this
  refine ⟨this.1, ?_, ?_⟩ <;> grind
theorem dl_fin {a : List Nat} (h : Sm a) {g : Nat} : ∀ {m : Nat}, m + g ≤ a.length → Fnt .f32 (dlN a g m) ∧ rv .f32 (dlN a g m) ≤ 520 * (m : Rat) ∧ -(520 * (m : Rat)) ≤ rv .f32 (dlN a g m)
  | 0, _ => by
    have e : rv .f32 0 = 0 := by decide +kernel
    refine ⟨by show Fnt .f32 0; unfold Fnt; decide +kernel, ?_, ?_⟩
    · show rv .f32 0 ≤ _; rw [e]; simp
    · show _ ≤ rv .f32 0; rw [e]; simp
  | m + 1, hm => by
    obtain ⟨f1, f2, f3⟩ := dl_fin h (m := m) (g := g) (by omega)
    obtain ⟨p1, p2, p3⟩ := prod_fin h (i := m) (j := m + g) (by omega) (by omega)
    rw [dlN, if_pos (by omega)]
    have hmR : (m : Rat) ≤ 29 := by have := h.len; exact_mod_cast (show m ≤ 29 by omega)
    have hm0 : (0 : Rat) ≤ (m : Rat) := by exact_mod_cast Nat.zero_le m
    have := (add_rds f1 p1).err (M := 520 * (m : Rat) + 257) (by grind) (by grind) (by have := top_big; grind)
    have hu := uU_small
    rw [ep_u] at this
    unfold uu at this
    have e : ((m + 1 : Nat) : Rat) = (m : Rat) + 1 := by push_cast; rfl
    rw [e]
    refine ⟨this.1, ?_, ?_⟩ <;> grind
theorem dl_err {a : List Nat} (h : Sm a) {g : Nat} : ∀ {m : Nat}, m + g ≤ a.length →
    rv .f32 (dlN a g m) ≤ sm (fun i => rc a i * rc a (i + g)) m + (1 + 2 * (m : Rat) * uu) * (uu * qq (pp (rc a) g) m + (m : Rat) * uU .f32) ∧
    sm (fun i => rc a i * rc a (i + g)) m ≤ rv .f32 (dlN a g m) + (1 + 2 * (m : Rat) * uu) * (uu * qq (pp (rc a) g) m + (m : Rat) * uU .f32)
  | 0, _ => by
    have e : rv .f32 0 = 0 := by decide +kernel
    show rv .f32 0 ≤ 0 + _ ∧ 0 ≤ rv .f32 0 + _
    rw [e]
    show (0 : Rat) ≤ 0 + (1 + 2 * ((0 : Nat) : Rat) * uu) * (uu * 0 + ((0 : Nat) : Rat) * uU .f32) ∧ (0 : Rat) ≤ 0 + (1 + 2 * ((0 : Nat) : Rat) * uu) * (uu * 0 + ((0 : Nat) : Rat) * uU .f32)
    have e0 : ((0 : Nat) : Rat) = 0 := rfl
    rw [e0]
    constructor <;> grind
  | m + 1, hm => by
    obtain ⟨f1, f2⟩ := dl_err h (m := m) (g := g) (by omega)
    have g1 := (dl_fin h (m := m) (g := g) (by omega)).1
    have g2 := (dl_fin h (m := m + 1) (g := g) (by omega)).1
    have p1 := (prod_fin h (i := m) (j := m + g) (by omega) (by omega)).1
    rw [dlN, if_pos (by omega)] at g2 ⊢
    have hmR : (m : Rat) ≤ 29 := by have := h.len; exact_mod_cast (show m ≤ 29 by omega)
    have hm0 : (0 : Rat) ≤ (m : Rat) := by exact_mod_cast Nat.zero_le m
    obtain ⟨q1, q2⟩ := pp_ge (rc a) g m
    obtain ⟨t1, t2⟩ := mul_half (h.fin m (by omega)) (h.fin (m + g) (by omega)) p1 (pp (rc a) g m) q1 q2
    have hP : ∀ k, sm (fun i => rc a i * rc a (i + g)) k ≤ sm (pp (rc a) g) k ∧ -sm (pp (rc a) g) k ≤ sm (fun i => rc a i * rc a (i + g)) k := fun k => by
      refine ⟨sm_le fun i _ => (pp_ge (rc a) g i).1, ?_⟩
      rw [← sm_neg]
      exact sm_le fun i _ => (pp_ge (rc a) g i).2
    have hPm := hP m
    have hQ0 : 0 ≤ qq (pp (rc a) g) m := by
      rw [qq_w]; exact sm_nn fun j _ => Rat.mul_nonneg (by exact_mod_cast Nat.zero_le _) (pp_nn _ _ _)
    have hP0 : 0 ≤ sm (pp (rc a) g) m := sm_nn fun j _ => pp_nn _ _ _
    have hp0 := pp_nn (rc a) g m
    have hu0 : (0 : Rat) < uU .f32 := uU_pos _
    rw [eh_u] at t1 t2
    rw [show sm (fun i => rc a i * rc a (i + g)) (m + 1) = sm (fun i => rc a i * rc a (i + g)) m + rc a m * rc a (m + g) from rfl]
    rw [show qq (pp (rc a) g) (m + 1) = qq (pp (rc a) g) m + pp (rc a) g m + (sm (pp (rc a) g) m + pp (rc a) g m) from rfl]
    have e1 : ((m + 1 : Nat) : Rat) = (m : Rat) + 1 := by push_cast; rfl
    rw [e1]
    have hE0 : 0 ≤ (1 + 2 * (m : Rat) * uu) * (uu * qq (pp (rc a) g) m + (m : Rat) * uU .f32) := by
      refine Rat.mul_nonneg ?_ ?_
      · have := Rat.mul_nonneg hm0 (show (0 : Rat) ≤ uu by decide +kernel); grind
      · have h1 := Rat.mul_nonneg (show (0 : Rat) ≤ uu by decide +kernel) hQ0
        have h2 := Rat.mul_nonneg hm0 (Rat.le_of_lt hu0)
        grind
    have s := add_half g1 p1 g2 (sm (pp (rc a) g) m + pp (rc a) g m + (1 + 2 * (m : Rat) * uu) * (uu * qq (pp (rc a) g) m + (m : Rat) * uU .f32) + uu * pp (rc a) g m + uU .f32) (by grind) (by grind)
    obtain ⟨s1, s2⟩ := s
    rw [eh_u] at s1 s2
    have key : (1 + 2 * (m : Rat) * uu) * (uu * qq (pp (rc a) g) m + (m : Rat) * uU .f32) + (uu * pp (rc a) g m + uU .f32)
      + uu * (sm (pp (rc a) g) m + pp (rc a) g m + (1 + 2 * (m : Rat) * uu) * (uu * qq (pp (rc a) g) m + (m : Rat) * uU .f32) + uu * pp (rc a) g m + uU .f32)
      ≤ (1 + 2 * ((m : Rat) + 1) * uu) * (uu * (qq (pp (rc a) g) m + pp (rc a) g m + (sm (pp (rc a) g) m + pp (rc a) g m)) + ((m : Rat) + 1) * uU .f32) := by
      generalize qq (pp (rc a) g) m = Q at *
      generalize pp (rc a) g m = p at *
      generalize sm (pp (rc a) g) m = P at *
      generalize uU .f32 = η at *
      generalize (m : Rat) = M at *
      have a1 := Rat.mul_nonneg hm0 hQ0
      have a2 := Rat.mul_nonneg hm0 hp0
      have a3 := Rat.mul_nonneg hm0 hP0
      have a4 := Rat.mul_nonneg hm0 (Rat.le_of_lt hu0)
      have a5 := Rat.mul_nonneg (Rat.mul_nonneg hm0 (show 0 ≤ 29 - M by grind)) (Rat.le_of_lt hu0)
      have a6 := Rat.mul_nonneg (show 0 ≤ 29 - M by grind) hQ0
      have a7 := Rat.mul_nonneg (show 0 ≤ 29 - M by grind) (Rat.le_of_lt hu0)
      have a8 := Rat.mul_nonneg hm0 a4
      unfold uu
      grind
    constructor <;> grind

end Go.Proofs.Ytpdnjcblkjjegaa

set_option linter.unusedVariables false
set_option linter.unusedSimpArgs false
namespace Go.Proofs.Ytpdnjcblkjjegaa
open Go.Aw

/-! ### the third term: from the form to the sizes of the two differences -/
def Ab (x M : Rat) : Prop := x ≤ M ∧ -M ≤ x
theorem Ab.mono {x M N : Rat} (h : Ab x M) (hM : M ≤ N) : Ab x N := by obtain ⟨a, b⟩ := h; constructor <;> grind
theorem Ab.add {x y M N : Rat} (h : Ab x M) (g : Ab y N) : Ab (x + y) (M + N) := by obtain ⟨a, b⟩ := h; obtain ⟨c, d⟩ := g; constructor <;> grind
theorem Ab.sub {x y M N : Rat} (h : Ab x M) (g : Ab y N) : Ab (x - y) (M + N) := by obtain ⟨a, b⟩ := h; obtain ⟨c, d⟩ := g; constructor <;> grind
theorem Ab.neg {x M : Rat} (h : Ab x M) : Ab (-x) M := by obtain ⟨a, b⟩ := h; constructor <;> grind
theorem Ab.mul {x y M N : Rat} (h : Ab x M) (g : Ab y N) : Ab (x * y) (M * N) := by
  obtain ⟨a, b⟩ := h; obtain ⟨c, d⟩ := g
  have a1 := Rat.mul_nonneg (show 0 ≤ M - x by grind) (show 0 ≤ N - y by grind)
  have a2 := Rat.mul_nonneg (show 0 ≤ M + x by grind) (show 0 ≤ N + y by grind)
  have a3 := Rat.mul_nonneg (show 0 ≤ M - x by grind) (show 0 ≤ N + y by grind)
  have a4 := Rat.mul_nonneg (show 0 ≤ M + x by grind) (show 0 ≤ N - y by grind)
  constructor <;> grind
theorem Ab.nn {x M : Rat} (h : Ab x M) : 0 ≤ M := by obtain ⟨a, b⟩ := h; grind
theorem Ab.eq {x y M : Rat} (h : Ab x M) (e : y = x) : Ab y M := by rw [e]; exact h
theorem uu_pos : 0 < uu := by decide +kernel

theorem rho_bd {r1 r2 q x2 p0 : Rat} (h1 : Ab r1 1) (h2 : Ab r2 1) (hx : Ab x2 1) (hq : Ab (q - r1 * r1) (101 / 100 * uu)) (hx2 : Ab (x2 * (1 - q) - (r2 - q)) (301 / 100 * uu)) (hp : Ab (p0 - (r1 - x2 * r1)) (301 / 100 * uu)) :
    Ab (p0 - x2) (301 / 100) ∧ Ab ((p0 - x2) * ((r1 - r2) - (p0 - x2) * (1 - r1))) (22 * uu) := by
  generalize hep : p0 - (r1 - x2 * r1) = ep at hp
  obtain rfl : p0 = r1 - x2 * r1 + ep := by grind
  have hex : Ab (x2 * (1 - r1 * r1) - (r2 - r1 * r1)) (503 / 100 * uu) := by
    have := hx2.add (hq.mul (hx.sub (show Ab 1 1 by constructor <;> grind)))
    refine (this.mono ?_).eq ?_
    · unfold uu; grind
    · grind
  generalize he : x2 * (1 - r1 * r1) - (r2 - r1 * r1) = ex at hex
  have hG : Ab (r1 - x2 * r1 + ep - x2) (301 / 100) := by
    have := ((h1.sub (hx.mul h1)).add hp).sub hx
    obtain ⟨a1, a2⟩ := h1
    obtain ⟨b1, b2⟩ := hx
    obtain ⟨c1, c2⟩ := hp
    have d1 := Rat.mul_nonneg (show 0 ≤ 1 - x2 by grind) (show 0 ≤ 1 + r1 by grind)
    have d2 := Rat.mul_nonneg (show 0 ≤ 1 + x2 by grind) (show 0 ≤ 1 + r1 by grind)
    unfold uu at c1 c2
    constructor <;> grind
  refine ⟨hG, ?_⟩
  have e1 : (r1 - x2 * r1 + ep - x2) * (1 - r1) = (r1 - r2) - ex + ep * (1 - r1) := by rw [← he]; grind
  have h1r : Ab (1 - r1) 2 := ((show Ab 1 1 by constructor <;> grind).sub h1).mono (by grind)
  have hG1 : Ab ((r1 - x2 * r1 + ep - x2) * (1 - r1)) (201 / 100) := by
    rw [e1]
    refine (((h1.sub h2).sub hex).add (hp.mul h1r)).mono ?_
    unfold uu; grind
  generalize r1 - x2 * r1 + ep - x2 = G at *
  have e2 : G * (r1 - r2 - G * (1 - r1)) = G * ex - ep * (G * (1 - r1)) := by
    have : r1 - r2 = G * (1 - r1) + ex - ep * (1 - r1) := by rw [e1]; grind
    rw [this]; grind
  rw [e2]
  refine ((hG.mul hex).sub (hp.mul hG1)).mono ?_
  unfold uu; grind

def gmm : Rat := (1 + 58 * uu) * uu / 2
def tau : Rat := 1 / 10000000000000000000000000000
theorem sq_nn' (x : Rat) : 0 ≤ x * x := mulself_nn x
theorem form_err {D0 D1 D2 D3 E0 E1 E2 E3 W0 W1 W2 W3 G A : Rat} (e0 : Ab (E0 - D0) (gmm * W0 + tau)) (e1 : Ab (E1 - D1) (gmm * W1 + tau)) (e2 : Ab (E2 - D2) (gmm * W2 + tau)) (e3 : Ab (E3 - D3) (gmm * W3 + tau))
    (hA : Ab G A) :
    (1 + G * G) * D0 - (2 * G + G * G) * D1 + 2 * G * D2 - D3 ≤ (1 + G * G) * E0 - (2 * G + G * G) * E1 + 2 * G * E2 - E3
      + gmm * ((1 + G * G) * W0 + (2 * A + G * G) * W1 + 2 * A * W2 + W3) + (2 + 2 * (G * G) + 4 * A) * tau := by
  have g0 := sq_nn' G
  have hGG : Ab (G * G) (G * G) := by constructor <;> grind
  have h1 : Ab (2 * G + G * G) (2 * A + G * G) := by obtain ⟨a, b⟩ := hA; constructor <;> grind
  have h2 : Ab (2 * G) (2 * A) := by obtain ⟨a, b⟩ := hA; constructor <;> grind
  have h0 : Ab (1 + G * G) (1 + G * G) := by constructor <;> grind
  have m0 := (h0.mul e0).2
  have m1 := (h1.mul e1).1
  have m2 := (h2.mul e2).2
  have m3 := e3.1
  generalize G * G = S at *
  grind
theorem r_err {E0 E1 E2 E3 r1 r2 r3 G A : Rat} (q1 : Ab (r1 * E0 - E1) (1001 / 1000 * uu * E0)) (q2 : Ab (r2 * E0 - E2) (1001 / 1000 * uu * E0)) (q3 : Ab (r3 * E0 - E3) (1001 / 1000 * uu * E0)) (hA : Ab G A) :
    (1 + G * G) * E0 - (2 * G + G * G) * E1 + 2 * G * E2 - E3 ≤ E0 * ((1 + G * G) - (2 * G + G * G) * r1 + 2 * G * r2 - r3) + (1 + G * G + 4 * A) * (1001 / 1000 * uu * E0) := by
  have g0 := sq_nn' G
  have h1 : Ab (2 * G + G * G) (2 * A + G * G) := by obtain ⟨a, b⟩ := hA; constructor <;> grind
  have h2 : Ab (2 * G) (2 * A) := by obtain ⟨a, b⟩ := hA; constructor <;> grind
  have m1 := (h1.mul q1).1
  have m2 := (h2.mul q2).2
  have m3 := q3.1
  generalize G * G = S at *
  generalize 1001 / 1000 * uu * E0 = η at *
  grind
theorem below_ge {D0 D1 D2 D3 E0 E1 E2 E3 W0 W1 W2 W3 r1 r2 r3 q x2 p0 bs su A : Rat} (hD : 1 / 33 ≤ D0)
    (e0 : Ab (E0 - D0) (gmm * W0 + tau)) (e1 : Ab (E1 - D1) (gmm * W1 + tau)) (e2 : Ab (E2 - D2) (gmm * W2 + tau)) (e3 : Ab (E3 - D3) (gmm * W3 + tau))
    (w0 : 0 ≤ W0 ∧ W0 ≤ 60 * D0) (w1 : 0 ≤ W1 ∧ W1 ≤ 60 * D0) (w2 : 0 ≤ W2 ∧ W2 ≤ 60 * D0) (w3 : 0 ≤ W3 ∧ W3 ≤ 60 * D0)
    (q1 : Ab (r1 * E0 - E1) (1001 / 1000 * uu * E0)) (q2 : Ab (r2 * E0 - E2) (1001 / 1000 * uu * E0)) (q3 : Ab (r3 * E0 - E3) (1001 / 1000 * uu * E0))
    (h1 : Ab r1 1) (h2 : Ab r2 1) (hx : Ab x2 1) (hq : Ab (q - r1 * r1) (101 / 100 * uu)) (hx2 : Ab (x2 * (1 - q) - (r2 - q)) (301 / 100 * uu)) (hp : Ab (p0 - (r1 - x2 * r1)) (301 / 100 * uu))
    (hb : Ab (bs - (p0 * r1 + x2 * r2)) (611 / 100 * uu)) (hs : Ab (su - (p0 * r2 + x2 * r1)) (611 / 100 * uu))
    (hA : Ab (p0 - x2) A) (hA3 : A ≤ 301 / 100)
    (hV : uu * ((1 + (p0 - x2) * (p0 - x2)) * W0 + (2 * A + (p0 - x2) * (p0 - x2)) * W1 + 2 * A * W2 + W3) + 120 * uu * D0 ≤ 2 * ((1 + (p0 - x2) * (p0 - x2)) * D0 - (2 * (p0 - x2) + (p0 - x2) * (p0 - x2)) * D1 + 2 * (p0 - x2) * D2 - D3)) :
    r3 - su ≤ 1 - bs := by
  obtain ⟨hG, hr⟩ := rho_bd h1 h2 hx hq hx2 hp
  have f1 := form_err e0 e1 e2 e3 hA
  have f2 := r_err q1 q2 q3 hA
  have hGG : (p0 - x2) * (p0 - x2) ≤ 907 / 100 := by
    have := (hG.mul hG).1; grind
  have g0 := sq_nn' (p0 - x2)
  have hA0 := hA.nn
  have key : E0 * (1 - r3 - (p0 - x2) * (r1 - r2)) = E0 * ((1 + (p0 - x2) * (p0 - x2)) - (2 * (p0 - x2) + (p0 - x2) * (p0 - x2)) * r1 + 2 * (p0 - x2) * r2 - r3) + E0 * ((p0 - x2) * ((r1 - r2) - (p0 - x2) * (1 - r1))) := by grind
  have fin : 1 - bs - (r3 - su) = 1 - r3 - (p0 - x2) * (r1 - r2) - (bs - (p0 * r1 + x2 * r2)) + (su - (p0 * r2 + x2 * r1)) := by grind
  have hup := uu_pos
  have hE1 : E0 ≤ 100001 / 100000 * D0 := by
    have := e0.1
    unfold gmm uu tau at this
    grind
  have hE2 : 99999 / 100000 * D0 ≤ E0 := by
    have := e0.2
    unfold gmm uu tau at this
    grind
  generalize (p0 - x2) * (r1 - r2 - (p0 - x2) * (1 - r1)) = ρ at *
  generalize bs - (p0 * r1 + x2 * r2) = βe at *
  generalize su - (p0 * r2 + x2 * r1) = σe at *
  generalize hGv : p0 - x2 = G at *
  generalize hS : G * G = S at *
  -- the weights are small
  have k1 : (1 + S) * W0 + (2 * A + S) * W1 + 2 * A * W2 + W3 ≤ 2000 * D0 := by
    have a0 := Rat.mul_nonneg (show 0 ≤ 1008 / 100 - (1 + S) by grind) w0.1
    have a1 := Rat.mul_nonneg (show 0 ≤ 1510 / 100 - (2 * A + S) by grind) w1.1
    have a2 := Rat.mul_nonneg (show 0 ≤ 603 / 100 - 2 * A by grind) w2.1
    grind
  have k2 : 0 ≤ (1 + S) * W0 + (2 * A + S) * W1 + 2 * A * W2 + W3 := by
    have a0 := Rat.mul_nonneg (show 0 ≤ 1 + S by grind) w0.1
    have a1 := Rat.mul_nonneg (show 0 ≤ 2 * A + S by grind) w1.1
    have a2 := Rat.mul_nonneg (show 0 ≤ 2 * A by grind) w2.1
    grind
  generalize (1 + S) * W0 + (2 * A + S) * W1 + 2 * A * W2 + W3 = Wt at *
  generalize (1 + S) * D0 - (2 * G + S) * D1 + 2 * G * D2 - D3 = Vd at *
  generalize (1 + S) * E0 - (2 * G + S) * E1 + 2 * G * E2 - E3 = Ve at *
  generalize hVr : 1 + S - (2 * G + S) * r1 + 2 * G * r2 - r3 = Vr at *
  have hEp : 0 < E0 := by grind
  have k3 : (2 + 2 * S + 4 * A) * tau ≤ 1 / 100000000000 * D0 := by
    unfold tau; grind
  have k4 : (1 + S + 4 * A) * (1001 / 1000 * uu * E0) ≤ 225 / 10 * uu * E0 := by
    have := Rat.mul_nonneg (show 0 ≤ 2212 / 100 - (1 + S + 4 * A) by grind) (show 0 ≤ 1001 / 1000 * uu * E0 from by unfold uu; grind)
    unfold uu at *
    grind
  have k5 : gmm * Wt ≤ uu / 2 * Wt + 1 / 1000000000 * D0 := by
    unfold gmm uu; grind
  have k6 : 37 * uu * E0 ≤ E0 * Vr := by
    generalize E0 * Vr = T at *
    unfold uu at *
    grind
  have k7 : E0 * (-(22 * uu)) ≤ E0 * ρ := Rat.mul_le_mul_of_nonneg_left hr.2 (by grind)
  have k8 : E0 * (1 - bs - (r3 - su)) = E0 * Vr + E0 * ρ - E0 * βe + E0 * σe := by rw [fin]; grind
  have k9 := Rat.mul_le_mul_of_nonneg_left hb.1 (show 0 ≤ E0 by grind)
  have k10 := Rat.mul_le_mul_of_nonneg_left hs.2 (show 0 ≤ E0 by grind)
  have k11 : E0 * 0 ≤ E0 * (1 - bs - (r3 - su)) := by
    rw [k8]
    unfold uu at *
    grind
  have := Rat.le_of_mul_le_mul_left k11 hEp
  grind

end Go.Proofs.Ytpdnjcblkjjegaa

