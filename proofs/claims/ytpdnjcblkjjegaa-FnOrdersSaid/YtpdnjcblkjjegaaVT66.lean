import Derived.Test.YtpdnjcblkjjegaaVT219
import Derived.Test.YtpdnjcblkjjegaaVT64
set_option linter.unusedVariables false
set_option linter.unusedSimpArgs false
namespace Go.Proofs.Ytpdnjcblkjjegaa
open Go.Aw

/-! ### the first three lone terms are no more than one -/
theorem opB {k : BinOp} {c : Nat} {x M : Rat} (hr : RdS .f32 x c) (hh : HfS .f32 (uU .f32) x c) (hx : Ab x M) (hM : 1 / 1000000 ≤ M) (hM2 : M ≤ 1000) : Fnt .f32 c ∧ Ab (rv .f32 c - x) (1001 / 1000 * uu * M) := by
  have ht := top_big
  have hf : Fnt .f32 c := hr.fin (by have := hx.1; grind) (by have := hx.2; grind)
  refine ⟨hf, ?_⟩
  obtain ⟨h1, h2⟩ := hh hf M hx.1 hx.2
  rw [eh_u] at h1 h2
  have hu := uU_small
  unfold uu at *
  constructor <;> grind
theorem HfS.lift {c : Nat} {x : Rat} (h : HfS .f32 0 x c) : HfS .f32 (uU .f32) x c := fun hf M h1 h2 => by
  obtain ⟨a, b⟩ := h hf M h1 h2
  have := uU_pos .f32
  constructor <;> grind
theorem addB2 {a b : Nat} {M : Rat} (ha : Fnt .f32 a) (hb : Fnt .f32 b) (h : Ab (rv .f32 a + rv .f32 b) M) (hM : 1 / 1000000 ≤ M) (hM2 : M ≤ 1000) : Fnt .f32 (fop .add .f32 a b) ∧ Ab (rv .f32 (fop .add .f32 a b) - (rv .f32 a + rv .f32 b)) (1001 / 1000 * uu * M) :=
  opB (k := .add) (add_rds ha hb) (add_half ha hb).lift h hM hM2
theorem subB2 {a b : Nat} {M : Rat} (ha : Fnt .f32 a) (hb : Fnt .f32 b) (h : Ab (rv .f32 a - rv .f32 b) M) (hM : 1 / 1000000 ≤ M) (hM2 : M ≤ 1000) : Fnt .f32 (fop .sub .f32 a b) ∧ Ab (rv .f32 (fop .sub .f32 a b) - (rv .f32 a - rv .f32 b)) (1001 / 1000 * uu * M) :=
  opB (k := .sub) (sub_rds ha hb) (sub_half ha hb).lift h hM hM2
theorem mulB2 {a b : Nat} {M : Rat} (ha : Fnt .f32 a) (hb : Fnt .f32 b) (h : Ab (rv .f32 a * rv .f32 b) M) (hM : 1 / 1000000 ≤ M) (hM2 : M ≤ 1000) : Fnt .f32 (fop .mul .f32 a b) ∧ Ab (rv .f32 (fop .mul .f32 a b) - rv .f32 a * rv .f32 b) (1001 / 1000 * uu * M) :=
  opB (k := .mul) (mul_rds ha hb) (mul_half ha hb) h hM hM2
theorem fnt0 : Fnt .f32 0 := by unfold Fnt; decide +kernel
theorem fnt1 : Fnt .f32 1065353216 := by unfold Fnt; decide +kernel
theorem rv1 : rv .f32 1065353216 = 1 := by decide +kernel
theorem add0 {b : Nat} {M : Rat} (hb : Fnt .f32 b) (h : Ab (rv .f32 b) M) (hM2 : M ≤ 1000) : Fnt .f32 (fop .add .f32 0 b) ∧ rv .f32 (fop .add .f32 0 b) = rv .f32 b := by
  have hr := add_rds fnt0 hb
  have ht := top_big
  obtain ⟨h1, h2⟩ := h
  have hf : Fnt .f32 (fop .add .f32 0 b) := hr.fin (by rw [rv0]; grind) (by rw [rv0]; grind)
  exact ⟨hf, hr.exact hb hf (by rw [rv0]; grind)⟩
theorem sub0 {b : Nat} {M : Rat} (hb : Fnt .f32 b) (h : Ab (rv .f32 b) M) (hM2 : M ≤ 1000) : Fnt .f32 (fop .sub .f32 b 0) ∧ rv .f32 (fop .sub .f32 b 0) = rv .f32 b := by
  have hr := sub_rds hb fnt0
  have ht := top_big
  obtain ⟨h1, h2⟩ := h
  have hf : Fnt .f32 (fop .sub .f32 b 0) := hr.fin (by rw [rv0]; grind) (by rw [rv0]; grind)
  exact ⟨hf, hr.exact hb hf (by rw [rv0]; grind)⟩
theorem one0 : fop .sub .f32 1065353216 0 = 1065353216 := by decide +kernel
/-- a quotient held against its parts -/
theorem quoR {a b : Nat} {M : Rat} (ha : Fnt .f32 a) (hb : Fnt .f32 b) (hb0 : 0 < rv .f32 b) (h : Ab (rv .f32 a) (M * rv .f32 b)) (hM : 1 ≤ M) (hM2 : M ≤ 10005 / 10000) : Fnt .f32 (fop .quo .f32 a b) ∧ Ab (rv .f32 (fop .quo .f32 a b) * rv .f32 b - rv .f32 a) (1001 / 1000 * uu * rv .f32 b) := by
  have hz : rv .f32 a / rv .f32 b * rv .f32 b = rv .f32 a := Rat.div_mul_cancel (by grind)
  generalize rv .f32 a / rv .f32 b = z at hz
  have hz1 : Ab z M := by
    obtain ⟨h1, h2⟩ := h
    constructor
    · refine Rat.le_of_mul_le_mul_right (c := rv .f32 b) ?_ hb0; rw [hz]; exact h1
    · refine Rat.le_of_mul_le_mul_right (c := rv .f32 b) ?_ hb0; rw [hz]; grind
  obtain ⟨xx, hq, hqx⟩ := quo_rds ha hb (by grind) hz
  have ht := top_big
  rw [ep_u] at hqx
  have hxx : Ab xx 2 := by
    obtain ⟨b1, b2⟩ := hz1
    unfold uu at hqx
    constructor <;> grind
  have hf : Fnt .f32 (fop .quo .f32 a b) := hq.fin (by have := hxx.1; grind) (by have := hxx.2; grind)
  refine ⟨hf, ?_⟩
  obtain ⟨h1, h2⟩ := quo_half ha hb (by grind) hz hf M hz1.1 hz1.2
  rw [eh_u] at h1 h2
  have hu := uU_small
  have e : rv .f32 (fop .quo .f32 a b) * rv .f32 b - rv .f32 a = (rv .f32 (fop .quo .f32 a b) - z) * rv .f32 b := by rw [← hz]; grind
  rw [e]
  have h3 : Ab (rv .f32 (fop .quo .f32 a b) - z) (1001 / 1000 * uu) := by
    unfold uu at *
    constructor <;> grind
  obtain ⟨g1, g2⟩ := h3
  have g3 := Rat.mul_le_mul_of_nonneg_right g1 (Rat.le_of_lt hb0)
  have g4 := Rat.mul_le_mul_of_nonneg_right g2 (Rat.le_of_lt hb0)
  constructor <;> grind

/-- the likes of a series -/
def likR (a : List Nat) (j : Nat) : Nat := fop .quo .f32 (dlF (offL a) j) (dlF (offL a) 0)
structure LkI (a : List Nat) : Prop where
  p0 : 0 < rv .f32 (dlF (offL a) 0)
  f1 : Fnt .f32 (likR a 1)
  f2 : Fnt .f32 (likR a 2)
  f3 : Fnt .f32 (likR a 3)
  b1 : Ab (rv .f32 (likR a 1)) 1
  b2 : Ab (rv .f32 (likR a 2)) 1
  q1 : Ab (rv .f32 (likR a 1) * rv .f32 (dlF (offL a) 0) - rv .f32 (dlF (offL a) 1)) (1001 / 1000 * uu * rv .f32 (dlF (offL a) 0))
  q2 : Ab (rv .f32 (likR a 2) * rv .f32 (dlF (offL a) 0) - rv .f32 (dlF (offL a) 2)) (1001 / 1000 * uu * rv .f32 (dlF (offL a) 0))
  q3 : Ab (rv .f32 (likR a 3) * rv .f32 (dlF (offL a) 0) - rv .f32 (dlF (offL a) 3)) (1001 / 1000 * uu * rv .f32 (dlF (offL a) 0))
  lo : 54 * uu ≤ 1 - 2 * (rv .f32 (likR a 1) * rv .f32 (likR a 1)) + rv .f32 (likR a 2)
theorem d03 (c : Nat → Rat) {n : Nat} (hn : 4 ≤ n) : Ab (dk c n 3) (dk c n 0) := by
  have key : ∀ s : Rat, s * s = 1 → 0 ≤ 2 * dk c n 0 + 2 * s * dk c n 3 := fun s hs => by
    have h := form_sum c hn 1 0 0 s 0 0 0 0 0 0 0 0 1 0 0
    have h2 : 0 ≤ sm (fun m => (yOf c n (m + 4) + s * yOf c n (m + 1)) * (yOf c n (m + 4) + s * yOf c n (m + 1))) (n + 4) := sm_nn fun m _ => mulself_nn _
    have e : sm (fun m => (yOf c n (m + 4) + s * yOf c n (m + 1)) * (yOf c n (m + 4) + s * yOf c n (m + 1))) (n + 4) = (1 + 0 + 0 + 1 + 0) * dk c n 0 + 2 * (0 + 0 + 0 + 0) * dk c n 1 + 2 * (0 + 0 + 0) * dk c n 2 + 2 * (s + 0) * dk c n 3 + 2 * 0 * dk c n 4 := by
      rw [← h]
      refine sm_congr fun m _ => ?_
      have : (yOf c n (m + 4) + s * yOf c n (m + 1)) * (yOf c n (m + 4) + s * yOf c n (m + 1)) = yOf c n (m + 4) * yOf c n (m + 4) + 2 * s * (yOf c n (m + 4) * yOf c n (m + 1)) + (s * s) * (yOf c n (m + 1) * yOf c n (m + 1)) := by grind
      rw [this, hs]
      grind
    rw [e] at h2
    grind
  have k1 := key 1 (by decide +kernel)
  have k2 := key (-1) (by decide +kernel)
  constructor <;> grind
theorem likes_ok {a : List Nat} {k : Nat → Int} (h : Ser a k) (h4 : 4 ≤ a.length) (h0 : fcmp .gtr .f32 (dlF (offL a) 0) 0 = true) : LkI a := by
  obtain ⟨f0, e0⟩ := E_err h (j := 0) (by omega)
  obtain ⟨f1, e1⟩ := E_err h (j := 1) (by omega)
  obtain ⟨f2, e2⟩ := E_err h (j := 2) (by omega)
  obtain ⟨f3, e3⟩ := E_err h (j := 3) (by omega)
  have p0 : 0 < rv .f32 (dlF (offL a) 0) := by
    have := gtr_rv f0 fnt0
    rw [h0, rv0] at this
    exact of_decide_eq_true this.symm
  have hD : 1 / 33 ≤ dk (rc (offL a)) a.length 0 := by rw [dk0]; exact off_D0 h (by grind)
  have hz : ∀ i, a.length ≤ i → rc (offL a) i = 0 := fun i hi => rc_ge hi
  have w0 := W_le h (rc (offL a)) 0
  have w1 := W_le h (rc (offL a)) 1
  have w2 := W_le h (rc (offL a)) 2
  have w3 := W_le h (rc (offL a)) 3
  have c1p := form2 hz h.l29 cert1p
  have c1m := form2 hz h.l29 cert1m
  have c2m := form2 hz h.l29 cert2m
  have ch := form_h hz h.l29 (t := 0) ⟨by decide +kernel, by decide +kernel⟩
  have hh : ∀ t : Rat, Ab t 2 → _ := fun t ht => form_h hz h.l29 (t := t) ht
  have c3 := d03 (rc (offL a)) h4
  unfold smQ f1p at c1p
  unfold smQ f1m at c1m
  unfold smQ f2m at c2m
  rw [dk_pad hz h.l29, dk_pad hz h.l29, dk_pad hz h.l29, dk_pad hz h.l29, dk_pad hz h.l29] at c1p c1m c2m
  simp only [Rat.intCast_neg, Rat.intCast_ofNat] at c1p c1m c2m
  unfold likR at *
  generalize hE0 : rv .f32 (dlF (offL a) 0) = E0 at *
  generalize hE1 : rv .f32 (dlF (offL a) 1) = E1 at *
  generalize hE2 : rv .f32 (dlF (offL a) 2) = E2 at *
  generalize hE3 : rv .f32 (dlF (offL a) 3) = E3 at *
  generalize dk (rc (offL a)) a.length 0 = D0 at *
  generalize dk (rc (offL a)) a.length 1 = D1 at *
  generalize dk (rc (offL a)) a.length 2 = D2 at *
  generalize dk (rc (offL a)) a.length 3 = D3 at *
  generalize dk (rc (offL a)) a.length 4 = D4 at *
  generalize wW (rc (offL a)) a.length 0 = W0 at *
  generalize wW (rc (offL a)) a.length 1 = W1 at *
  generalize wW (rc (offL a)) a.length 2 = W2 at *
  generalize wW (rc (offL a)) a.length 3 = W3 at *
  have a1 : Ab E1 (1 * E0) := by
    obtain ⟨x0, y0⟩ := e0
    obtain ⟨x1, y1⟩ := e1
    unfold gmm uu tau at *
    constructor <;> grind
  have a2 : Ab E2 (1 * E0) := by
    obtain ⟨x0, y0⟩ := e0
    obtain ⟨x1, y1⟩ := e2
    unfold gmm uu tau at *
    constructor <;> grind
  have a3 : Ab E3 (10001 / 10000 * E0) := by
    obtain ⟨x0, y0⟩ := e0
    obtain ⟨x1, y1⟩ := e3
    obtain ⟨x2, y2⟩ := c3
    unfold gmm uu tau at *
    constructor <;> grind
  obtain ⟨g1, q1⟩ := quoR (M := 1) f1 f0 (by rw [hE0]; exact p0) (by rw [hE0, hE1]; exact a1) (by decide +kernel) (by decide +kernel)
  obtain ⟨g2, q2⟩ := quoR (M := 1) f2 f0 (by rw [hE0]; exact p0) (by rw [hE0, hE2]; exact a2) (by decide +kernel) (by decide +kernel)
  obtain ⟨g3, q3⟩ := quoR (M := 10001 / 10000) f3 f0 (by rw [hE0]; exact p0) (by rw [hE0, hE3]; exact a3) (by decide +kernel) (by decide +kernel)
  have b1 := (quo_ab f1 f0 (by rw [hE0]; exact p0) (by rw [hE0, hE1]; exact a1.mono (by grind))).2
  have b2 := (quo_ab f2 f0 (by rw [hE0]; exact p0) (by rw [hE0, hE2]; exact a2.mono (by grind))).2
  rw [hE0, hE1] at q1
  rw [hE0, hE2] at q2
  rw [hE0, hE3] at q3
  refine ⟨by rw [hE0]; exact p0, g1, g2, g3, b1, b2, by unfold likR; rw [hE0, hE1]; exact q1, by unfold likR; rw [hE0, hE2]; exact q2, by unfold likR; rw [hE0, hE3]; exact q3, ?_⟩
  unfold likR
  generalize rv .f32 (fop .quo .f32 (dlF (offL a) 1) (dlF (offL a) 0)) = r1 at *
  generalize rv .f32 (fop .quo .f32 (dlF (offL a) 2) (dlF (offL a) 0)) = r2 at *
  have hf := hh (2 * r1) ⟨by have := b1.1; grind, by have := b1.2; grind⟩
  have hrr : Ab (r1 * r1) 1 := (b1.mul b1).mono (by grind)
  have hr0 := mulself_nn r1
  -- in the rounded sums
  have m0 : (2 + 4 * (r1 * r1)) * D0 ≤ (2 + 4 * (r1 * r1)) * E0 + 6 * (gmm * W0 + tau) := by
    have := Rat.mul_le_mul_of_nonneg_left e0.2 (show 0 ≤ 2 + 4 * (r1 * r1) by grind)
    have q := Rat.mul_nonneg (show 0 ≤ 6 - (2 + 4 * (r1 * r1)) by have := hrr.1; grind) (show 0 ≤ gmm * W0 + tau from e0.nn)
    grind
  have m1 : -(8 * r1 * D1) ≤ -(8 * r1 * E1) + 8 * (gmm * W1 + tau) := by
    have := (b1.mul e1).1
    grind
  have m2 : 2 * D2 ≤ 2 * E2 + 2 * (gmm * W2 + tau) := by have := e2.2; grind
  have n1 : -(8 * r1 * E1) ≤ -(8 * (r1 * r1) * E0) + 8 * (1001 / 1000 * uu * E0) := by
    have := (b1.mul q1).1
    grind
  have n2 : 2 * E2 ≤ 2 * r2 * E0 + 2 * (1001 / 1000 * uu * E0) := by have := q2.2; grind
  have hE : E0 ≤ 100001 / 100000 * D0 := by
    have := e0.1
    unfold gmm uu tau at *
    grind
  have key : 54 * uu * E0 ≤ (1 - 2 * (r1 * r1) + r2) * E0 := by
    have e4 : 4 * (2 * r1) * D1 = 8 * r1 * D1 := by grind
    have e5 : 2 * r1 * (2 * r1) = 4 * (r1 * r1) := by grind
    rw [e4, e5] at hf
    have e6 : (1 - 2 * (r1 * r1) + r2) * E0 = E0 - 2 * (r1 * r1) * E0 + r2 * E0 := by grind
    rw [e6]
    generalize (r1 * r1) = S at *
    have e7 : (2 + 4 * S) * E0 = 2 * E0 + 4 * (S * E0) := by grind
    have e8 : 8 * S * E0 = 8 * (S * E0) := by grind
    have e9 : 2 * S * E0 = 2 * (S * E0) := by grind
    have e10 : 2 * r2 * E0 = 2 * (r2 * E0) := by grind
    rw [e7] at m0
    rw [e8] at n1
    rw [e10] at n2
    rw [e9]
    generalize S * E0 = SE at *
    generalize r2 * E0 = RE at *
    generalize (2 + 4 * S) * D0 = T0 at *
    generalize 8 * r1 * D1 = T1 at *
    generalize 8 * r1 * E1 = T2 at *
    clear hh q1 q2 q3 c1p c1m c2m ch a1 a2 a3 e1 e2 e3 c3
    unfold gmm uu tau at *
    grind
  exact Rat.le_of_mul_le_mul_right key p0

end Go.Proofs.Ytpdnjcblkjjegaa

set_option linter.unusedVariables false
set_option linter.unusedSimpArgs false
set_option maxRecDepth 20000
set_option maxHeartbeats 8000000
namespace Go.Proofs.Ytpdnjcblkjjegaa
open Go.Aw
attribute [local irreducible] QRun LexD AWp TCall TMut fop fint fcmp fconv

/-! ### what is left of likes -/
def plUp (p r : List Nat) (k : Nat) : Nat → Nat
  | 0 => 0
  | n + 1 => fop .add .f32 (plUp p r k n) (fop .mul .f32 (p.getD n 0) (r.getD (k - n) 0))
def plDn (p r : List Nat) : Nat → Nat
  | 0 => 0
  | n + 1 => fop .add .f32 (plDn p r n) (fop .mul .f32 (p.getD n 0) (r.getD (n + 1) 0))
def plBe (p r : List Nat) (k : Nat) : Nat := fop .sub .f32 1065353216 (plDn p r k)
def plX (p r : List Nat) (k : Nat) : Nat := fop .quo .f32 (fop .sub .f32 (r.getD (k + 1) 0) (plUp p r k k)) (plBe p r k)
def plNx (p : List Nat) (x k : Nat) : List Nat := (List.range k).map fun i => fop .sub .f32 (p.getD i 0) (fop .mul .f32 x (p.getD (k - i - 1) 0))
theorem plNx_len (p : List Nat) (x k : Nat) : (plNx p x k).length = k := by simp [plNx]
def plP (r : List Nat) : Nat → List Nat
  | 0 => []
  | k + 1 => plNx (plP r k) (plX (plP r k) r k) k ++ [plX (plP r k) r k]
theorem plP_len (r : List Nat) : ∀ k, (plP r k).length = k
  | 0 => rfl
  | k + 1 => by simp [plP, plNx_len]
def plO (r : List Nat) (m : Nat) : List Nat := (List.range m).map fun k => plX (plP r k) r k
theorem plO_len (r : List Nat) (m : Nat) : (plO r m).length = m := by simp [plO]
def plG (r : List Nat) (k : Nat) : Bool := !fcmp .eql .f32 (plBe (plP r k) r k) 0
def partF (a : List Nat) (m : Int) : List Nat × Bool := if (selfF a m).2 && (List.range m.toNat).all (plG (selfF a m).1) then ifAllF (plO (selfF a m).1 m.toNat) else ([], false)
theorem selfF_ok {a : List Nat} {m : Int} (h : (selfF a m).2 = true) : isSer a = true ∧ (0 ≤ m ∧ m ≤ 16) ∧ m < a.length ∧ (selfF a m).1.length = m.toNat + 1 := by
  unfold selfF at h ⊢
  split at h
  · rename_i hk
    rw [if_pos hk]
    simp only [selfOk, Bool.and_eq_true, decide_eq_true_eq, inR_t] at hk
    unfold ifAllF at h ⊢
    split at h
    · rename_i h2; rw [if_pos h2]; exact ⟨hk.1.1.1, hk.1.1.2, hk.1.2, likL_len a _⟩
    · cases h
  · cases h
theorem partF_le (a : List Nat) (m : Int) : (partF a m).1.length ≤ 16 := by
  unfold partF
  split
  · rename_i h
    simp only [Bool.and_eq_true] at h
    have h1 := selfF_ok h.1
    have := ifAllF_le (plO (selfF a m).1 m.toNat)
    rw [plO_len] at this; omega
  · simp
theorem set_mix {A P : List Nat} {n v : Nat} (hA : A.length = P.length) (hn : n < P.length) (hv : A.getD n 0 = v) : (A.take n ++ P.drop n).set n v = A.take (n + 1) ++ P.drop (n + 1) := by
  have hl : (A.take n).length = n := by simp; omega
  rw [List.set_append_right _ _ (by omega), hl, Nat.sub_self, List.drop_eq_getElem_cons hn, List.set_cons_zero, ← List.take_append_getElem (by omega : n < A.length)]
  have : A[n] = v := by rw [← hv]; simp [List.getD_eq_getElem?_getD, (by omega : n < A.length)]
  rw [this]; simp

theorem fE {k : FloatKind} {a b : Nat} (h : a = b) : AV.t (.f k a) = AV.t (.f k b) := by rw [h]
theorem specPart_c (a : List Nat) (m : Int) (hl : a.length ≤ 1048576) : TCall Try.prog 98 [.fl a, .v (.int .i64 m)] (.tup [.own 0 (partF a m).1.length, .t (.v (.bool (partF a m).2))]) [(0, .sl 30 (.fl (partF a m).1))] := by
  have bad : ¬ ((selfF a m).2 = true ∧ (List.range m.toNat).all (plG (selfF a m).1) = true) → partF a m = ([], false) := fun hc => by
    unfold partF; rw [if_neg (by simpa only [Bool.and_eq_true] using hc)]
  refine tcall_of Try.func98 rfl (by kernel_rfl) (Nat.le_of_ble_eq_true rfl) rfl ?_
  simp only [argsL, argAV, argCs, argS]
  refine V1 ?_
  (first | refine c_s (specSelf_c a m hl) (h := ?_) | refine z_s (specSelf_c a m hl) (h := ?_))
  refine V1 ?_
  refine awp_if rfl (fun h1 => ?_) (fun h1 => ?_)
  · simp only [Bool.not_eq_true'] at h1
    refine V1 ?_
    rw [bad (fun hc => by rw [h1] at hc; simp at hc)]
    (refine u_1 ?_; (repeat' (first | exact RetRelL.nil | refine RetRel.nil rfl ?_ | refine RetRelL.cons ?_ ?_ | refine rr_tup ?_ | refine rr_agg ?_ | refine rr_own rfl ?_ | exact RetRel.arg | exact RetRel.argc | refine rr_t ?_)); all_goals rfl)
  simp only [Bool.not_eq_false'] at h1
  obtain ⟨q1, q2, q3, q4⟩ := selfF_ok h1
  obtain ⟨n, rfl⟩ : ∃ n : Nat, m = (n : Int) := ⟨m.toNat, by omega⟩
  simp only [Int.toNat_natCast] at q4 bad
  have hn : n ≤ 16 := by omega
  generalize hr : (selfF a (n : Int)).1 = r at *
  have hlo := plO_len r n
  refine V5 ?_
  refine awp_loop (X := Nat) (fun k => k ≤ n ∧ ∀ j, j < k → plG r j = true) (fun k => [(1, .t (.v (.int .i64 (n : Nat)))), (6, .own (cid 21 0) 0 r.length), (8, .own 26 0 k), (9, .own 27 0 k), (10, .t (.v (.int .i64 ((k : Int) + 1))))]) (fun k => [(cid 21 0, .sl 30 (.fl r)), (26, .sl 30 (.fl (plP r k))), (27, .sl 30 (.fl ((plO r n).take k)))]) (fun k => n - k)
    0 ⟨⟨by omega, fun j hj => by omega⟩, fun i => i, ⟨rfl, rfl, rfl, rfl, rfl, trivial⟩, ⟨rfl, rfl, rfl, trivial⟩, injOn_id _⟩ (fun k hk => ?_)
  obtain ⟨hk, hok⟩ := hk
  have hz1 := plP_len r k
  have hz2 : ((plO r n).take k).length = k := by simp [hlo]; omega
  refine V3 ?_
  refine awp_if rfl (fun h => ?_) (fun h => ?_)
  · simp only [icmp, decide_eq_true_eq] at h
    refine V5 ?_
    refine awp_loop (X := Nat) (fun i => i ≤ k) (fun i => [(1, .t (.v (.int .i64 (n : Nat)))), (6, .own (cid 21 0) 0 r.length), (8, .own 26 0 k), (9, .own 27 0 k), (10, .t (.v (.int .i64 ((k : Int) + 1)))), (11, .t (.f .f32 (r.getD (k + 1) 0))), (12, .t (.f .f32 (plDn (plP r k) r i))), (13, .t (.f .f32 (plUp (plP r k) r k i))), (14, .t (.v (.int .i64 ((i : Int) + 1))))]) (fun i => [(cid 21 0, .sl 30 (.fl r)), (26, .sl 30 (.fl (plP r k))), (27, .sl 30 (.fl ((plO r n).take k)))]) (fun i => k - i)
      0 ⟨by omega, fun i => i, ⟨rfl, rfl, rfl, rfl, rfl, fE (congrArg (fun i => r.getD i 0) (Nat.zero_add _)), rfl, rfl, rfl, trivial⟩, ⟨rfl, rfl, rfl, trivial⟩, injOn_id _⟩ (fun i hi => ?_)
    refine V3 ?_
    refine awp_if rfl (fun h2 => ?_) (fun h2 => ?_)
    · simp only [icmp, decide_eq_true_eq] at h2
      refine V1 ?_
      (first | (refine w_r (q_idx_own (i) tyOk rfl rfl rfl rfl rfl rfl rfl (by omega) (by first | omega | (simp only [T.len]; omega) | assumption)) (h := ?_)) | (refine y_r (q_idx_own (i) tyOk rfl rfl rfl rfl rfl rfl rfl (by omega) (by first | omega | (simp only [T.len]; omega) | assumption)) (h := ?_)))
      refine V1 ?_
      (first | (refine w_r (q_idx_own (k - i) tyOk rfl rfl rfl rfl rfl rfl rfl (by omega) (by first | omega | (simp only [T.len]; omega) | assumption)) (h := ?_)) | (refine y_r (q_idx_own (k - i) tyOk rfl rfl rfl rfl rfl rfl rfl (by omega) (by first | omega | (simp only [T.len]; omega) | assumption)) (h := ?_)))
      refine V1 ?_
      (first | (refine w_r (q_idx_own (i) tyOk rfl rfl rfl rfl rfl rfl rfl (by omega) (by first | omega | (simp only [T.len]; omega) | assumption)) (h := ?_)) | (refine y_r (q_idx_own (i) tyOk rfl rfl rfl rfl rfl rfl rfl (by omega) (by first | omega | (simp only [T.len]; omega) | assumption)) (h := ?_)))
      refine V1 ?_
      exact ⟨i + 1, by omega, by omega, fun i => i, ⟨rfl, rfl, rfl, rfl, rfl, rfl, fE (by simp only [Nat.zero_add]; rfl), fE (by simp only [Nat.zero_add]; rfl), rfl, trivial⟩, ⟨rfl, rfl, rfl, trivial⟩, injOn_id _⟩
    simp only [icmp, decide_eq_false_iff_not] at h2
    obtain rfl : i = k := by omega
    refine V1 ?_
    refine awp_if rfl (fun h3 => ?_) (fun h3 => ?_)
    · refine V1 ?_
      rw [bad (fun hc => by have := List.all_eq_true.1 hc.2 i (List.mem_range.2 (by omega)); simp only [plG, plBe] at this; rw [h3] at this; simp at this)]
      (refine u_1 ?_; (repeat' (first | exact RetRelL.nil | refine RetRel.nil rfl ?_ | refine RetRelL.cons ?_ ?_ | refine rr_tup ?_ | refine rr_agg ?_ | refine rr_own rfl ?_ | exact RetRel.arg | exact RetRel.argc | refine rr_t ?_)); all_goals rfl)
    have hst : plG r i = true := by simp only [plG, plBe]; rw [h3]; rfl
    have ho : (plO r n).getD i 0 = plX (plP r i) r i := getD_mapR _ (by omega)
    refine V1 ?_
    refine awp_loop (X := Nat) (fun j => j ≤ i) (fun j => [(1, .t (.v (.int .i64 (n : Nat)))), (6, .own (cid 21 0) 0 r.length), (8, .own 26 0 i), (9, .own 27 0 i), (10, .t (.v (.int .i64 ((i : Int) + 1)))), (15, .t (.f .f32 (plX (plP r i) r i))), (16, .own 78 0 j), (17, .t (.v (.int .i64 ((j : Int) + 1))))]) (fun j => [(cid 21 0, .sl 30 (.fl r)), (26, .sl 30 (.fl (plP r i))), (27, .sl 30 (.fl ((plO r n).take i))), (78, .sl 30 (.fl ((plNx (plP r i) (plX (plP r i) r i) i).take j)))]) (fun j => i - j)
      0 ⟨by omega, fun i => i, ⟨rfl, rfl, rfl, rfl, rfl, rfl, rfl, rfl, trivial⟩, ⟨rfl, rfl, rfl, rfl, trivial⟩, injOn_id _⟩ (fun j hj => ?_)
    have hz3 : ((plNx (plP r i) (plX (plP r i) r i) i).take j).length = j := by simp [plNx_len]; omega
    refine V3 ?_
    refine awp_if rfl (fun h4 => ?_) (fun h4 => ?_)
    · simp only [icmp, decide_eq_true_eq] at h4
      refine V1 ?_
      (first | (refine w_r (q_idx_own (j) tyOk rfl rfl rfl rfl rfl rfl rfl (by omega) (by first | omega | (simp only [T.len]; omega) | assumption)) (h := ?_)) | (refine y_r (q_idx_own (j) tyOk rfl rfl rfl rfl rfl rfl rfl (by omega) (by first | omega | (simp only [T.len]; omega) | assumption)) (h := ?_)))
      refine V1 ?_
      (first | (refine w_r (q_idx_own (i - j - 1) tyOk rfl rfl rfl rfl rfl rfl rfl (by omega) (by first | omega | (simp only [T.len]; omega) | assumption)) (h := ?_)) | (refine y_r (q_idx_own (i - j - 1) tyOk rfl rfl rfl rfl rfl rfl rfl (by omega) (by first | omega | (simp only [T.len]; omega) | assumption)) (h := ?_)))
      refine V1 ?_
      (first | refine a_s (hn := by exact hz3) (h := ?_) | refine b_s (hn := by exact hz3) (h := ?_))
      refine V1 ?_
      exact ⟨j + 1, by omega, by omega, fun i => i, ⟨rfl, rfl, rfl, rfl, rfl, rfl, own_eq (by simp only [T.app, T.len, List.length_append, hz3]; rfl), rfl, trivial⟩, ⟨rfl, rfl, rfl, sl_eq (congrArg T.fl (take_snoc (by rw [plNx_len]; omega) (by simp only [plNx, getD_mapR _ (show j < i by omega), Nat.zero_add]))), trivial⟩, injOn_id _⟩
    simp only [icmp, decide_eq_false_iff_not] at h4
    obtain rfl : j = i := by omega
    refine V1 ?_
    (first | refine a_s (hn := by exact hz3) (h := ?_) | refine b_s (hn := by exact hz3) (h := ?_))
    refine V1 ?_
    (first | refine a_s (hn := by exact hz2) (h := ?_) | refine b_s (hn := by exact hz2) (h := ?_))
    refine V1 ?_
    exact ⟨j + 1, by omega, ⟨by omega, fun q hq => (Nat.lt_or_eq_of_le (Nat.le_of_lt_succ hq)).elim (fun hq' => hok q hq') (fun hq' => by rw [hq']; exact hst)⟩, rn1 26 78, ⟨rfl, rfl, own_eq (by simp only [T.app, T.len, List.length_append, hz3]; rfl), own_eq (by simp only [T.app, T.len, List.length_append, hz2]; rfl), rfl, trivial⟩, ⟨rfl, sl_eq (congrArg T.fl (by rw [List.take_of_length_le (by rw [plNx_len]; omega)]; rfl)), sl_eq (congrArg T.fl (take_snoc (by omega) ho)), trivial⟩, injOn_dec rfl⟩
  · simp only [icmp, decide_eq_false_iff_not] at h
    obtain rfl : k = n := by omega
    have hf : (plO r k).take k = plO r k := List.take_of_length_le (by omega)
    rw [hf]
    have hall : (List.range k).all (plG r) = true := List.all_eq_true.2 fun j hj => hok j (List.mem_range.1 hj)
    have hF : partF a (k : Int) = ifAllF (plO r k) := by
      unfold partF; rw [hr, h1, Int.toNat_natCast, hall]; rfl
    refine V3 ?_
    cases h5 : (plO r k).all fin with
    | true =>
      (first | (refine c_q (l03Given_t (plO r k) (by omega) h5) (h := ?_)) | (refine z_q (l03Given_t (plO r k) (by omega) h5) (h := ?_)))
      refine V3 ?_
      rw [show partF a (k : Int) = (plO r k, true) by rw [hF]; simp only [ifAllF, h5]; rfl]
      refine ret_ok tyOk (by first | exact .inr rfl | exact .inl rfl) (pi1 27) rfl (by repeat (first | exact .nil | (apply ResAl.cons; first | exact .tmp | exact .cell rfl rfl rfl rfl rfl rfl | exact .cell1 rfl rfl rfl rfl rfl))) ?_ ⟨rfl, trivial⟩ (injO_1 _ _ _)
      repeat' (first | exact RetRelL.nil | refine RetRel.nil rfl ?_ | refine RetRelL.cons ?_ ?_ | refine rr_tup ?_ | refine rr_agg ?_ | refine rr_own rfl ?_ | exact RetRel.arg | exact RetRel.argc | refine rr_t ?_)
      all_goals first | rfl | exact hlo.symm
    | false =>
      (first | (refine c_q (l03Given_f (plO r k) (by omega) h5) (h := ?_)) | (refine z_q (l03Given_f (plO r k) (by omega) h5) (h := ?_)))
      refine V3 ?_
      rw [show partF a (k : Int) = ([], false) by rw [hF]; simp only [ifAllF, h5]; rfl]
      (refine u_1 ?_; (repeat' (first | exact RetRelL.nil | refine RetRel.nil rfl ?_ | refine RetRelL.cons ?_ ?_ | refine rr_tup ?_ | refine rr_agg ?_ | refine rr_own rfl ?_ | exact RetRel.arg | exact RetRel.argc | refine rr_t ?_)); all_goals rfl)
end Go.Proofs.Ytpdnjcblkjjegaa

