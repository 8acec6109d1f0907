import Derived.Test.YtcgimnafomnjcaaYT28
import Derived.Test.YtcgimnafomnjcaaYT18
import Derived.Test.YtcgimnafomnjcaaZAwC
import Derived.Test.YtcgimnafomnjcaaYT2
import Derived.Test.YtcgimnafomnjcaaYT105
import Derived.Test.YtcgimnafomnjcaaYT4
import Derived.Test.YtcgimnafomnjcaaZAwK
import Derived.Test.YtcgimnafomnjcaaYT111
set_option linter.unusedVariables false
set_option linter.unusedSimpArgs false
set_option maxRecDepth 20000
set_option maxHeartbeats 8000000
namespace Go.Proofs.Ytcgimnafomnjcaa
open Go.Aw
attribute [local irreducible] QRun LexD AWp TCall TMut fop fint fcmp fconv

/-! ### trees -/
def treeAt (p : List Int) (i : Nat) : Bool := inR (p.getD (i + 1) 0) 0 (i : Nat)
def isTree (p : List Int) : Bool := decide (1 ≤ p.length) && decide (p.length ≤ 12) && decide (p.getD 0 0 = -1) && (List.range (p.length - 1)).all (treeAt p)
def kidN (p : List Int) (v : List Nat) (i : Int) : Nat → Nat
  | 0 => 0
  | k + 1 => if icmp .eql (p.getD k 0) i then fop .add .f32 (kidN p v i k) (v.getD k 0) else kidN p v i k
end Go.Proofs.Ytcgimnafomnjcaa

set_option linter.unusedVariables false
set_option linter.unusedSimpArgs false
set_option maxRecDepth 20000
set_option maxHeartbeats 8000000
namespace Go.Proofs.Ytcgimnafomnjcaa
open Go.Aw

/-! ### sums of trees as whole numbers -/
def smI (f : Nat → Int) : Nat → Int
  | 0 => 0
  | m + 1 => smI f m + f m
theorem smI_nn {f : Nat → Int} : ∀ {m : Nat}, (∀ k, k < m → 0 ≤ f k) → 0 ≤ smI f m
  | 0, _ => Int.le_refl _
  | m + 1, h => by have := smI_nn (m := m) (fun k hk => h k (by omega)); have := h m (by omega); simp only [smI]; omega
theorem smI_mono {f : Nat → Int} {m n : Nat} (h : ∀ k, k < n → 0 ≤ f k) (hm : m ≤ n) : smI f m ≤ smI f n := by
  induction n with
  | zero => have : m = 0 := by omega
            subst this; exact Int.le_refl _
  | succ n ih =>
    by_cases hmn : m = n + 1
    · subst hmn; exact Int.le_refl _
    · have := ih (fun k hk => h k (by omega)) (by omega)
      have := h n (by omega)
      simp only [smI]; omega
theorem smI_one {f : Nat → Int} {m j : Nat} (h : ∀ k, k < m → 0 ≤ f k) (hj : j < m) : f j ≤ smI f m := by
  have h1 := smI_mono (f := f) (m := j + 1) (n := m) h (by omega)
  have h2 := smI_nn (f := f) (m := j) (fun k hk => h k (by omega))
  simp only [smI] at h1
  omega
/-- the kids of 'i' among the first 'm' -/
def kI (p : List Int) (x : Nat → Int) (i : Nat) (m : Nat) : Int := smI (fun k => if p.getD k 0 = (i : Int) then x k else 0) m
/-! ### the sums as words -/
theorem kid_hw {p : List Int} {v : List Nat} {y : Nat → Int} {i : Nat} (hv : ∀ k, k < p.length → p.getD k 0 = (i : Int) → v.getD k 0 = hw .f32 (y k) ∧ 0 ≤ y k) (hs : kI p y i p.length ≤ 512) : ∀ m, m ≤ p.length → kidN p v (i : Int) m = hw .f32 (kI p y i m) ∧ 0 ≤ kI p y i m
  | 0, _ => ⟨by show (0 : Nat) = hw .f32 0; decide +kernel, Int.le_refl _⟩
  | m + 1, hm => by
    have ih := kid_hw hv hs m (by omega)
    have hnn : ∀ k, k < p.length → 0 ≤ (fun k => if p.getD k 0 = (i : Int) then y k else 0) k := fun k hk => by
      dsimp only
      by_cases hc : p.getD k 0 = (i : Int)
      · rw [if_pos hc]; exact (hv k hk hc).2
      · rw [if_neg hc]; omega
    have hle := smI_mono (f := fun k => if p.getD k 0 = (i : Int) then y k else 0) (m := m + 1) (n := p.length) hnn hm
    have e : kI p y i (m + 1) = kI p y i m + if p.getD m 0 = (i : Int) then y m else 0 := rfl
    have hle' : kI p y i (m + 1) ≤ 512 := Int.le_trans hle hs
    rw [kidN]
    by_cases hc : p.getD m 0 = (i : Int)
    · have := hv m (by omega) hc
      rw [if_pos (by simp only [icmp]; exact beq_iff_eq.2 hc), ih.1, this.1]
      rw [if_pos hc] at e
      rw [hw_add .f32 (by omega) (by omega) (by omega), e]
      exact ⟨rfl, by omega⟩
    · rw [if_neg (by simp only [icmp]; exact fun h => hc (beq_iff_eq.1 h)), ih.1]
      rw [if_neg hc] at e
      rw [e, Int.add_zero]
      exact ⟨rfl, ih.2⟩
end Go.Proofs.Ytcgimnafomnjcaa

set_option linter.unusedVariables false
set_option linter.unusedSimpArgs false
set_option maxRecDepth 20000
set_option maxHeartbeats 8000000
namespace Go.Proofs.Ytcgimnafomnjcaa
open Go.Aw

/-! ### splits: what they are off by -/
structure TrH (p : List Int) (u : List Nat) (y : Nat → Int) : Prop where
  tree : isTree p = true
  len : u.length = p.length
  wd : ∀ j, j < p.length → u.getD j 0 = hw .f32 (y j)
  rng : ∀ j, j < p.length → 1 ≤ y j ∧ y j ≤ 192
  kid : ∀ i, i < p.length → kI p y i p.length ≤ 192
/-- the sum of the kids of one that has a kid -/
theorem TrH.kidF {p : List Int} {u : List Nat} {y : Nat → Int} (h : TrH p u y) {i : Nat} (hi : i < p.length) : kidN p u (i : Int) p.length = hw .f32 (kI p y i p.length) ∧ 0 ≤ kI p y i p.length := by
  exact kid_hw (fun k hk hc => ⟨h.wd k hk, by have := h.rng k hk; omega⟩) (by have := h.kid i hi; omega) p.length (Nat.le_refl _)
theorem TrH.one {p : List Int} {u : List Nat} {y : Nat → Int} (h : TrH p u y) {j i : Nat} (hj : j < p.length) (hc : p.getD j 0 = (i : Int)) : y j ≤ kI p y i p.length := by
  have := smI_one (f := fun k => if p.getD k 0 = (i : Int) then y k else 0) (m := p.length) (j := j) (fun k hk => by
    by_cases hck : p.getD k 0 = (i : Int)
    · rw [if_pos hck]; have := h.rng k hk; omega
    · rw [if_neg hck]; omega) hj
  rw [if_pos hc] at this
  exact this
/-- the share of a kid -/
structure ShF (p : List Int) (u : List Nat) (y : Nat → Int) (i j : Nat) (c : Rat) : Prop where
  kc : ((kI p y i p.length : Int) : Rat) * c = 1
  c0 : 0 < c
  fq : Fnt .f32 (fop .quo .f32 (u.getD j 0) (kidN p u (i : Int) p.length))
  q0 : 0 ≤ rv .f32 (fop .quo .f32 (u.getD j 0) (kidN p u (i : Int) p.length))
  q1 : rv .f32 (fop .quo .f32 (u.getD j 0) (kidN p u (i : Int) p.length)) ≤ 1
  qlo : (y j : Rat) * c - 1 / 2000000 ≤ rv .f32 (fop .quo .f32 (u.getD j 0) (kidN p u (i : Int) p.length))
  qhi : rv .f32 (fop .quo .f32 (u.getD j 0) (kidN p u (i : Int) p.length)) ≤ (y j : Rat) * c + 1 / 2000000
  z0 : 0 ≤ (y j : Rat) * c
  z1 : (y j : Rat) * c ≤ 1
theorem TrH.share {p : List Int} {u : List Nat} {y : Nat → Int} (h : TrH p u y) {i j : Nat} (hj : j < p.length) (hi : i < p.length) (hc : p.getD j 0 = (i : Int)) : ShF p u y i j ((kI p y i p.length : Int) : Rat)⁻¹ := by
  have hk := h.kidF hi
  have h1 := h.one hj hc
  have h2 := h.rng j hj
  have h3 := h.kid i hi
  have hu := hw_rv (x := y j) (by omega)
  have hK := hw_rv (x := kI p y i p.length) (by omega)
  have hK1 : (1 : Rat) ≤ ((kI p y i p.length : Int) : Rat) := Rat.intCast_le_intCast.2 (show (1 : Int) ≤ _ by omega)
  have hy1 : (1 : Rat) ≤ (y j : Rat) := Rat.intCast_le_intCast.2 h2.1
  have hyK : (y j : Rat) ≤ ((kI p y i p.length : Int) : Rat) := Rat.intCast_le_intCast.2 h1
  have hu0 := h.wd j hj
  have hk0 := hk.1
  generalize hKe : kI p y i p.length = K at *
  have hkc : (K : Rat) * (K : Rat)⁻¹ = 1 := Rat.mul_inv_cancel _ (by grind)
  have hc0 : 0 < ((K : Int) : Rat)⁻¹ := by
    rcases Rat.le_total (a := ((K : Int) : Rat)⁻¹) (b := 0) with hx | hx
    · have := Rat.mul_nonneg (show 0 ≤ -((K : Int) : Rat)⁻¹ by grind) (show 0 ≤ (K : Rat) by grind); grind
    · rcases Rat.le_iff_lt_or_eq.1 hx with hy | hy
      · exact hy
      · rw [← hy] at hkc; grind
  have hq := quo1 hu.1 hK.1 (by grind) (by grind) (by grind)
  have hz : (y j : Rat) * ((K : Int) : Rat)⁻¹ * rv .f32 (hw .f32 K) = rv .f32 (hw .f32 (y j)) := by
    have e1 : rv .f32 (hw .f32 K) = (K : Rat) / 2 := by grind
    have e2 : rv .f32 (hw .f32 (y j)) = (y j : Rat) / 2 := by grind
    rw [e1, e2]
    have : (y j : Rat) * ((K : Int) : Rat)⁻¹ * ((K : Rat) / 2) = (y j : Rat) * ((K : Rat) * ((K : Int) : Rat)⁻¹) / 2 := by grind
    rw [this, hkc]; grind
  have hz0 : 0 ≤ (y j : Rat) * ((K : Int) : Rat)⁻¹ := Rat.mul_nonneg (by grind) (Rat.le_of_lt hc0)
  have hz1 : (y j : Rat) * ((K : Int) : Rat)⁻¹ ≤ 1 := by
    have := Rat.mul_nonneg (show 0 ≤ (K : Rat) - (y j : Rat) by grind) (Rat.le_of_lt hc0); grind
  obtain ⟨e, g1, g2, g3, g4⟩ := quo32 (M := 1) hu.1 hK.1 (by grind) hz hz1 (by grind) (by unfold okM; constructor <;> grind)
  rw [← hu0, ← hk0] at g1 g4 hq
  exact ⟨by rw [hKe]; exact hkc, hc0, g4, hq.2.1, hq.2.2, by rw [g1]; grind, by rw [g1]; grind, hz0, hz1⟩
end Go.Proofs.Ytcgimnafomnjcaa

set_option linter.unusedVariables false
set_option linter.unusedSimpArgs false
set_option maxRecDepth 20000
set_option maxHeartbeats 8000000
namespace Go.Proofs.Ytcgimnafomnjcaa
open Go.Aw

/-! ### gaps -/
def gapR (a b : Nat) : Nat := fmx .f64 (fop .sub .f64 (fconv .f32 .f64 a) (fconv .f32 .f64 b)) (fop .sub .f64 (fconv .f32 .f64 b) (fconv .f32 .f64 a))
/-! ### the middle -/
end Go.Proofs.Ytcgimnafomnjcaa

