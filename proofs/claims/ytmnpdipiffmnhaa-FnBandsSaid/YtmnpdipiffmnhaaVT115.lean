import Derived.Test.YtmnpdipiffmnhaaVT119
import Derived.Test.YtmnpdipiffmnhaaVT28
import Derived.Test.YtmnpdipiffmnhaaVAwC
import Derived.Test.YtmnpdipiffmnhaaVT2
import Derived.Test.YtmnpdipiffmnhaaVT105
import Derived.Test.YtmnpdipiffmnhaaVT58
import Derived.Test.YtmnpdipiffmnhaaVT81s
set_option linter.unusedVariables false
set_option linter.unusedSimpArgs false
set_option maxRecDepth 20000
set_option maxHeartbeats 8000000
namespace Go.Proofs.Ytmnpdipiffmnhaa
open Go.Aw

/-! ### a run stays finite -/
structure ShB (h : SH) : Prop where
  v : validH h = true
  l : Fnt .f32 h.l ∧ 0 ≤ rv .f32 h.l ∧ rv .f32 h.l ≤ 1
  s : Fnt .f32 h.s ∧ 0 ≤ rv .f32 h.s ∧ rv .f32 h.s ≤ 1
  c : Fnt .f32 h.c ∧ 0 ≤ rv .f32 h.c ∧ rv .f32 h.c ≤ 1
  d : Fnt .f32 h.d ∧ 0 ≤ rv .f32 h.d ∧ rv .f32 h.d ≤ 1
structure StB (M : Rat) (s : ST) : Prop where
  fl : Bd s.l M
  fs : Bd s.s M
  fe : ∀ i, i < s.se.length → Bd (s.se.getD i 0) M
  fn : 1 ≤ s.se.length ∧ s.se.length ≤ 24
  fa : 0 ≤ s.at_ ∧ s.at_ < s.se.length
theorem all_fin2 {l : List Nat} (h : ∀ i, i < l.length → Fnt .f32 (l.getD i 0)) : l.all fin = true := List.all_eq_true.2 fun c hc => by
  obtain ⟨i, hi, rfl⟩ := List.getElem_of_mem hc
  have := h i hi
  rw [List.getD_eq_getElem?_getD, List.getElem?_eq_getElem hi] at this
  exact finB_Fn this
theorem StB.valid {M : Rat} {s : ST} (h : StB M s) : validS s = true := by
  unfold validS
  rw [show fin s.l = true from finB_Fn h.fl.1, show fin s.s = true from finB_Fn h.fs.1, all_fin2 fun i hi => (h.fe i hi).1]
  have h1 : inR ((s.se.length : Nat) : Int) 1 24 = true := by rw [inR_t]; have := h.fn; omega
  have h2 : inR s.at_ 0 ((s.se.length : Int) - 1) = true := by rw [inR_t]; have := h.fa; omega
  rw [h1, h2]; rfl
theorem k1_rv : Fnt .f32 1065353216 ∧ rv .f32 1065353216 = 1 := by unfold Fnt; decide +kernel
/-- a share of a number -/
theorem mulS {a b : Nat} {M N : Rat} (ha : Fnt .f32 a ∧ 0 ≤ rv .f32 a ∧ rv .f32 a ≤ 1) (hb : Bd b M) (hM : okM M) (hN : M * (1001 / 1000) ≤ N) : Bd (fop .mul .f32 a b) N := by
  have h2 := hb.2
  have hM1 := hM.1
  have hp := mul_bd (x := rv .f32 a) (y := rv .f32 b) (M := 1) (N := M) ha.2.2 (by grind) h2.1 h2.2
  obtain ⟨e, h1, h3, h4, h5⟩ := mul32 (M := M) ha.1 hb.1 (by grind) (by grind) hM
  exact ⟨h5, by rw [h1]; grind, by rw [h1]; grind⟩
theorem addB {a b : Nat} {M N L : Rat} (ha : Bd a M) (hb : Bd b N) (hM : okM (M + N)) (hL : (M + N) * (1001 / 1000) ≤ L) : Bd (fop .add .f32 a b) L := by
  have h1 := ha.2; have h2 := hb.2; have hM1 := hM.1
  obtain ⟨e, p1, p3, p4, p5⟩ := add32 (M := M + N) ha.1 hb.1 (by grind) (by grind) hM
  exact ⟨p5, by rw [p1]; grind, by rw [p1]; grind⟩
theorem subB {a b : Nat} {M N L : Rat} (ha : Bd a M) (hb : Bd b N) (hM : okM (M + N)) (hL : (M + N) * (1001 / 1000) ≤ L) : Bd (fop .sub .f32 a b) L := by
  have h1 := ha.2; have h2 := hb.2; have hM1 := hM.1
  obtain ⟨e, p1, p3, p4, p5⟩ := sub32 (M := M + N) ha.1 hb.1 (by grind) (by grind) hM
  exact ⟨p5, by rw [p1]; grind, by rw [p1]; grind⟩
theorem share_mul {a b : Nat} (ha : Fnt .f32 a ∧ 0 ≤ rv .f32 a ∧ rv .f32 a ≤ 1) (hb : Fnt .f32 b ∧ 0 ≤ rv .f32 b ∧ rv .f32 b ≤ 1) : Fnt .f32 (fop .mul .f32 a b) ∧ 0 ≤ rv .f32 (fop .mul .f32 a b) ∧ rv .f32 (fop .mul .f32 a b) ≤ 1 := by
  have hp := Rat.mul_nonneg ha.2.1 hb.2.1
  have hq := mul_bd (x := rv .f32 a) (y := rv .f32 b) (M := 1) (N := 1) ha.2.2 (by grind) hb.2.2 (by grind)
  obtain ⟨e, h1, h3, h4, h5⟩ := mul32 (M := 1) ha.1 hb.1 (by grind) (by grind) (by unfold okM; constructor <;> grind)
  have h0 : Fnt .f32 0 ∧ rv .f32 0 = 0 := by unfold Fnt; decide +kernel
  have r := mul_rds ha.1 hb.1
  have g1 := r.ge h0.1 h5 (by rw [h0.2]; exact hp)
  have g2 := r.le k1_rv.1 h5 (by rw [k1_rv.2]; grind)
  rw [h0.2] at g1; rw [k1_rv.2] at g2
  exact ⟨h5, g1, g2⟩
theorem share_sub {a : Nat} (ha : Fnt .f32 a ∧ 0 ≤ rv .f32 a ∧ rv .f32 a ≤ 1) : Fnt .f32 (fop .sub .f32 1065353216 a) ∧ 0 ≤ rv .f32 (fop .sub .f32 1065353216 a) ∧ rv .f32 (fop .sub .f32 1065353216 a) ≤ 1 := by
  have k1 := k1_rv
  obtain ⟨e, h1, h3, h4, h5⟩ := sub32 (M := 1) k1.1 ha.1 (by grind) (by grind) (by unfold okM; constructor <;> grind)
  have h0 : Fnt .f32 0 ∧ rv .f32 0 = 0 := by unfold Fnt; decide +kernel
  have r := sub_rds k1.1 ha.1
  have g1 := r.ge h0.1 h5 (by rw [h0.2]; grind)
  have g2 := r.le k1_rv.1 h5 (by rw [k1_rv.2]; grind)
  rw [h0.2] at g1; rw [k1_rv.2] at g2
  exact ⟨h5, g1, g2⟩
/-- one step -/
theorem StB.step {M : Rat} {s : ST} {h : SH} {x : Nat} (hs : StB M s) (hh : ShB h) (hx : Bd x M) (h1 : 1 ≤ M) (h2 : M ≤ 1000000000000) :
    Bd (gsF s h) (4 * M) ∧ Bd (erF s h x) (5 * M) ∧ StB (7 * M) (nxF s h x) := by
  have hok : ∀ {c : Rat}, 1 ≤ c → c ≤ 100 → okM (c * M) := fun {c} h3 h4 => by
    have := mul_bd (x := c) (y := M) (M := 100) (N := 1000000000000) h4 (by grind) h2 (by grind)
    have h5 := Rat.mul_le_mul_of_nonneg_right h3 (show (0 : Rat) ≤ M by grind)
    unfold okM; constructor <;> grind
  have hse := hs.fe s.at_.toNat (by have := hs.fa; omega)
  have p1 := mulS (N := M * (1001 / 1000)) hh.d hs.fs (by unfold okM; constructor <;> grind) (by grind)
  have p2 := addB (L := 21 / 10 * M) hs.fl p1 (by unfold okM; constructor <;> grind) (by grind)
  have p3 : Bd (gsF s h) (32 / 10 * M) := addB p2 hse (by unfold okM; constructor <;> grind) (by grind)
  have p4 : Bd (erF s h x) (43 / 10 * M) := subB hx p3 (by unfold okM; constructor <;> grind) (by grind)
  have p5 := mulS (N := 44 / 10 * M) hh.l p4 (by unfold okM; constructor <;> grind) (by grind)
  have p6 := addB (L := 66 / 10 * M) p2 p5 (by unfold okM; constructor <;> grind) (by grind)
  have p7 := mulS (N := 44 / 10 * M) (share_mul hh.l hh.s) p4 (by unfold okM; constructor <;> grind) (by grind)
  have p8 := addB (L := 56 / 10 * M) p1 p7 (by unfold okM; constructor <;> grind) (by grind)
  have p9 := mulS (N := 44 / 10 * M) (share_mul hh.c (share_sub hh.l)) p4 (by unfold okM; constructor <;> grind) (by grind)
  have p10 := addB (L := 56 / 10 * M) hse p9 (by unfold okM; constructor <;> grind) (by grind)
  refine ⟨p3.mono (by grind), p4.mono (by grind), p6.mono (by grind), p8.mono (by grind), fun i hi => ?_, by rw [nxF_len]; exact hs.fn, ?_⟩
  · rw [nxF_len] at hi
    by_cases hc : s.at_.toNat = i
    · have : (nxF s h x).se.getD i 0 = fop .add .f32 (s.se.getD s.at_.toNat 0) (fop .mul .f32 (fop .mul .f32 h.c (fop .sub .f32 1065353216 h.l)) (erF s h x)) := by
        subst hc
        simp [nxF, List.getD_eq_getElem?_getD, hi]
      rw [this]; exact p10.mono (by grind)
    · have : (nxF s h x).se.getD i 0 = s.se.getD i 0 := by
        simp [nxF, List.getD_eq_getElem?_getD, hc]
      rw [this]; exact (hs.fe i hi).mono (by grind)
  · rw [nxF_len]
    show 0 ≤ (s.at_ + 1) % (s.se.length : Int) ∧ (s.at_ + 1) % (s.se.length : Int) < _
    have := hs.fn
    exact ⟨Int.emod_nonneg _ (by omega), Int.emod_lt_of_pos _ (by omega)⟩
def p7 (M : Rat) : Nat → Rat
  | 0 => M
  | k + 1 => 7 * p7 M k
end Go.Proofs.Ytmnpdipiffmnhaa

set_option linter.unusedVariables false
set_option linter.unusedSimpArgs false
set_option maxRecDepth 20000
set_option maxHeartbeats 8000000
namespace Go.Proofs.Ytmnpdipiffmnhaa
open Go.Aw
attribute [local irreducible] QRun LexD AWp TCall TMut fop fint fcmp fconv

/-! ### trees -/
def treeAt (p : List Int) (i : Nat) : Bool := inR (p.getD (i + 1) 0) 0 (i : Nat)
def isTree (p : List Int) : Bool := decide (1 ≤ p.length) && decide (p.length ≤ 12) && decide (p.getD 0 0 = -1) && (List.range (p.length - 1)).all (treeAt p)
def kidN (p : List Int) (v : List Nat) (i : Int) : Nat → Nat
  | 0 => 0
  | k + 1 => if icmp .eql (p.getD k 0) i then fop .add .f32 (kidN p v i k) (v.getD k 0) else kidN p v i k
end Go.Proofs.Ytmnpdipiffmnhaa

set_option linter.unusedVariables false
set_option linter.unusedSimpArgs false
set_option maxRecDepth 20000
set_option maxHeartbeats 8000000
namespace Go.Proofs.Ytmnpdipiffmnhaa
open Go.Aw

/-! ### sums of trees as whole numbers -/
def smI (f : Nat → Int) : Nat → Int
  | 0 => 0
  | m + 1 => smI f m + f m
theorem smI_nn {f : Nat → Int} : ∀ {m : Nat}, (∀ k, k < m → 0 ≤ f k) → 0 ≤ smI f m
  | 0, _ => Int.le_refl _
  | m + 1, h => by have := smI_nn (m := m) (fun k hk => h k (by omega)); have := h m (by omega); simp only [smI]; omega
theorem smI_mono {f : Nat → Int} {m n : Nat} (h : ∀ k, k < n → 0 ≤ f k) (hm : m ≤ n) : smI f m ≤ smI f n := by
  induction n with
  | zero => have : m = 0 := by omega
            subst this; exact Int.le_refl _
  | succ n ih =>
    by_cases hmn : m = n + 1
    · subst hmn; exact Int.le_refl _
    · have := ih (fun k hk => h k (by omega)) (by omega)
      have := h n (by omega)
      simp only [smI]; omega
theorem smI_one {f : Nat → Int} {m j : Nat} (h : ∀ k, k < m → 0 ≤ f k) (hj : j < m) : f j ≤ smI f m := by
  have h1 := smI_mono (f := f) (m := j + 1) (n := m) h (by omega)
  have h2 := smI_nn (f := f) (m := j) (fun k hk => h k (by omega))
  simp only [smI] at h1
  omega
/-- the kids of 'i' among the first 'm' -/
def kI (p : List Int) (x : Nat → Int) (i : Nat) (m : Nat) : Int := smI (fun k => if p.getD k 0 = (i : Int) then x k else 0) m
/-! ### the sums as words -/
theorem kid_hw {p : List Int} {v : List Nat} {y : Nat → Int} {i : Nat} (hv : ∀ k, k < p.length → p.getD k 0 = (i : Int) → v.getD k 0 = hw .f32 (y k) ∧ 0 ≤ y k) (hs : kI p y i p.length ≤ 512) : ∀ m, m ≤ p.length → kidN p v (i : Int) m = hw .f32 (kI p y i m) ∧ 0 ≤ kI p y i m
  | 0, _ => ⟨by show (0 : Nat) = hw .f32 0; decide +kernel, Int.le_refl _⟩
  | m + 1, hm => by
    have ih := kid_hw hv hs m (by omega)
    have hnn : ∀ k, k < p.length → 0 ≤ (fun k => if p.getD k 0 = (i : Int) then y k else 0) k := fun k hk => by
      dsimp only
      by_cases hc : p.getD k 0 = (i : Int)
      · rw [if_pos hc]; exact (hv k hk hc).2
      · rw [if_neg hc]; omega
    have hle := smI_mono (f := fun k => if p.getD k 0 = (i : Int) then y k else 0) (m := m + 1) (n := p.length) hnn hm
    have e : kI p y i (m + 1) = kI p y i m + if p.getD m 0 = (i : Int) then y m else 0 := rfl
    have hle' : kI p y i (m + 1) ≤ 512 := Int.le_trans hle hs
    rw [kidN]
    by_cases hc : p.getD m 0 = (i : Int)
    · have := hv m (by omega) hc
      rw [if_pos (by simp only [icmp]; exact beq_iff_eq.2 hc), ih.1, this.1]
      rw [if_pos hc] at e
      rw [hw_add .f32 (by omega) (by omega) (by omega), e]
      exact ⟨rfl, by omega⟩
    · rw [if_neg (by simp only [icmp]; exact fun h => hc (beq_iff_eq.1 h)), ih.1]
      rw [if_neg hc] at e
      rw [e, Int.add_zero]
      exact ⟨rfl, ih.2⟩
end Go.Proofs.Ytmnpdipiffmnhaa

set_option linter.unusedVariables false
set_option linter.unusedSimpArgs false
set_option maxRecDepth 20000
set_option maxHeartbeats 8000000
namespace Go.Proofs.Ytmnpdipiffmnhaa
open Go.Aw

/-! ### splits: what they are off by -/
theorem eql_rv {k : FloatKind} {a b : Nat} (ha : Fnt k a) (hb : Fnt k b) (h : rv k a ≠ rv k b) : fcmp .eql k a b = false := by
  simp only [fcmp]
  rw [order_sv k ha.notnan hb.notnan]
  have hs := (sv_rv k (a := a) (b := b)).2
  rcases Int.lt_trichotomy (sv k a) (sv k b) with h1 | h1 | h1
  · rw [cmp_lt h1]; rfl
  · exact absurd (hs.1 h1) h
  · rw [cmp_gt h1]; rfl
structure TrH (p : List Int) (u : List Nat) (y : Nat → Int) : Prop where
  tree : isTree p = true
  len : u.length = p.length
  wd : ∀ j, j < p.length → u.getD j 0 = hw .f32 (y j)
  rng : ∀ j, j < p.length → 1 ≤ y j ∧ y j ≤ 192
  kid : ∀ i, i < p.length → kI p y i p.length ≤ 192
theorem TrH.par {p : List Int} {u : List Nat} {y : Nat → Int} (h : TrH p u y) {j : Nat} (h1 : 1 ≤ j) (hj : j < p.length) : ∃ i : Nat, p.getD j 0 = (i : Int) ∧ i < j := by
  have hT := h.tree
  unfold isTree at hT
  simp only [Bool.and_eq_true] at hT
  have := List.all_eq_true.1 hT.2 (j - 1) (List.mem_range.2 (by omega))
  unfold treeAt at this
  rw [inR_t, show j - 1 + 1 = j by omega] at this
  exact ⟨_, (Int.toNat_of_nonneg this.1).symm, by omega⟩
/-- the sum of the kids of one that has a kid -/
theorem TrH.kidF {p : List Int} {u : List Nat} {y : Nat → Int} (h : TrH p u y) {i : Nat} (hi : i < p.length) : kidN p u (i : Int) p.length = hw .f32 (kI p y i p.length) ∧ 0 ≤ kI p y i p.length := by
  exact kid_hw (fun k hk hc => ⟨h.wd k hk, by have := h.rng k hk; omega⟩) (by have := h.kid i hi; omega) p.length (Nat.le_refl _)
theorem TrH.one {p : List Int} {u : List Nat} {y : Nat → Int} (h : TrH p u y) {j i : Nat} (hj : j < p.length) (hc : p.getD j 0 = (i : Int)) : y j ≤ kI p y i p.length := by
  have := smI_one (f := fun k => if p.getD k 0 = (i : Int) then y k else 0) (m := p.length) (j := j) (fun k hk => by
    by_cases hck : p.getD k 0 = (i : Int)
    · rw [if_pos hck]; have := h.rng k hk; omega
    · rw [if_neg hck]; omega) hj
  rw [if_pos hc] at this
  exact this
/-- the share of a kid -/
structure ShF (p : List Int) (u : List Nat) (y : Nat → Int) (i j : Nat) (c : Rat) : Prop where
  kc : ((kI p y i p.length : Int) : Rat) * c = 1
  c0 : 0 < c
  fq : Fnt .f32 (fop .quo .f32 (u.getD j 0) (kidN p u (i : Int) p.length))
  q0 : 0 ≤ rv .f32 (fop .quo .f32 (u.getD j 0) (kidN p u (i : Int) p.length))
  q1 : rv .f32 (fop .quo .f32 (u.getD j 0) (kidN p u (i : Int) p.length)) ≤ 1
  qlo : (y j : Rat) * c - 1 / 2000000 ≤ rv .f32 (fop .quo .f32 (u.getD j 0) (kidN p u (i : Int) p.length))
  qhi : rv .f32 (fop .quo .f32 (u.getD j 0) (kidN p u (i : Int) p.length)) ≤ (y j : Rat) * c + 1 / 2000000
  z0 : 0 ≤ (y j : Rat) * c
  z1 : (y j : Rat) * c ≤ 1
theorem TrH.share {p : List Int} {u : List Nat} {y : Nat → Int} (h : TrH p u y) {i j : Nat} (hj : j < p.length) (hi : i < p.length) (hc : p.getD j 0 = (i : Int)) : ShF p u y i j ((kI p y i p.length : Int) : Rat)⁻¹ := by
  have hk := h.kidF hi
  have h1 := h.one hj hc
  have h2 := h.rng j hj
  have h3 := h.kid i hi
  have hu := hw_rv (x := y j) (by omega)
  have hK := hw_rv (x := kI p y i p.length) (by omega)
  have hK1 : (1 : Rat) ≤ ((kI p y i p.length : Int) : Rat) := Rat.intCast_le_intCast.2 (show (1 : Int) ≤ _ by omega)
  have hy1 : (1 : Rat) ≤ (y j : Rat) := Rat.intCast_le_intCast.2 h2.1
  have hyK : (y j : Rat) ≤ ((kI p y i p.length : Int) : Rat) := Rat.intCast_le_intCast.2 h1
  have hu0 := h.wd j hj
  have hk0 := hk.1
  generalize hKe : kI p y i p.length = K at *
  have hkc : (K : Rat) * (K : Rat)⁻¹ = 1 := Rat.mul_inv_cancel _ (by grind)
  have hc0 : 0 < ((K : Int) : Rat)⁻¹ := by
    rcases Rat.le_total (a := ((K : Int) : Rat)⁻¹) (b := 0) with hx | hx
    · have := Rat.mul_nonneg (show 0 ≤ -((K : Int) : Rat)⁻¹ by grind) (show 0 ≤ (K : Rat) by grind); grind
    · rcases Rat.le_iff_lt_or_eq.1 hx with hy | hy
      · exact hy
      · rw [← hy] at hkc; grind
  have hq := quo1 hu.1 hK.1 (by grind) (by grind) (by grind)
  have hz : (y j : Rat) * ((K : Int) : Rat)⁻¹ * rv .f32 (hw .f32 K) = rv .f32 (hw .f32 (y j)) := by
    have e1 : rv .f32 (hw .f32 K) = (K : Rat) / 2 := by grind
    have e2 : rv .f32 (hw .f32 (y j)) = (y j : Rat) / 2 := by grind
    rw [e1, e2]
    have : (y j : Rat) * ((K : Int) : Rat)⁻¹ * ((K : Rat) / 2) = (y j : Rat) * ((K : Rat) * ((K : Int) : Rat)⁻¹) / 2 := by grind
    rw [this, hkc]; grind
  have hz0 : 0 ≤ (y j : Rat) * ((K : Int) : Rat)⁻¹ := Rat.mul_nonneg (by grind) (Rat.le_of_lt hc0)
  have hz1 : (y j : Rat) * ((K : Int) : Rat)⁻¹ ≤ 1 := by
    have := Rat.mul_nonneg (show 0 ≤ (K : Rat) - (y j : Rat) by grind) (Rat.le_of_lt hc0); grind
  obtain ⟨e, g1, g2, g3, g4⟩ := quo32 (M := 1) hu.1 hK.1 (by grind) hz hz1 (by grind) (by unfold okM; constructor <;> grind)
  rw [← hu0, ← hk0] at g1 g4 hq
  exact ⟨by rw [hKe]; exact hkc, hc0, g4, hq.2.1, hq.2.2, by rw [g1]; grind, by rw [g1]; grind, hz0, hz1⟩
theorem TrH.guard {p : List Int} {u : List Nat} {y : Nat → Int} (h : TrH p u y) {j : Nat} (h1 : 1 ≤ j) (hj : j < p.length) : fcmp .eql .f32 (kidN p u (p.getD j 0) p.length) 0 = false ∧ fin (kidN p u (p.getD j 0) p.length) = true := by
  obtain ⟨i, hp, hi⟩ := h.par h1 hj
  rw [hp]
  have hk := h.kidF (i := i) (by omega)
  have ho := h.one hj hp
  have h2 := h.rng j hj
  have h3 := h.kid i (by omega)
  rw [hk.1]
  have hK := hw_rv (x := kI p y i p.length) (by omega)
  have hK1 : (1 : Rat) ≤ ((kI p y i p.length : Int) : Rat) := Rat.intCast_le_intCast.2 (show (1 : Int) ≤ _ by omega)
  refine ⟨eql_rv hK.1 fnt32_0.1 (by rw [fnt32_0.2]; grind), finB_Fn hK.1⟩
end Go.Proofs.Ytmnpdipiffmnhaa

