import Derived.Test.YtjjpjnhjnpplcaaYT114
import Derived.Test.YtjjpjnhjnpplcaaYT20
import Derived.Test.YtjjpjnhjnpplcaaYT111
set_option linter.unusedVariables false
set_option linter.unusedSimpArgs false
set_option maxRecDepth 20000
set_option maxHeartbeats 8000000
namespace Go.Proofs.Ytjjpjnhjnpplcaa
open Go.Aw

/-! ### splits: what they are off by -/
theorem leq_rv {k : FloatKind} {a b : Nat} (ha : Fnt k a) (hb : Fnt k b) (h : rv k a ≤ rv k b) : fcmp .leq k a b = true := by
  simp only [fcmp]
  rw [order_sv k ha.notnan hb.notnan]
  have hs := sv_rv k (a := a) (b := b)
  have hs2 := sv_rv k (a := b) (b := a)
  rcases Int.lt_trichotomy (sv k a) (sv k b) with h1 | h1 | h1
  · rw [cmp_lt h1]; rfl
  · rw [cmp_eq h1]; rfl
  · have := hs2.1.1 h1; grind
theorem eql_rv {k : FloatKind} {a b : Nat} (ha : Fnt k a) (hb : Fnt k b) (h : rv k a ≠ rv k b) : fcmp .eql k a b = false := by
  simp only [fcmp]
  rw [order_sv k ha.notnan hb.notnan]
  have hs := (sv_rv k (a := a) (b := b)).2
  rcases Int.lt_trichotomy (sv k a) (sv k b) with h1 | h1 | h1
  · rw [cmp_lt h1]; rfl
  · exact absurd (hs.1 h1) h
  · rw [cmp_gt h1]; rfl
theorem absF_rv {c : Nat} {M : Rat} (h : Bd c M) : Fnt .f32 (absF c) ∧ rv .f32 (absF c) ≤ M := by
  have hn := h.1.notnan
  rw [absF_eq (F32_Fnt h.1)]
  unfold absR
  rw [hn]
  simp only [Bool.false_eq_true, if_false]
  obtain ⟨s, r, hc, hr, hv⟩ := h.1.ex
  have hw := word_parts .f32 s (r := r) (by have := inf_sw .f32; omega)
  have e : c % 2147483648 = r := by have := hw.1; rw [sw32] at this; rw [hc]; exact this
  rw [e]
  have hF := Fn_word .f32 false hr
  rw [word_f] at hF
  have hv2 := rv_word .f32 false hr
  rw [word_f] at hv2
  simp only [Bool.false_eq_true, if_false] at hv2
  refine ⟨hF, ?_⟩
  rw [hv2]
  have h2 := h.2
  rw [hv] at h2
  cases s
  · simp only [Bool.false_eq_true, if_false] at h2; exact h2.1
  · simp only [if_true] at h2; grind
structure TrH (p : List Int) (u : List Nat) (y : Nat → Int) : Prop where
  tree : isTree p = true
  len : u.length = p.length
  wd : ∀ j, j < p.length → u.getD j 0 = hw .f32 (y j)
  rng : ∀ j, j < p.length → 1 ≤ y j ∧ y j ≤ 192
  kid : ∀ i, i < p.length → kI p y i p.length ≤ 192
def spO (p : List Int) (u : List Nat) (j : Nat) : Nat := (spN p u j).getD j 0
theorem spN_get {p : List Int} {u : List Nat} : ∀ (m j : Nat), j ≤ m → (spN p u m).getD j 0 = spO p u j
  | 0, j, h => by have : j = 0 := by omega
                  subst this; rfl
  | m + 1, j, h => by
    by_cases hj : j = m + 1
    · subst hj; rfl
    · rw [spN, List.getD_eq_getElem?_getD, List.getElem?_append_left (by rw [spN_len]; omega), ← List.getD_eq_getElem?_getD]
      exact spN_get m j (by omega)
theorem TrH.par {p : List Int} {u : List Nat} {y : Nat → Int} (h : TrH p u y) {j : Nat} (h1 : 1 ≤ j) (hj : j < p.length) : ∃ i : Nat, p.getD j 0 = (i : Int) ∧ i < j := by
  have hT := h.tree
  unfold isTree at hT
  simp only [Bool.and_eq_true] at hT
  have := List.all_eq_true.1 hT.2 (j - 1) (List.mem_range.2 (by omega))
  unfold treeAt at this
  rw [inR_t, show j - 1 + 1 = j by omega] at this
  exact ⟨_, (Int.toNat_of_nonneg this.1).symm, by omega⟩
theorem spO_S {p : List Int} {u : List Nat} {j i : Nat} (hp : p.getD (j + 1) 0 = (i : Int)) (hi : i < j + 1) : spO p u (j + 1) = fop .mul .f32 (spO p u i) (fop .quo .f32 (u.getD (j + 1) 0) (kidN p u (i : Int) p.length)) := by
  unfold spO
  rw [spN, List.getD_eq_getElem?_getD, List.getElem?_append_right (by rw [spN_len]; omega), spN_len, Nat.sub_self]
  simp only [List.getElem?_cons_zero, Option.getD_some]
  rw [hp, Int.toNat_natCast, spN_get j i (by omega)]
  rfl
/-- the sum of the kids of one that has a kid -/
theorem TrH.kidF {p : List Int} {u : List Nat} {y : Nat → Int} (h : TrH p u y) {i : Nat} (hi : i < p.length) : kidN p u (i : Int) p.length = hw .f32 (kI p y i p.length) ∧ 0 ≤ kI p y i p.length := by
  exact kid_hw (fun k hk hc => ⟨h.wd k hk, by have := h.rng k hk; omega⟩) (by have := h.kid i hi; omega) p.length (Nat.le_refl _)
theorem TrH.one {p : List Int} {u : List Nat} {y : Nat → Int} (h : TrH p u y) {j i : Nat} (hj : j < p.length) (hc : p.getD j 0 = (i : Int)) : y j ≤ kI p y i p.length := by
  have := smI_one (f := fun k => if p.getD k 0 = (i : Int) then y k else 0) (m := p.length) (j := j) (fun k hk => by
    by_cases hck : p.getD k 0 = (i : Int)
    · rw [if_pos hck]; have := h.rng k hk; omega
    · rw [if_neg hck]; omega) hj
  rw [if_pos hc] at this
  exact this
/-- the share of a kid -/
structure ShF (p : List Int) (u : List Nat) (y : Nat → Int) (i j : Nat) (c : Rat) : Prop where
  kc : ((kI p y i p.length : Int) : Rat) * c = 1
  c0 : 0 < c
  fq : Fnt .f32 (fop .quo .f32 (u.getD j 0) (kidN p u (i : Int) p.length))
  q0 : 0 ≤ rv .f32 (fop .quo .f32 (u.getD j 0) (kidN p u (i : Int) p.length))
  q1 : rv .f32 (fop .quo .f32 (u.getD j 0) (kidN p u (i : Int) p.length)) ≤ 1
  qlo : (y j : Rat) * c - 1 / 2000000 ≤ rv .f32 (fop .quo .f32 (u.getD j 0) (kidN p u (i : Int) p.length))
  qhi : rv .f32 (fop .quo .f32 (u.getD j 0) (kidN p u (i : Int) p.length)) ≤ (y j : Rat) * c + 1 / 2000000
  z0 : 0 ≤ (y j : Rat) * c
  z1 : (y j : Rat) * c ≤ 1
theorem TrH.share {p : List Int} {u : List Nat} {y : Nat → Int} (h : TrH p u y) {i j : Nat} (hj : j < p.length) (hi : i < p.length) (hc : p.getD j 0 = (i : Int)) : ShF p u y i j ((kI p y i p.length : Int) : Rat)⁻¹ := by
  have hk := h.kidF hi
  have h1 := h.one hj hc
  have h2 := h.rng j hj
  have h3 := h.kid i hi
  have hu := hw_rv (x := y j) (by omega)
  have hK := hw_rv (x := kI p y i p.length) (by omega)
  have hK1 : (1 : Rat) ≤ ((kI p y i p.length : Int) : Rat) := Rat.intCast_le_intCast.2 (show (1 : Int) ≤ _ by omega)
  have hy1 : (1 : Rat) ≤ (y j : Rat) := Rat.intCast_le_intCast.2 h2.1
  have hyK : (y j : Rat) ≤ ((kI p y i p.length : Int) : Rat) := Rat.intCast_le_intCast.2 h1
  have hu0 := h.wd j hj
  have hk0 := hk.1
  generalize hKe : kI p y i p.length = K at *
  have hkc : (K : Rat) * (K : Rat)⁻¹ = 1 := Rat.mul_inv_cancel _ (by grind)
  have hc0 : 0 < ((K : Int) : Rat)⁻¹ := by
    rcases Rat.le_total (a := ((K : Int) : Rat)⁻¹) (b := 0) with hx | hx
    · have := Rat.mul_nonneg (show 0 ≤ -((K : Int) : Rat)⁻¹ by grind) (show 0 ≤ (K : Rat) by grind); grind
    · rcases Rat.le_iff_lt_or_eq.1 hx with hy | hy
      · exact hy
      · rw [← hy] at hkc; grind
  have hq := quo1 hu.1 hK.1 (by grind) (by grind) (by grind)
  have hz : (y j : Rat) * ((K : Int) : Rat)⁻¹ * rv .f32 (hw .f32 K) = rv .f32 (hw .f32 (y j)) := by
    have e1 : rv .f32 (hw .f32 K) = (K : Rat) / 2 := by grind
    have e2 : rv .f32 (hw .f32 (y j)) = (y j : Rat) / 2 := by grind
    rw [e1, e2]
    have : (y j : Rat) * ((K : Int) : Rat)⁻¹ * ((K : Rat) / 2) = (y j : Rat) * ((K : Rat) * ((K : Int) : Rat)⁻¹) / 2 := by grind
    rw [this, hkc]; grind
  have hz0 : 0 ≤ (y j : Rat) * ((K : Int) : Rat)⁻¹ := Rat.mul_nonneg (by grind) (Rat.le_of_lt hc0)
  have hz1 : (y j : Rat) * ((K : Int) : Rat)⁻¹ ≤ 1 := by
    have := Rat.mul_nonneg (show 0 ≤ (K : Rat) - (y j : Rat) by grind) (Rat.le_of_lt hc0); grind
  obtain ⟨e, g1, g2, g3, g4⟩ := quo32 (M := 1) hu.1 hK.1 (by grind) hz hz1 (by grind) (by unfold okM; constructor <;> grind)
  rw [← hu0, ← hk0] at g1 g4 hq
  exact ⟨by rw [hKe]; exact hkc, hc0, g4, hq.2.1, hq.2.2, by rw [g1]; grind, by rw [g1]; grind, hz0, hz1⟩
theorem TrH.guard {p : List Int} {u : List Nat} {y : Nat → Int} (h : TrH p u y) {j : Nat} (h1 : 1 ≤ j) (hj : j < p.length) : fcmp .eql .f32 (kidN p u (p.getD j 0) p.length) 0 = false ∧ fin (kidN p u (p.getD j 0) p.length) = true := by
  obtain ⟨i, hp, hi⟩ := h.par h1 hj
  rw [hp]
  have hk := h.kidF (i := i) (by omega)
  have ho := h.one hj hp
  have h2 := h.rng j hj
  have h3 := h.kid i (by omega)
  rw [hk.1]
  have hK := hw_rv (x := kI p y i p.length) (by omega)
  have hK1 : (1 : Rat) ≤ ((kI p y i p.length : Int) : Rat) := Rat.intCast_le_intCast.2 (show (1 : Int) ≤ _ by omega)
  refine ⟨eql_rv hK.1 fnt32_0.1 (by rw [fnt32_0.2]; grind), finB_Fn hK.1⟩
theorem TrH.both {p : List Int} {u : List Nat} {y : Nat → Int} (h : TrH p u y) : both p u = true := by
  unfold Go.Proofs.Ytjjpjnhjnpplcaa.both
  rw [h.tree, decide_eq_true h.len]
  refine List.all_eq_true.2 fun c hc => ?_
  obtain ⟨i, hi, rfl⟩ := List.getElem_of_mem hc
  have e := h.wd i (by rw [← h.len]; exact hi)
  rw [List.getD_eq_getElem?_getD, List.getElem?_eq_getElem hi] at e
  simp only [Option.getD_some] at e
  rw [e]
  exact finB_Fn (hw_rv (by have := h.rng i (by rw [← h.len]; exact hi); omega)).1
/-- splits of numbers up to eight -/
theorem sp_8 {p : List Int} {u : List Nat} {y : Nat → Int} (h : TrH p u y) (hy : ∀ j, j < p.length → y j ≤ 16) : ∀ (t j : Nat), j < t → j < p.length → Fnt .f32 (spO p u j) ∧ 0 ≤ rv .f32 (spO p u j) ∧ rv .f32 (spO p u j) ≤ 8 + (j : Rat) / 50000
  | 0, j, h1, _ => by omega
  | t + 1, 0, _, hj => by
    have e : spO p u 0 = u.getD 0 0 := rfl
    rw [e, h.wd 0 hj]
    have h2 := h.rng 0 hj
    have h3 := hy 0 hj
    have hu := hw_rv (x := y 0) (by omega)
    have hy1 : (1 : Rat) ≤ (y 0 : Rat) := Rat.intCast_le_intCast.2 h2.1
    have hy2 : (y 0 : Rat) ≤ 16 := Rat.intCast_le_intCast.2 h3
    exact ⟨hu.1, by grind, by push_cast; grind⟩
  | t + 1, j + 1, ht, hj => by
    obtain ⟨i, hp, hi⟩ := h.par (j := j + 1) (by omega) hj
    have ih := sp_8 h hy t i (by omega) (by omega)
    have hs := h.share hj (by omega : i < p.length) hp
    have hn := nat_cast_le (show i ≤ j by omega)
    have hn2 := nat_cast_le (show j ≤ 12 by have := isTree_len h.tree; omega)
    rw [spO_S hp hi]
    have hpos := Rat.mul_nonneg ih.2.1 hs.q0
    have hle := Rat.mul_nonneg ih.2.1 (show 0 ≤ 1 - rv .f32 (fop .quo .f32 (u.getD (j + 1) 0) (kidN p u (i : Int) p.length)) by have := hs.q1; grind)
    have := ih.2
    obtain ⟨e, g1, g2, g3, g4⟩ := mul32 (M := 10) ih.1 hs.fq (by grind) (by grind) (by unfold okM; constructor <;> grind)
    have h0 := (mul_rds ih.1 hs.fq).ge fnt32_0.1 g4 (by rw [fnt32_0.2]; exact hpos)
    rw [fnt32_0.2] at h0
    refine ⟨g4, h0, ?_⟩
    rw [g1]; push_cast; grind
/-- .. add up -/
theorem sp_sum {p : List Int} {u : List Nat} {y : Nat → Int} (h : TrH p u y) (hy : ∀ j, j < p.length → y j ≤ 16) {O : List Nat} (hO : ∀ j, j < p.length → O.getD j 0 = spO p u j) {i : Nat} (hi : i < p.length) (hK : 1 ≤ kI p y i p.length) : ∀ m, m ≤ p.length →
    Fnt .f32 (kidN p O (i : Int) m) ∧ rv .f32 (kidN p O (i : Int) m) ≤ rv .f32 (spO p u i) * (((kI p y i m : Int) : Rat) * ((kI p y i p.length : Int) : Rat)⁻¹) + (m : Rat) / 50000 ∧ rv .f32 (spO p u i) * (((kI p y i m : Int) : Rat) * ((kI p y i p.length : Int) : Rat)⁻¹) - (m : Rat) / 50000 ≤ rv .f32 (kidN p O (i : Int) m) ∧
      0 ≤ ((kI p y i m : Int) : Rat) * ((kI p y i p.length : Int) : Rat)⁻¹ ∧ ((kI p y i m : Int) : Rat) * ((kI p y i p.length : Int) : Rat)⁻¹ ≤ 1
  | 0, _ => by
    have e0 := fnt32_0
    have e1 : ((kI p y i 0 : Int) : Rat) = 0 := rfl
    show Fnt .f32 0 ∧ rv .f32 0 ≤ _ ∧ _ ≤ rv .f32 0 ∧ _
    rw [e0.2, e1]
    exact ⟨e0.1, by push_cast; grind, by push_cast; grind, by grind, by grind⟩
  | m + 1, hm => by
    obtain ⟨i1, i2, i3, i4, i5⟩ := sp_sum h hy hO hi hK m (by omega)
    have h8 := sp_8 h hy p.length i hi hi
    have hnn : ∀ k, k < p.length → 0 ≤ (fun k => if p.getD k 0 = (i : Int) then y k else 0) k := fun k hk => by
      show 0 ≤ if p.getD k 0 = (i : Int) then y k else 0
      by_cases hc : p.getD k 0 = (i : Int)
      · rw [if_pos hc]; have := h.rng k hk; omega
      · rw [if_neg hc]; omega
    have hle := smI_mono (f := fun k => if p.getD k 0 = (i : Int) then y k else 0) (m := m + 1) (n := p.length) hnn hm
    have hge := smI_nn (f := fun k => if p.getD k 0 = (i : Int) then y k else 0) (m := m + 1) (fun k hk => hnn k (by omega))
    have e : kI p y i (m + 1) = kI p y i m + if p.getD m 0 = (i : Int) then y m else 0 := rfl
    have hle' : ((kI p y i (m + 1) : Int) : Rat) ≤ ((kI p y i p.length : Int) : Rat) := Rat.intCast_le_intCast.2 hle
    have hge' : (0 : Rat) ≤ ((kI p y i (m + 1) : Int) : Rat) := Rat.intCast_le_intCast.2 hge
    have hK1 : (1 : Rat) ≤ ((kI p y i p.length : Int) : Rat) := Rat.intCast_le_intCast.2 hK
    have hnm := nat_cast_le (show m ≤ 11 by have := isTree_len h.tree; omega)
    have hni := nat_cast_le (show i ≤ 11 by have := isTree_len h.tree; omega)
    have hkc : ((kI p y i p.length : Int) : Rat) * ((kI p y i p.length : Int) : Rat)⁻¹ = 1 := Rat.mul_inv_cancel _ (by grind)
    have hc0 : 0 ≤ ((kI p y i p.length : Int) : Rat)⁻¹ := by
      rcases Rat.le_total (a := 0) (b := ((kI p y i p.length : Int) : Rat)⁻¹) with hx | hx
      · exact hx
      · have := Rat.mul_nonneg (show 0 ≤ -((kI p y i p.length : Int) : Rat)⁻¹ by grind) (show 0 ≤ ((kI p y i p.length : Int) : Rat) by grind); grind
    have hz0 := Rat.mul_nonneg hge' hc0
    have hz1 : ((kI p y i (m + 1) : Int) : Rat) * ((kI p y i p.length : Int) : Rat)⁻¹ ≤ 1 := by
      have := Rat.mul_nonneg (show 0 ≤ ((kI p y i p.length : Int) : Rat) - ((kI p y i (m + 1) : Int) : Rat) by grind) hc0; grind
    suffices hres : Fnt .f32 (kidN p O (i : Int) (m + 1)) ∧ rv .f32 (kidN p O (i : Int) (m + 1)) ≤ rv .f32 (spO p u i) * (((kI p y i (m + 1) : Int) : Rat) * ((kI p y i p.length : Int) : Rat)⁻¹) + ((m + 1 : Nat) : Rat) / 50000 ∧ rv .f32 (spO p u i) * (((kI p y i (m + 1) : Int) : Rat) * ((kI p y i p.length : Int) : Rat)⁻¹) - ((m + 1 : Nat) : Rat) / 50000 ≤ rv .f32 (kidN p O (i : Int) (m + 1)) from ⟨hres.1, hres.2.1, hres.2.2, hz0, hz1⟩
    rw [kidN]
    by_cases hc : p.getD m 0 = (i : Int)
    · rw [if_pos (by simp only [icmp]; exact beq_iff_eq.2 hc), hO m (by omega)]
      rw [if_pos hc] at e
      have hs := h.share (j := m) (by omega) hi hc
      have hm1 : 1 ≤ m := by have := kid_gt h.tree (by omega) hc; omega
      obtain ⟨m', rfl⟩ : ∃ m', m = m' + 1 := ⟨m - 1, by omega⟩
      have hgt := kid_gt h.tree (by omega) hc
      have hom := sp_8 h hy p.length (m' + 1) (by omega) (by omega)
      have eS := spO_S (u := u) hc hgt
      have hq0 := hs.q0; have hq1 := hs.q1; have hlo := hs.qlo; have hhi := hs.qhi; have hzz0 := hs.z0; have hzz1 := hs.z1
      have hpos := Rat.mul_nonneg h8.2.1 hq0
      have hleq := Rat.mul_nonneg h8.2.1 (show 0 ≤ 1 - rv .f32 (fop .quo .f32 (u.getD (m' + 1) 0) (kidN p u (i : Int) p.length)) by grind)
      have h82 := h8.2; have hom2 := hom.2
      obtain ⟨e1, g1, g2, g3, g4⟩ := mul32 (M := 10) h8.1 hs.fq (by grind) (by grind) (by unfold okM; constructor <;> grind)
      rw [← eS] at g1
      have hA := mul_bd (show rv .f32 (spO p u i) ≤ 9 by grind) (by grind) (show rv .f32 (fop .quo .f32 (u.getD (m' + 1) 0) (kidN p u (i : Int) p.length)) - (y (m' + 1) : Rat) * ((kI p y i p.length : Int) : Rat)⁻¹ ≤ 1 / 2000000 by grind) (by grind)
      have hAi := mul_bd (show rv .f32 (spO p u i) ≤ 9 by grind) (by grind) i5 (show -1 ≤ ((kI p y i (m' + 1) : Int) : Rat) * ((kI p y i p.length : Int) : Rat)⁻¹ by grind)
      obtain ⟨e2, k1, k2, k3, k4⟩ := add32 (M := 30) i1 hom.1 (by push_cast at i2; grind) (by push_cast at i3; grind) (by unfold okM; constructor <;> grind)
      have ec : ((kI p y i (m' + 1 + 1) : Int) : Rat) = ((kI p y i (m' + 1) : Int) : Rat) + (y (m' + 1) : Rat) := by rw [e]; push_cast; rfl
      rw [ec]
      refine ⟨k4, ?_, ?_⟩
      · rw [k1, g1]; push_cast at i2 ⊢; grind
      · rw [k1, g1]; push_cast at i3 ⊢; grind
    · rw [if_neg (by simp only [icmp]; exact fun h => hc (beq_iff_eq.1 h))]
      rw [if_neg hc, Int.add_zero] at e
      rw [e]
      refine ⟨i1, ?_, ?_⟩
      · push_cast; grind
      · push_cast; grind
theorem near_01 : (Fnt .f32 1008981770 ∧ 99 / 10000 ≤ rv .f32 1008981770 ∧ least 1008981770 = true) ∧ (Fnt .f32 981668463 ∧ 0 ≤ rv .f32 981668463 ∧ least 981668463 = true) := by unfold Fnt; decide +kernel
theorem spAll {p : List Int} {u : List Nat} (h1 : 1 ≤ p.length) {j : Nat} (hj : j < p.length) : (spN p u (p.length - 1)).getD j 0 = spO p u j := spN_get _ _ (by omega)
/-- the split is a tree's sum, nearly -/
theorem sp_tree {p : List Int} {u : List Nat} {y : Nat → Int} (h : TrH p u y) (hy : ∀ j, j < p.length → y j ≤ 16) : isTreeSum p (spN p u (p.length - 1)) 1008981770 = (true, true) := by
  have hl := isTree_len h.tree
  have hlen : (spN p u (p.length - 1)).length = p.length := by rw [spN_len]; omega
  have h8 := fun j (hj : j < p.length) => sp_8 h hy p.length j hj hj
  unfold isTreeSum
  have hb : both p (spN p u (p.length - 1)) = true := by
    unfold Go.Proofs.Ytjjpjnhjnpplcaa.both
    rw [h.tree, decide_eq_true hlen]
    refine List.all_eq_true.2 fun c hc => ?_
    obtain ⟨i, hi, rfl⟩ := List.getElem_of_mem hc
    have e := spAll (u := u) hl.1 (j := i) (by omega)
    rw [List.getD_eq_getElem?_getD, List.getElem?_eq_getElem hi] at e
    simp only [Option.getD_some] at e
    rw [e]
    exact finB_Fn (h8 i (by omega)).1
  rw [if_pos (by rw [hb, near_01.1.2.2]; rfl)]
  have : (List.range (spN p u (p.length - 1)).length).all (okTree p (spN p u (p.length - 1)) 1008981770) = true := by
    refine List.all_eq_true.2 fun i hi => ?_
    have hi' : i < p.length := by have := List.mem_range.1 hi; omega
    unfold okTree
    by_cases hh : hasK p i p.length = true
    · rw [hh]
      simp only [Bool.not_true, Bool.false_or]
      have hK : 1 ≤ kI p y i p.length := by
        unfold hasK at hh
        obtain ⟨k, hk, hc⟩ := List.any_eq_true.1 hh
        simp only [icmp, beq_iff_eq] at hc
        have := h.one (List.mem_range.1 hk) hc
        have := h.rng k (List.mem_range.1 hk)
        omega
      obtain ⟨k1, k2, k3, k4, k5⟩ := sp_sum h hy (O := spN p u (p.length - 1)) (fun j hj => spAll hl.1 hj) hi' hK p.length (Nat.le_refl _)
      have hK1 : (1 : Rat) ≤ ((kI p y i p.length : Int) : Rat) := Rat.intCast_le_intCast.2 hK
      have hkc : ((kI p y i p.length : Int) : Rat) * ((kI p y i p.length : Int) : Rat)⁻¹ = 1 := Rat.mul_inv_cancel _ (by grind)
      rw [hkc] at k2 k3
      have hn := nat_cast_le hl.2
      have hi8 := h8 i hi'
      have hni := nat_cast_le (show i ≤ 11 by omega)
      have h82 := hi8.2
      rw [spAll hl.1 hi']
      obtain ⟨e, g1, g2, g3, g4⟩ := sub32 (M := 1) hi8.1 k1 (by grind) (by grind) (by unfold okM; constructor <;> grind)
      have ha := absF_rv (c := fop .sub .f32 (spO p u i) (kidN p (spN p u (p.length - 1)) (i : Int) p.length)) (M := 1 / 1000) ⟨g4, by rw [g1]; grind, by rw [g1]; grind⟩
      exact leq_rv ha.1 near_01.1.1 (by have := near_01.1.2.1; grind)
    · have hf : hasK p i p.length = false := by simpa using hh
      rw [hf]; rfl
  rw [this]
/-- sums split into themselves, nearly -/
theorem sp_again {p : List Int} {u : List Nat} {y : Nat → Int} (h : TrH p u y) (hs : ∀ i, i < p.length → hasK p i p.length = true → y i = kI p y i p.length) : ∀ (t j : Nat), j < t → j < p.length → Fnt .f32 (spO p u j) ∧ rv .f32 (spO p u j) ≤ (y j : Rat) / 2 + (j : Rat) * (7 / 100000) ∧ (y j : Rat) / 2 - (j : Rat) * (7 / 100000) ≤ rv .f32 (spO p u j)
  | 0, j, h1, _ => by omega
  | t + 1, 0, _, hj => by
    have e : spO p u 0 = u.getD 0 0 := rfl
    rw [e, h.wd 0 hj]
    have h2 := h.rng 0 hj
    have hu := hw_rv (x := y 0) (by omega)
    exact ⟨hu.1, by push_cast; grind, by push_cast; grind⟩
  | t + 1, j + 1, ht, hj => by
    obtain ⟨i, hp, hi⟩ := h.par (j := j + 1) (by omega) hj
    have ih := sp_again h hs t i (by omega) (by omega)
    have hsh := h.share hj (by omega : i < p.length) hp
    have hn := nat_cast_le (show i ≤ j by omega)
    have hn2 := nat_cast_le (show j ≤ 12 by have := isTree_len h.tree; omega)
    have hhas : hasK p i p.length = true := by
      unfold hasK
      exact List.any_eq_true.2 ⟨j + 1, List.mem_range.2 hj, by simp only [icmp]; exact beq_iff_eq.2 hp⟩
    have hyi := hs i (by omega) hhas
    have hr := h.rng i (by omega)
    have hy1 : (1 : Rat) ≤ (y i : Rat) := Rat.intCast_le_intCast.2 hr.1
    have hy2 : (y i : Rat) ≤ 192 := Rat.intCast_le_intCast.2 hr.2
    rw [spO_S hp hi]
    have hkc := hsh.kc; have hc0 := hsh.c0; have hq0 := hsh.q0; have hq1 := hsh.q1; have hlo := hsh.qlo; have hhi := hsh.qhi; have hz0 := hsh.z0; have hz1 := hsh.z1
    rw [← hyi] at hkc hc0 hlo hhi hz0 hz1
    have ih2 := ih.2
    obtain ⟨e, g1, g2, g3, g4⟩ := mul32 (M := 100) ih.1 hsh.fq (by have := mul_bd (show rv .f32 (spO p u i) ≤ 100 by grind) (show -100 ≤ rv .f32 (spO p u i) by grind) hq1 (by grind); grind) (by have := mul_bd (show rv .f32 (spO p u i) ≤ 100 by grind) (show -100 ≤ rv .f32 (spO p u i) by grind) hq1 (by grind); grind) (by unfold okM; constructor <;> grind)
    refine ⟨g4, ?_⟩
    rw [g1]
    generalize rv .f32 (spO p u i) = A at *
    generalize rv .f32 (fop .quo .f32 (u.getD (j + 1) 0) (kidN p u (i : Int) p.length)) = q at *
    generalize ((y i : Rat))⁻¹ = c at *
    -- (y i / 2) (y j c) = y j / 2
    have hex : (y i : Rat) / 2 * ((y (j + 1) : Rat) * c) = (y (j + 1) : Rat) / 2 := by
      have : (y i : Rat) / 2 * ((y (j + 1) : Rat) * c) = (y (j + 1) : Rat) / 2 * ((y i : Rat) * c) := by grind
      rw [this, hkc]; grind
    have hB := mul_bd (show A ≤ 100 by grind) (show -100 ≤ A by grind) (show q - (y (j + 1) : Rat) * c ≤ 1 / 2000000 by grind) (by grind)
    have hD := mul_bd (show A - (y i : Rat) / 2 ≤ (i : Rat) * (7 / 100000) by grind) (by grind) hz1 (show -1 ≤ (y (j + 1) : Rat) * c by grind)
    push_cast
    constructor <;> grind
end Go.Proofs.Ytjjpjnhjnpplcaa
