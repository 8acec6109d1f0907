import Derived.Test.YtmnpdipiffmnhaaYT130
import Derived.Test.YtmnpdipiffmnhaaYT131
import Derived.Test.YtmnpdipiffmnhaaYT35
set_option linter.unusedVariables false
set_option linter.unusedSimpArgs false
set_option maxRecDepth 20000
set_option maxHeartbeats 8000000
namespace Go.Proofs.Ytmnpdipiffmnhaa
open Go.Aw

/-! ### spreads do not fall -/
theorem pos_word {c : Nat} (h : Fnt .f32 c) (h1 : 0 < rv .f32 c) : c < FloatKind.f32.format.infRung ∧ rv .f32 c = rvR .f32 c := by
  obtain ⟨s, r, hc, hr, hv⟩ := h.ex
  cases s with
  | false =>
    rw [word_f] at hc
    subst hc
    exact ⟨hr, by rw [hv]; rfl⟩
  | true =>
    rw [hv] at h1
    have := rvR_nn .f32 r
    simp only [if_true] at h1
    grind
theorem half_mono {c d : Nat} (hc : Fnt .f32 c) (hd : Fnt .f32 d) (h0 : 0 < rv .f32 c) (h : rv .f32 c ≤ rv .f32 d) (fc : Fnt .f32 (fop .mul .f32 1056964608 c)) (fd : Fnt .f32 (fop .mul .f32 1056964608 d)) : rv .f32 (fop .mul .f32 1056964608 c) ≤ rv .f32 (fop .mul .f32 1056964608 d) := by
  obtain ⟨c1, c2⟩ := pos_word hc h0
  obtain ⟨d1, d2⟩ := pos_word hd (by grind)
  have hcd : c ≤ d := by
    rcases Nat.lt_or_ge d c with h' | h'
    · have := rvR_lt .f32 h'
      rw [← c2, ← d2] at this
      grind
    · exact h'
  have hh : (1056964608 : Nat) < FloatKind.f32.format.infRung := by decide
  have e1 := mul_word .f32 false false hh c1
  have e2 := mul_word .f32 false false hh d1
  rw [word_f, word_f, show (false ^^ false) = false from rfl, word_f] at e1 e2
  have hm : fop .mul .f32 1056964608 c ≤ fop .mul .f32 1056964608 d := by
    rw [e1, e2]
    exact nearest_mono _ _ (Nat.mul_le_mul_left _ (valR_mono _ hcd))
  have hn : ∀ x, fop .mul .f32 1056964608 x = FloatKind.f32.format.nearest false (valR FloatKind.f32.format 1056964608 * valR FloatKind.f32.format x) (FloatKind.f32.format.leastPlace + FloatKind.f32.format.leastPlace) → Fnt .f32 (fop .mul .f32 1056964608 x) → rv .f32 (fop .mul .f32 1056964608 x) = rvR .f32 (fop .mul .f32 1056964608 x) := fun x he hf => by
    have h2 : fop .mul .f32 1056964608 x < FloatKind.f32.format.infRung := by
      have h3 := hf.2
      have h4 : fop .mul .f32 1056964608 x ≤ FloatKind.f32.format.infRung := by rw [he]; exact nearest_inf _ _ _
      have h5 := inf_sw .f32
      rw [Nat.mod_eq_of_lt (by omega)] at h3
      exact h3
    have := rv_word .f32 false h2
    rw [word_f] at this
    rw [this]; rfl
  rw [hn c e1 fc, hn d e2 fd]
  exact rvR_mono .f32 hm
structure TwI (terms : List Nat) : Prop where
  ft : ∀ i, i < terms.length → Bd (terms.getD i 0) (3 / 8)
  l2 : terms.length ≤ 2
theorem zero_bd : Bd 0 0 := ⟨f0_32.1, by rw [f0_32.2]; decide +kernel, by rw [f0_32.2]; decide +kernel⟩
theorem xin_bd {terms w : List Nat} {k : Nat} (h : TwI terms) (hw : ∀ i, Bd (w.getD i 0) (101 / 100)) : Bd (xin terms w k (min k terms.length)) (101 / 100) := by
  have hl := h.l2
  have hm : ∀ i, i < terms.length → ∀ j, Bd (fop .mul .f32 (terms.getD i 0) (w.getD j 0)) (38 / 100) := fun i hi j => mulB (h.ft i hi) (hw j) (okR (by decide +kernel) (by decide +kernel)) (by decide +kernel)
  have hx0 : Bd (xin terms w k 0) (101 / 100) := by
    show Bd (if k = 0 then 1065353216 else 0) _
    split
    · exact one_bd.mono (by decide +kernel)
    · exact zero_bd.mono (by decide +kernel)
  by_cases hk : k = 0
  · subst hk
    rw [Nat.zero_min]; exact hx0
  have hx1 : xin terms w k 0 = 0 := by show (if k = 0 then 1065353216 else 0) = 0; rw [if_neg hk]
  have hc : min k terms.length = 0 ∨ (min k terms.length = 1 ∧ 1 ≤ terms.length) ∨ (min k terms.length = 2 ∧ 2 ≤ terms.length) := by omega
  rcases hc with e | ⟨e, e2⟩ | ⟨e, e2⟩
  · rw [e]; exact hx0
  · rw [e]
    show Bd (fop .add .f32 (xin terms w k 0) (fop .mul .f32 (terms.getD 0 0) (w.getD (k - 1 - 0) 0))) _
    rw [hx1]
    exact (addB zero_bd (hm 0 (by omega) _) (L := 39 / 100) (okR (by decide +kernel) (by decide +kernel)) (by decide +kernel)).mono (by decide +kernel)
  · rw [e]
    show Bd (fop .add .f32 (fop .add .f32 (xin terms w k 0) (fop .mul .f32 (terms.getD 0 0) (w.getD (k - 1 - 0) 0))) (fop .mul .f32 (terms.getD 1 0) (w.getD (k - 1 - 1) 0))) _
    rw [hx1]
    exact (addB (addB zero_bd (hm 0 (by omega) _) (L := 39 / 100) (okR (by decide +kernel) (by decide +kernel)) (by decide +kernel)) (hm 1 (by omega) _) (L := 80 / 100) (okR (by decide +kernel) (by decide +kernel)) (by decide +kernel)).mono (by decide +kernel)
theorem wL_bd {terms : List Nat} (h : TwI terms) : ∀ n i, Bd ((wL terms n).getD i 0) (101 / 100)
  | 0, i => by
    show Bd (([] : List Nat).getD i 0) _
    rw [List.getD_nil]; exact zero_bd.mono (by decide +kernel)
  | n + 1, i => by
    rw [wL_S, getD_app]
    split
    · exact wL_bd h n i
    · split
      · exact xin_bd h (wL_bd h n)
      · exact zero_bd.mono (by decide +kernel)
structure SmI (terms : List Nat) (n : Nat) : Prop where
  f : Fnt .f32 (smW terms (n + 1))
  lo : 1 ≤ rv .f32 (smW terms (n + 1))
  hi : rv .f32 (smW terms (n + 1)) ≤ 2 * ((n : Rat) + 1)
theorem sm_step {terms : List Nat} (h : TwI terms) {n : Nat} (hn : n ≤ 10) (hs : SmI terms n) : SmI terms (n + 1) ∧ rv .f32 (smW terms (n + 1)) ≤ rv .f32 (smW terms (n + 1 + 1)) := by
  have hx := xin_bd (k := n + 1) h (wL_bd h (n + 1))
  have e := smW_S terms (n + 1)
  generalize xin terms (wL terms (n + 1)) (n + 1) (min (n + 1) terms.length) = x at *
  have hm := mulB hx hx (L := 103 / 100) (okR (by decide +kernel) (by decide +kernel)) (by decide +kernel)
  have h0 := f0_32
  have g1 := (mul_rds hx.1 hx.1).ge h0.1 hm.1 (by rw [h0.2]; exact sq_nn _)
  rw [h0.2] at g1
  generalize fop .mul .f32 x x = y at *
  have b := hm.2
  have hf := hs.f; have hlo := hs.lo; have hhi := hs.hi
  have hnn := (nat_cast_le hn).1
  have e10 : ((10 : Nat) : Rat) = 10 := rfl
  rw [e10] at hnn
  rw [e]
  generalize smW terms (n + 1) = c at *
  obtain ⟨er, p1, p2, p3, p4⟩ := add32 (M := 30) hf hm.1 (by grind) (by grind) (okR (by decide +kernel) (by decide +kernel))
  have g2 := (add_rds hf hm.1).ge hf p4 (by grind)
  have e1 : ((n + 1 : Nat) : Rat) = (n : Rat) + 1 := by push_cast; rfl
  exact ⟨⟨by rw [e]; exact p4, by rw [e]; grind, by rw [e, e1]; grind⟩, g2⟩
theorem sm_one (terms : List Nat) : smW terms 1 = 1065353216 := by
  rw [smW_S, Nat.zero_min, xin0p rfl]
  show fop .add .f32 0 (fop .mul .f32 1065353216 1065353216) = _
  decide +kernel
theorem sm_all {terms : List Nat} (h : TwI terms) : ∀ n, n ≤ 10 → SmI terms n
  | 0, _ => by
    have e : smW terms (0 + 1) = 1065353216 := sm_one terms
    exact ⟨by rw [e]; exact k1_rv.1, by rw [e, k1_rv.2]; decide +kernel, by rw [e, k1_rv.2]; decide +kernel⟩
  | n + 1, hn => (sm_step h (by omega) (sm_all h n (by omega))).1
theorem sp_get {terms : List Nat} {s : Nat} : ∀ {n i : Nat}, i < n → (spL terms s n).getD i 0 = fop .mul .f32 s (smW terms (i + 1))
  | n + 1, i, h => by
    rw [spL_S, getD_app, spL_len]
    split
    · rename_i h2; exact sp_get h2
    · rw [if_pos (by omega)]
      have : i = n := by omega
      rw [this]
theorem sp_fin {terms : List Nat} (h : TwI terms) {i : Nat} (hi : i ≤ 10) : Fnt .f32 (fop .mul .f32 1056964608 (smW terms (i + 1))) := by
  have hs := sm_all h i hi
  have hlo := hs.lo; have hhi := hs.hi
  have hnn := (nat_cast_le hi).1
  have e10 : ((10 : Nat) : Rat) = 10 := rfl
  rw [e10] at hnn
  have hb : Bd (smW terms (i + 1)) 22 := ⟨hs.f, by grind, by grind⟩
  have hh := half32c
  exact (mulB (M := 1 / 2) ⟨hh.1, by rw [hh.2]; exact Rat.le_refl, by rw [hh.2]; decide +kernel⟩ hb (L := 12) (okR (by decide +kernel) (by decide +kernel)) (by decide +kernel)).1
theorem sp_lss {terms : List Nat} (h : TwI terms) {i : Nat} (hi : i + 1 < 8) : fcmp .lss .f32 ((spL terms 1056964608 8).getD (i + 1) 0) ((spL terms 1056964608 8).getD i 0) = false := by
  rw [sp_get hi, sp_get (by omega)]
  have f1 := sp_fin h (i := i) (by omega)
  have f2 := sp_fin h (i := i + 1) (by omega)
  have hs := sm_all h i (by omega)
  have hs2 := sm_step h (by omega) hs
  rw [lss_rv f2 f1]
  exact decide_eq_false (by
    have := half_mono hs.f hs2.1.f (by have := hs.lo; grind) hs2.2 f1 f2
    grind)
theorem sp_0 (terms : List Nat) : (spL terms 1056964608 8).getD 0 0 = 1056964608 := by
  rw [sp_get (by omega)]
  have e : smW terms (0 + 1) = 1065353216 := sm_one terms
  rw [e]
  decide +kernel
theorem sp_ok {terms : List Nat} (h : TwI terms) : pastSpreads terms 1056964608 8 = (spL terms 1056964608 8, true) := by
  have hT : isTerms terms = true := TmI.terms (m := 0) ⟨h.ft, h.l2, zero_bd.mono (by decide +kernel)⟩
  have hF : (spL terms 1056964608 8).all fin = true := List.all_eq_true.2 fun c hc => by
    obtain ⟨i, hi, rfl⟩ := List.getElem_of_mem hc
    rw [spL_len] at hi
    have := finB_Fn (sp_fin h (i := i) (by omega))
    rw [← sp_get (n := 8) hi, List.getD_eq_getElem?_getD, List.getElem?_eq_getElem (by rw [spL_len]; exact hi)] at this
    exact this
  unfold pastSpreads
  rw [hT, show least 1056964608 = true by decide +kernel]
  show (if _ then ifAllF (spL terms 1056964608 8) else _) = _
  rw [if_pos (by decide)]
  unfold ifAllF
  rw [if_pos hF]
theorem gapH_ok : fcmp .gtr .f64 (gapD (fconv .f32 .f64 1056964608) 4602678819172646912) 4562254508917369340 = false := by unfold gapD; decide +kernel
end Go.Proofs.Ytmnpdipiffmnhaa
