import Derived.Test.YtjjpjnhjnpplcaaYT110
set_option linter.unusedVariables false
set_option linter.unusedSimpArgs false
set_option maxRecDepth 20000
set_option maxHeartbeats 8000000
namespace Go.Proofs.Ytjjpjnhjnpplcaa
open Go.Aw

/-! ### what the law asks of a run of levels -/
theorem fmn_rv {k : FloatKind} {a b : Nat} (ha : Fnt k a) (hb : Fnt k b) : Fnt k (fmn k a b) ∧ rv k (fmn k a b) ≤ rv k a ∧ rv k (fmn k a b) ≤ rv k b := by
  unfold fmn
  rw [order_sv k ha.notnan hb.notnan]
  have hs := sv_rv k (a := a) (b := b)
  have hs2 := sv_rv k (a := b) (b := a)
  rcases Int.lt_trichotomy (sv k a) (sv k b) with h | h | h
  · rw [cmp_lt h]; have := hs.1.1 h; exact ⟨ha, Rat.le_refl, by grind⟩
  · rw [cmp_eq h]
    have := hs.2.1 h
    simp only []
    split
    · exact ⟨ha, Rat.le_refl, by grind⟩
    · exact ⟨hb, by grind, Rat.le_refl⟩
  · rw [cmp_gt h]; have := hs2.1.1 h; exact ⟨hb, by grind, Rat.le_refl⟩
theorem fmx_rv {k : FloatKind} {a b : Nat} (ha : Fnt k a) (hb : Fnt k b) : Fnt k (fmx k a b) ∧ rv k a ≤ rv k (fmx k a b) ∧ rv k b ≤ rv k (fmx k a b) := by
  unfold fmx
  rw [order_sv k ha.notnan hb.notnan]
  have hs := sv_rv k (a := a) (b := b)
  have hs2 := sv_rv k (a := b) (b := a)
  rcases Int.lt_trichotomy (sv k a) (sv k b) with h | h | h
  · rw [cmp_lt h]; have := hs.1.1 h; exact ⟨hb, by grind, Rat.le_refl⟩
  · rw [cmp_eq h]
    have := hs.2.1 h
    simp only []
    split
    · exact ⟨hb, by grind, Rat.le_refl⟩
    · exact ⟨ha, Rat.le_refl, by grind⟩
  · rw [cmp_gt h]; have := hs2.1.1 h; exact ⟨ha, Rat.le_refl, by grind⟩
theorem fmn_or {k : FloatKind} {a b : Nat} : fmn k a b = a ∨ fmn k a b = b ∨ fmn k a b = nan0 k := by
  unfold fmn; split
  · exact .inr (.inr rfl)
  · exact .inl rfl
  · exact .inr (.inl rfl)
  · split
    · exact .inl rfl
    · exact .inr (.inl rfl)
theorem fmx_or {k : FloatKind} {a b : Nat} : fmx k a b = a ∨ fmx k a b = b ∨ fmx k a b = nan0 k := by
  unfold fmx; split
  · exact .inr (.inr rfl)
  · exact .inr (.inl rfl)
  · exact .inl rfl
  · split
    · exact .inr (.inl rfl)
    · exact .inl rfl
abbrev W (c : Nat) : Nat := fconv .f32 .f64 c
theorem W_fact {c : Nat} {M : Rat} (h : Bd c M) (hM : okM M) : Fnt .f64 (W c) ∧ rv .f64 (W c) ≤ rv .f32 c + M / 4000000000000000 ∧ rv .f32 c ≤ rv .f64 (W c) + M / 4000000000000000 := by
  obtain ⟨e, h1, h2, h3, h4⟩ := wide_e h hM
  exact ⟨h4, by rw [h1]; grind, by rw [h1]; grind⟩
theorem W_30 {c : Nat} (h : Fnt .f32 c) (h1 : rv .f32 c ≤ 30) (h2 : -30 ≤ rv .f32 c) : Fnt .f64 (W c) ∧ rv .f64 (W c) ≤ rv .f32 c + 1 / 1000000000 ∧ rv .f32 c ≤ rv .f64 (W c) + 1 / 1000000000 := by
  have := W_fact (c := c) (M := 30) ⟨h, h1, h2⟩ (by unfold okM; constructor <;> grind)
  exact ⟨this.1, by have := this.2.1; grind, by have := this.2.2; grind⟩
theorem k001 : (Fnt .f64 4562254508917369340 ∧ 999 / 1000000 ≤ rv .f64 4562254508917369340 ∧ rv .f64 4562254508917369340 ≤ 1001 / 1000000) ∧ (Fnt .f64 13785626545772145148 ∧ rv .f64 13785626545772145148 ≤ -(999 / 1000000)) ∧ fcmp .lss .f64 0 4547007122018943789 = true := by unfold Fnt; decide +kernel
structure LvC (m0 sp0 no dr : Nat) (a : List Nat) (seen : List Bool) (i : Nat) : Prop where
  c1 : seen.getD i false = false → fcmp .neq .f64 (W (lrM m0 sp0 no dr a seen (i + 1)).1) (W (lrM m0 sp0 no dr a seen i).1) = false
  c2 : fcmp .lss .f64 (W (lrM m0 sp0 no dr a seen (i + 1)).1) (fop .sub .f64 (fmn .f64 (W (lrM m0 sp0 no dr a seen i).1) (W (a.getD i 0))) 4562254508917369340) = false
  c3 : fcmp .gtr .f64 (W (lrM m0 sp0 no dr a seen (i + 1)).1) (fop .add .f64 (fmx .f64 (W (lrM m0 sp0 no dr a seen i).1) (W (a.getD i 0))) 4562254508917369340) = false
  c4 : fcmp .gtr .f64 (W (lrM m0 sp0 no dr a seen (i + 1)).2) (fop .add .f64 (fop .add .f64 (W (lrM m0 sp0 no dr a seen i).2) (W dr)) 4562254508917369340) = false
  c5 : fcmp .lss .f32 (lrM m0 sp0 no dr a seen (i + 1)).2 0 = false
  c6 : fcmp .gtr .f64 (W (bkV dr (lrL1 m0 sp0 no dr a seen) (lrL2 m0 sp0 no dr a seen) (a.length - 1 - i)).2) (fop .add .f64 (W (lrM m0 sp0 no dr a seen (i + 1)).2) 4562254508917369340) = false
  c7 : fcmp .lss .f64 (W (bkV dr (lrL1 m0 sp0 no dr a seen) (lrL2 m0 sp0 no dr a seen) (a.length - 1 - i)).2) 13785626545772145148 = false
theorem lvC_of {m0 sp0 no dr : Nat} {a : List Nat} {seen : List Bool} (hI : LvI m0 sp0 no dr) (ha : ∀ i, i < a.length → Bd (a.getD i 0) 4) (h1 : 1 ≤ a.length) (hl : a.length ≤ 12) {i : Nat} (hi : i < a.length) : LvC m0 sp0 no dr a seen i := by
  have hX := lvX (seen := seen) hI ha hl i (by omega)
  have hX1 := lvX (seen := seen) hI ha hl (i + 1) (by omega)
  have hn := nat_cast_le (show i ≤ 11 by omega)
  have hx := ha i hi
  have hst := st_step (hX.hyp hI (by omega) hx) (seen.getD i false)
  have hS := lbS_fact (hX.hyp hI (by omega) hx).sp hI.fdr
  have hB := bkX (seen := seen) hI ha h1 hl (a.length - 1 - i) (by omega)
  have hnb := nat_cast_le (show a.length - 1 - i ≤ 11 by omega)
  have em : (lrM m0 sp0 no dr a seen (i + 1)).1 = stM (lrM m0 sp0 no dr a seen i).1 (lrM m0 sp0 no dr a seen i).2 no dr (a.getD i 0) (seen.getD i false) := rfl
  have ep : (lrM m0 sp0 no dr a seen (i + 1)).2 = stP (lrM m0 sp0 no dr a seen i).1 (lrM m0 sp0 no dr a seen i).2 no dr (a.getD i 0) (seen.getD i false) := rfl
  have hlo := hst.lo; have hhi := hst.hi; have hpS := hst.pS
  rw [← em] at hlo hhi
  rw [← ep] at hpS
  have e0 := fnt32_0
  have hk := k001
  have g1 := hX.fm.2; have g2 := hX.fs.2; have g3 := hx.2; have g4 := hI.fdr.2; have g5 := hX1.fm.2; have g6 := hX1.fs.2
  push_cast at g5 g6
  have wm := W_30 hX.fm.1 (by grind) (by grind)
  have wx := W_30 hx.1 (by grind) (by grind)
  have wm1 := W_30 hX1.fm.1 (by grind) (by grind)
  have wp := W_30 hX.fs.1 (by grind) (by grind)
  have wp1 := W_30 hX1.fs.1 (by grind) (by grind)
  have wd := W_30 hI.fdr.1 (by grind) (by grind)
  have hbh := hB.hi; have hbl := hB.lo
  rw [show a.length - (a.length - 1 - i) = i + 1 by omega] at hbh
  have wb := W_30 hB.fp (by grind) (by grind)
  have hmn := fmn_rv wm.1 wx.1
  have hmx := fmx_rv wm.1 wx.1
  have hmn1 : -30 ≤ rv .f64 (fmn .f64 (W (lrM m0 sp0 no dr a seen i).1) (W (a.getD i 0))) := by
    rcases fmn_or (k := .f64) (a := W (lrM m0 sp0 no dr a seen i).1) (b := W (a.getD i 0)) with h | h | h
    · rw [h]; grind
    · rw [h]; grind
    · have := hmn.1.notnan; rw [h] at this; exact absurd this (by decide +kernel)
  have hmx1 : rv .f64 (fmx .f64 (W (lrM m0 sp0 no dr a seen i).1) (W (a.getD i 0))) ≤ 30 := by
    rcases fmx_or (k := .f64) (a := W (lrM m0 sp0 no dr a seen i).1) (b := W (a.getD i 0)) with h | h | h
    · rw [h]; grind
    · rw [h]; grind
    · have := hmx.1.notnan; rw [h] at this; exact absurd this (by decide +kernel)
  obtain ⟨e1, p1, p2, p3, p4⟩ := sub64 (M := 40) hmn.1 hk.1.1 (by grind) (by grind) (by unfold okM; constructor <;> grind)
  obtain ⟨e2, q1, q2, q3, q4⟩ := add64 (M := 40) hmx.1 hk.1.1 (by grind) (by grind) (by unfold okM; constructor <;> grind)
  obtain ⟨e3, r1, r2, r3, r4⟩ := add64 (M := 40) wp.1 wd.1 (by grind) (by grind) (by unfold okM; constructor <;> grind)
  obtain ⟨e4, s1, s2, s3, s4⟩ := add64 (M := 50) r4 hk.1.1 (by grind) (by grind) (by unfold okM; constructor <;> grind)
  obtain ⟨e5, t1, t2, t3, t4⟩ := add64 (M := 40) wp1.1 hk.1.1 (by grind) (by grind) (by unfold okM; constructor <;> grind)
  refine ⟨fun hb => ?_, ?_, ?_, ?_, ?_, ?_, ?_⟩
  · rw [hb] at em
    have em' : (lrM m0 sp0 no dr a seen (i + 1)).1 = (lrM m0 sp0 no dr a seen i).1 := em
    rw [em', neq_rv wm.1 wm.1]; simp
  · rw [lss_rv wm1.1 p4, p1]
    exact decide_eq_false (by rcases hlo with h | h <;> grind)
  · rw [gtr_rv wm1.1 q4, q1]
    exact decide_eq_false (by rcases hhi with h | h <;> grind)
  · rw [gtr_rv wp1.1 s4, s1, r1]
    exact decide_eq_false (by grind)
  · rw [lss_rv hX1.fs.1 e0.1, e0.2]
    exact decide_eq_false (by grind)
  · rw [gtr_rv wb.1 t4, t1]
    exact decide_eq_false (by grind)
  · rw [lss_rv wb.1 hk.2.1.1]
    exact decide_eq_false (by grind)
theorem bk_last {m0 sp0 no dr : Nat} {a : List Nat} {seen : List Bool} (h1 : 1 ≤ a.length) : (bkV dr (lrL1 m0 sp0 no dr a seen) (lrL2 m0 sp0 no dr a seen) 0).1 = (lrM m0 sp0 no dr a seen a.length).1 := by
  show (lrL1 m0 sp0 no dr a seen).getD ((lrL1 m0 sp0 no dr a seen).length - 1) 0 = _
  rw [lrL1_len, lrL1_get (by omega), show a.length - 1 + 1 = a.length by omega]
theorem gap_self64 {c : Nat} (h : Fnt .f64 c) : gapD c c = 0 := by
  unfold gapD
  have : fcmp .lss .f64 c c = false := by rw [lss_rv h h]; simp [Rat.lt_irrefl]
  rw [if_neg (by rw [this]; exact Bool.false_ne_true), sub_self]
  have : finR .f64 c = true := decide_eq_true h.2
  rw [this]; rfl
theorem sameN_self {c : Nat} (h : Fnt .f32 c) : sameN c c = true := by
  have hn : nn c = false := by rw [nn_eq]; exact h.notnan
  unfold sameN
  rw [hn]
  have ho : fcmp .eql .f32 c c = true := order_refl h.notnan
  simp only [Bool.or_self, Bool.false_eq_true, if_false, ho, beq_self_eq_true, Bool.and_self]
theorem same4_self {a b c d : Nat} (ha : Fnt .f32 a) (hb : Fnt .f32 b) (hc : Fnt .f32 c) (hd : Fnt .f32 d) : and4 (fun x y => sameN x y) a b c d a b c d = true := by
  simp [and4, sameN_self ha, sameN_self hb, sameN_self hc, sameN_self hd]
end Go.Proofs.Ytjjpjnhjnpplcaa
