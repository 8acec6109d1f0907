import Derived.Test.YtjjpjnhjnpplcaaYT109
import Derived.Test.YtjjpjnhjnpplcaaYT42
import Derived.Test.YtjjpjnhjnpplcaaZAwK
set_option linter.unusedVariables false
set_option linter.unusedSimpArgs false
set_option maxRecDepth 20000
set_option maxHeartbeats 8000000
namespace Go.Proofs.Ytjjpjnhjnpplcaa
open Go.Aw

/-! ### one step of a level -/
theorem fnt32_0 : Fnt .f32 0 ∧ rv .f32 0 = 0 := by unfold Fnt; decide +kernel
theorem least_of {c : Nat} (h : Fnt .f32 c) (h0 : 0 ≤ rv .f32 c) : least c = true := by
  unfold least
  have hf : fin c = true := finB_Fn h
  rw [hf, Bool.true_and]
  have e := fnt32_0
  simp only [fcmp]
  rw [order_sv .f32 h.notnan e.1.notnan]
  have hs := sv_rv .f32 (a := c) (b := 0)
  have hs2 := sv_rv .f32 (a := 0) (b := c)
  rw [e.2] at hs hs2
  rcases Int.lt_trichotomy (sv .f32 c) (sv .f32 0) with h1 | h1 | h1
  · have := hs.1.1 h1; grind
  · rw [cmp_eq h1]; rfl
  · rw [cmp_gt h1]; rfl
theorem above_of {c : Nat} (h : Fnt .f32 c) (h0 : 0 < rv .f32 c) : above c = true := by
  unfold above
  have hf : fin c = true := finB_Fn h
  have e := fnt32_0
  rw [hf, Bool.true_and, gtr_rv h e.1, e.2]
  exact decide_eq_true h0
theorem F32_Fnt {c : Nat} (h : Fnt .f32 c) : F32 c := ⟨canon_not h.notnan, by have := h.1; rw [sw32] at this; omega⟩
/-- the logarithm of a number above nought -/
theorem logF_bd {c : Nat} (h : Fnt .f32 c) (h0 : 0 < rv .f32 c) : Bd (logF c) 400 := by
  have e := fnt32_0
  have hF := F32_Fnt h
  have hfin : fin c = true := finB_Fn h
  have k1 : fcmp .eql .f32 c 0 = false := by
    simp only [fcmp]
    rw [order_sv .f32 h.notnan e.1.notnan]
    have hs := sv_rv .f32 (a := 0) (b := c)
    rw [e.2] at hs
    rw [cmp_gt (hs.1.2 h0)]; rfl
  have k2 : fcmp .lss .f32 c 0 = false := by rw [lss_rv h e.1, e.2]; exact decide_eq_false (by grind)
  have k3 : fcmp .neq .f32 c c = false := by rw [neq_rv h h]; simp
  have hp := log_pos hF k1 k2 k3 hfin
  have hW := lgW_bd hp.1 hp.2
  rw [logF4 k1 (by rw [k2, k3]; rfl) hfin]
  obtain ⟨e1, g1, g2, g3, g4⟩ := thin_e hW (by unfold okM; constructor <;> grind)
  have := hW.2
  exact ⟨g4, by rw [g1]; grind, by rw [g1]; grind⟩
structure LvH (m sp no dr x : Nat) : Prop where
  m : Bd m 6
  sp : Fnt .f32 sp ∧ 0 ≤ rv .f32 sp ∧ rv .f32 sp ≤ 20
  no : Fnt .f32 no ∧ 1 / 4 ≤ rv .f32 no ∧ rv .f32 no ≤ 2
  dr : Fnt .f32 dr ∧ 0 ≤ rv .f32 dr ∧ rv .f32 dr ≤ 1 / 2
  x : Bd x 4
theorem half32c : Fnt .f32 1056964608 ∧ rv .f32 1056964608 = 1 / 2 := by unfold Fnt; decide +kernel
/-- the spread that is gone into: sum of spread and drift -/
theorem lbS_fact {sp dr : Nat} (hs : Fnt .f32 sp ∧ 0 ≤ rv .f32 sp ∧ rv .f32 sp ≤ 20) (hd : Fnt .f32 dr ∧ 0 ≤ rv .f32 dr ∧ rv .f32 dr ≤ 1 / 2) :
    Fnt .f32 (lbS dr sp) ∧ rv .f32 sp ≤ rv .f32 (lbS dr sp) ∧ rv .f32 (lbS dr sp) ≤ rv .f32 sp + rv .f32 dr + 1 / 100000 := by
  obtain ⟨e, h1, h2, h3, h4⟩ := add32 (M := 30) hs.1 hd.1 (by have := hs.2; have := hd.2; grind) (by have := hs.2; have := hd.2; grind) (by unfold okM; constructor <;> grind)
  refine ⟨h4, (add_rds hs.1 hd.1).ge hs.1 h4 (by have := hd.2; grind), ?_⟩
  unfold lbS; rw [h1]; grind
structure LvS (m sp no dr x : Nat) (b : Bool) : Prop where
  fm : Fnt .f32 (stM m sp no dr x b)
  lo : rv .f32 m - 1 / 10000 ≤ rv .f32 (stM m sp no dr x b) ∨ rv .f32 x - 1 / 10000 ≤ rv .f32 (stM m sp no dr x b)
  hi : rv .f32 (stM m sp no dr x b) ≤ rv .f32 m + 1 / 10000 ∨ rv .f32 (stM m sp no dr x b) ≤ rv .f32 x + 1 / 10000
  fp : Fnt .f32 (stP m sp no dr x b)
  p0 : 0 ≤ rv .f32 (stP m sp no dr x b)
  pS : rv .f32 (stP m sp no dr x b) ≤ rv .f32 (lbS dr sp)
  low : ∀ N : Rat, 2 ≤ N → N ≤ 70 → 1 ≤ rv .f32 sp * N → 1 ≤ rv .f32 (stP m sp no dr x b) * (N + 5)
  fc : Bd (stC m sp no dr x b) 2000
theorem st_step {m sp no dr x : Nat} (h : LvH m sp no dr x) (b : Bool) : LvS m sp no dr x b := by
  obtain ⟨hm, hs, hn, hd, hx⟩ := h
  have hS := lbS_fact hs hd
  have hm2 := hm.2; have hx2 := hx.2; have hs2 := hs.2; have hn2 := hn.2; have hd2 := hd.2
  cases b with
  | false =>
    refine ⟨hm.1, .inl ?_, .inl ?_, hS.1, ?_, ?_, ?_, ?_⟩
    · show rv .f32 m - 1 / 10000 ≤ rv .f32 m; grind
    · show rv .f32 m ≤ rv .f32 m + 1 / 10000; grind
    · show 0 ≤ rv .f32 (lbS dr sp); grind
    · show rv .f32 (lbS dr sp) ≤ rv .f32 (lbS dr sp); exact Rat.le_refl
    · intro N h1 h2 h3
      show 1 ≤ rv .f32 (lbS dr sp) * (N + 5)
      have := Rat.mul_nonneg (show 0 ≤ rv .f32 (lbS dr sp) - rv .f32 sp by grind) (show 0 ≤ N by grind)
      grind
    · show Bd 0 2000
      have e := fnt32_0
      exact ⟨e.1, by rw [e.2]; grind, by rw [e.2]; grind⟩
  | true =>
    show LvS m sp no dr x true
    have eS : fop .add .f32 sp dr = lbS dr sp := rfl
    have eM : stM m sp no dr x true = lvM m (lbS dr sp) no x := rfl
    have eP : stP m sp no dr x true = lvP (lbS dr sp) no := rfl
    have eC : stC m sp no dr x true = lvC m (lbS dr sp) no x := rfl
    generalize hsd : lbS dr sp = s at *
    obtain ⟨hS1, hS2, hS3⟩ := hS
    -- f = s + no
    obtain ⟨e1, f1, f2, f3, f4⟩ := add32 (M := 30) hS1 hn.1 (by grind) (by grind) (by unfold okM; constructor <;> grind)
    have hf : lvF s no = fop .add .f32 s no := rfl
    rw [← hf] at f1 f4
    have hfp : 24 / 100 ≤ rv .f32 (lvF s no) - rv .f32 s := by rw [f1]; grind
    have hf0 : 0 < rv .f32 (lvF s no) := by grind
    -- k
    have hk := quo1 hS1 f4 (by grind) (by grind) hf0
    obtain ⟨z, z1, z2, z3⟩ : ∃ z, z * rv .f32 (lvF s no) = rv .f32 s ∧ 0 ≤ z ∧ z ≤ 1 := by
      have hinv : rv .f32 s * (rv .f32 (lvF s no))⁻¹ * rv .f32 (lvF s no) = rv .f32 s := by rw [Rat.mul_assoc, Rat.inv_mul_cancel _ (by grind), Rat.mul_one]
      refine ⟨_, hinv, ?_, ?_⟩
      · refine Rat.le_of_mul_le_mul_right ?_ hf0
        rw [hinv]; grind
      · refine Rat.le_of_mul_le_mul_right ?_ hf0
        rw [hinv]; grind
    obtain ⟨e2, k1, k2, k3, k4⟩ := quo32 (M := 1) hS1 f4 (by grind) z1 z3 (by grind) (by unfold okM; constructor <;> grind)
    -- d = x - m
    obtain ⟨e3, d1, d2, d3, d4⟩ := sub32 (M := 10) hx.1 hm.1 (by grind) (by grind) (by unfold okM; constructor <;> grind)
    have hkd := mul_bd (show rv .f32 (fop .quo .f32 s (lvF s no)) ≤ 1 by exact hk.2.2) (show -1 ≤ rv .f32 (fop .quo .f32 s (lvF s no)) by grind) (show rv .f32 (fop .sub .f32 x m) ≤ 11 by rw [d1]; grind) (show -11 ≤ rv .f32 (fop .sub .f32 x m) by rw [d1]; grind)
    obtain ⟨e4, p1, p2, p3, p4⟩ := mul32 (M := 11) k4 d4 (by grind) (by grind) (by unfold okM; constructor <;> grind)
    obtain ⟨e5, m1, m2, m3, m4⟩ := add32 (M := 20) hm.1 p4 (by rw [p1]; grind) (by rw [p1]; grind) (by unfold okM; constructor <;> grind)
    -- the new mean
    have hke := mul_bd (show rv .f32 (fop .quo .f32 s (lvF s no)) ≤ 1 by exact hk.2.2) (show -1 ≤ rv .f32 (fop .quo .f32 s (lvF s no)) by grind) d3 (by grind)
    have hkey : rv .f32 (fop .quo .f32 s (lvF s no)) * rv .f32 (fop .sub .f32 x m) = rv .f32 (fop .quo .f32 s (lvF s no)) * (rv .f32 x - rv .f32 m) + rv .f32 (fop .quo .f32 s (lvF s no)) * e3 := by rw [d1]; grind
    have hmv : rv .f32 (lvM m s no x) = rv .f32 m + rv .f32 (fop .quo .f32 s (lvF s no)) * (rv .f32 x - rv .f32 m) + (rv .f32 (fop .quo .f32 s (lvF s no)) * e3 + e4 + e5) := by
      unfold lvM; rw [m1, p1, hkey]; grind
    -- the new spread
    have hps := mul_rds k4 hS1
    obtain ⟨e6, s1, s2, s3, s4⟩ := mul32 (M := 21) k4 hS1 (by have := Rat.mul_nonneg (show 0 ≤ 1 - rv .f32 (fop .quo .f32 s (lvF s no)) by grind) (show 0 ≤ rv .f32 s by grind); grind) (by have := Rat.mul_nonneg hk.2.1 (show 0 ≤ rv .f32 s by grind); grind) (by unfold okM; constructor <;> grind)
    have hpos := Rat.mul_nonneg hk.2.1 (show 0 ≤ rv .f32 s by grind)
    have hle : rv .f32 (fop .mul .f32 (fop .quo .f32 s (lvF s no)) s) ≤ rv .f32 s := hps.le hS1 s4 (by have := Rat.mul_nonneg (show 0 ≤ 1 - rv .f32 (fop .quo .f32 s (lvF s no)) by grind) (show 0 ≤ rv .f32 s by grind); grind)
    have e0 := fnt32_0
    have hge : 0 ≤ rv .f32 (fop .mul .f32 (fop .quo .f32 s (lvF s no)) s) := by have := hps.ge e0.1 s4 (by rw [e0.2]; exact hpos); rw [e0.2] at this; exact this
    obtain ⟨e7, t1, t2, t3, t4⟩ := sub32 (M := 21) hS1 s4 (by grind) (by grind) (by unfold okM; constructor <;> grind)
    have hp0 : 0 ≤ rv .f32 (lvP s no) := by have := (sub_rds hS1 s4).ge e0.1 t4 (by rw [e0.2]; grind); rw [e0.2] at this; exact this
    have hpS : rv .f32 (lvP s no) ≤ rv .f32 s := (sub_rds hS1 s4).le hS1 t4 (by grind)
    refine ⟨by rw [eM]; exact m4, ?_, ?_, by rw [eP]; exact t4, by rw [eP]; exact hp0, by rw [eP, hsd]; exact hpS, ?_, ?_⟩
    · rw [eM, hmv]
      rcases Rat.le_total (a := rv .f32 m) (b := rv .f32 x) with h | h
      · left; have := Rat.mul_nonneg hk.2.1 (show 0 ≤ rv .f32 x - rv .f32 m by grind); grind
      · right; have := Rat.mul_nonneg (show 0 ≤ 1 - rv .f32 (fop .quo .f32 s (lvF s no)) by grind) (show 0 ≤ rv .f32 m - rv .f32 x by grind); grind
    · rw [eM, hmv]
      rcases Rat.le_total (a := rv .f32 m) (b := rv .f32 x) with h | h
      · right; have := Rat.mul_nonneg (show 0 ≤ 1 - rv .f32 (fop .quo .f32 s (lvF s no)) by grind) (show 0 ≤ rv .f32 x - rv .f32 m by grind); grind
      · left; have := Rat.mul_nonneg hk.2.1 (show 0 ≤ rv .f32 m - rv .f32 x by grind); grind
    · intro N h1 h2 h3
      rw [eP]
      -- g = s (1 - z)
      have hsN : 1 ≤ rv .f32 s * N := by
        have := Rat.mul_nonneg (show 0 ≤ rv .f32 s - rv .f32 sp by grind) (show 0 ≤ N by grind)
        grind
      have hPv : rv .f32 (lvP s no) = rv .f32 s * (1 - z) + (- (e2 * rv .f32 s) - e6 + e7) := by
        unfold lvP; rw [t1, s1, k1]; grind
      have hgf : rv .f32 s * (1 - z) * rv .f32 (lvF s no) = rv .f32 s * (rv .f32 (lvF s no) - rv .f32 s) := by
        have : rv .f32 s * (1 - z) * rv .f32 (lvF s no) = rv .f32 s * (rv .f32 (lvF s no) - z * rv .f32 (lvF s no)) := by grind
        rw [this, z1]
      have he2 := mul_bd k3 (by grind) (show rv .f32 s ≤ 21 by grind) (by grind)
      generalize rv .f32 s * (1 - z) = g at *
      generalize rv .f32 (lvF s no) = F at *
      generalize rv .f32 s = S at *
      have hg : 1 ≤ g * (N + 21 / 5) := by
        refine Rat.le_of_mul_le_mul_right ?_ hf0
        have hA : g * (N + 21 / 5) * F = (g * F) * (N + 21 / 5) := by grind
        rw [hA, hgf]
        -- S (F - S) (N + 4.2) ≥ F
        have b1 := Rat.mul_nonneg (show 0 ≤ S * N - 1 by grind) (show 0 ≤ F - S by grind)
        have b2 := Rat.mul_nonneg (show 0 ≤ (F - S) * (21 / 5) - 1 by grind) (show 0 ≤ S by grind)
        grind
      have hg2 : 1 / 80 ≤ g := by
        rcases Rat.le_total (a := 1 / 80) (b := g) with h | h
        · exact h
        · have hg0 : 0 ≤ g := by
            refine Rat.le_of_mul_le_mul_right (c := F) ?_ hf0
            rw [hgf]
            have := Rat.mul_nonneg (show 0 ≤ S by grind) (show 0 ≤ F - S by grind)
            grind
          have := Rat.mul_nonneg hg0 (show 0 ≤ 75 - (N + 21 / 5) by grind)
          grind
      have hE := mul_bd (x := - (e2 * S) - e6 + e7) (M := 1 / 20000) (y := N + 5) (N := 75) (by grind) (by grind) (by grind) (by grind)
      rw [hPv]
      grind
    · rw [eC]
      have hL := logF_bd f4 hf0
      have hD : Bd (fop .sub .f32 x m) 11 := ⟨d4, by rw [d1]; grind, by rw [d1]; grind⟩
      have hDD := hD.mul hD (L := 250) (by grind) (by unfold okM; constructor <;> grind)
      -- the quotient by f
      have hq : Bd (fop .quo .f32 (fop .mul .f32 (fop .sub .f32 x m) (fop .sub .f32 x m)) (lvF s no)) 2500 := by
        obtain ⟨w, w1, w2, w3⟩ := quo_ex (x := 4 * (rv .f32 (fop .mul .f32 (fop .sub .f32 x m) (fop .sub .f32 x m)))) (y := 5 * rv .f32 (lvF s no)) (M := 1000) (by have := hDD.2; grind) (by have := hDD.2; grind) (by grind)
        obtain ⟨e8, q1, q2, q3, q4⟩ := quo32 (z := w * 5 / 4) (M := 1250) hDD.1 f4 (by grind) (by grind) (by grind) (by grind) (by unfold okM; constructor <;> grind)
        exact ⟨q4, by rw [q1]; grind, by rw [q1]; grind⟩
      obtain ⟨e9, u1, u2, u3, u4⟩ := add32 (M := 3000) hL.1 hq.1 (by have := hL.2; have := hq.2; grind) (by have := hL.2; have := hq.2; grind) (by unfold okM; constructor <;> grind)
      obtain ⟨ea, v1, v2, v3, v4⟩ := mul32 (M := 1501) half32c.1 u4 (by rw [half32c.2, u1]; have := hL.2; have := hq.2; grind) (by rw [half32c.2, u1]; have := hL.2; have := hq.2; grind) (by unfold okM; constructor <;> grind)
      refine ⟨v4, ?_, ?_⟩
      · unfold lvC; rw [v1, half32c.2, u1]; have := hL.2; have := hq.2; grind
      · unfold lvC; rw [v1, half32c.2, u1]; have := hL.2; have := hq.2; grind

/-! ### a run of levels -/
structure LvI (m0 sp0 no dr : Nat) : Prop where
  fm : Bd m0 2
  fs : Fnt .f32 sp0 ∧ 49 / 100 ≤ rv .f32 sp0 ∧ rv .f32 sp0 ≤ 5
  fno : Fnt .f32 no ∧ 1 / 4 ≤ rv .f32 no ∧ rv .f32 no ≤ 2
  fdr : Fnt .f32 dr ∧ 0 ≤ rv .f32 dr ∧ rv .f32 dr ≤ 1 / 2
structure LvX (m0 sp0 no dr : Nat) (a : List Nat) (seen : List Bool) (i : Nat) : Prop where
  fm : Bd (lrM m0 sp0 no dr a seen i).1 (4 + (i : Rat) / 1000)
  fs : Fnt .f32 (lrM m0 sp0 no dr a seen i).2 ∧ 0 ≤ rv .f32 (lrM m0 sp0 no dr a seen i).2 ∧ rv .f32 (lrM m0 sp0 no dr a seen i).2 ≤ 5 + (i : Rat)
  low : 1 ≤ rv .f32 (lrM m0 sp0 no dr a seen i).2 * (3 + 5 * (i : Rat))
theorem LvX.hyp {m0 sp0 no dr : Nat} {a : List Nat} {seen : List Bool} {i : Nat} (h : LvX m0 sp0 no dr a seen i) (hI : LvI m0 sp0 no dr) (hi : i ≤ 12) {x : Nat} (hx : Bd x 4) : LvH (lrM m0 sp0 no dr a seen i).1 (lrM m0 sp0 no dr a seen i).2 no dr x := by
  have hn := nat_cast_le hi
  exact ⟨h.fm.mono (by grind), ⟨h.fs.1, h.fs.2.1, by have := h.fs.2.2; grind⟩, hI.fno, hI.fdr, hx⟩
theorem lvX {m0 sp0 no dr : Nat} {a : List Nat} {seen : List Bool} (hI : LvI m0 sp0 no dr) (ha : ∀ i, i < a.length → Bd (a.getD i 0) 4) (hl : a.length ≤ 12) : ∀ i, i ≤ a.length → LvX m0 sp0 no dr a seen i
  | 0, _ => by
    refine ⟨?_, ?_, ?_⟩
    · show Bd m0 _; exact hI.fm.mono (by push_cast; grind)
    · show Fnt .f32 sp0 ∧ 0 ≤ rv .f32 sp0 ∧ rv .f32 sp0 ≤ _; exact ⟨hI.fs.1, by have := hI.fs.2.1; grind, by have := hI.fs.2.2; push_cast; grind⟩
    · show 1 ≤ rv .f32 sp0 * _; have := hI.fs.2.1; push_cast; grind
  | i + 1, hi => by
    have ih := lvX (seen := seen) hI ha hl i (by omega)
    have hx := ha i (by omega)
    have hn := nat_cast_le (show i ≤ 11 by omega)
    have hs := st_step (ih.hyp hI (by omega) hx) (seen.getD i false)
    have hS := lbS_fact (ih.hyp hI (by omega) hx).sp hI.fdr
    have hx2 := hx.2; have hm2 := ih.fm.2; have hp2 := ih.fs.2
    have hd2 := hI.fdr.2
    refine ⟨⟨hs.fm, ?_, ?_⟩, ⟨hs.fp, hs.p0, ?_⟩, ?_⟩
    · show rv .f32 (stM (lrM m0 sp0 no dr a seen i).1 (lrM m0 sp0 no dr a seen i).2 no dr (a.getD i 0) (seen.getD i false)) ≤ _
      push_cast
      rcases hs.hi with h | h <;> grind
    · show _ ≤ rv .f32 (stM (lrM m0 sp0 no dr a seen i).1 (lrM m0 sp0 no dr a seen i).2 no dr (a.getD i 0) (seen.getD i false))
      push_cast
      rcases hs.lo with h | h <;> grind
    · show rv .f32 (stP (lrM m0 sp0 no dr a seen i).1 (lrM m0 sp0 no dr a seen i).2 no dr (a.getD i 0) (seen.getD i false)) ≤ _
      have := hs.pS
      push_cast
      grind
    · show 1 ≤ rv .f32 (stP (lrM m0 sp0 no dr a seen i).1 (lrM m0 sp0 no dr a seen i).2 no dr (a.getD i 0) (seen.getD i false)) * _
      have := hs.low (3 + 5 * (i : Rat)) (by grind) (by grind) ih.low
      push_cast
      grind
theorem validL_of {m sp no dr : Nat} (hm : Fnt .f32 m) (hs : Fnt .f32 sp ∧ 0 ≤ rv .f32 sp) (hn : Fnt .f32 no ∧ 1 / 4 ≤ rv .f32 no) (hd : Fnt .f32 dr ∧ 0 ≤ rv .f32 dr) : validL m sp no dr = true := by
  unfold validL
  rw [show fin m = true from finB_Fn hm, least_of hs.1 hs.2, above_of hn.1 (by grind), least_of hd.1 hd.2]; rfl
theorem lr_ok {m0 sp0 no dr : Nat} {a : List Nat} {seen : List Bool} (hI : LvI m0 sp0 no dr) (ha : ∀ i, i < a.length → Bd (a.getD i 0) 4) (h1 : 1 ≤ a.length) (hl : a.length ≤ 12) (hs : seen.length = a.length) :
    levelRun m0 sp0 no dr a seen = ⟨lrL1 m0 sp0 no dr a seen, lrL2 m0 sp0 no dr a seen, lrS m0 sp0 no dr a seen a.length, true⟩ := by
  have hser : isSer a = true := by
    unfold isSer
    simp only [Bool.and_eq_true, decide_eq_true_eq]
    refine ⟨⟨h1, by omega⟩, List.all_eq_true.2 fun c hc => ?_⟩
    obtain ⟨i, hi, rfl⟩ := List.getElem_of_mem hc
    have := (ha i hi).fin
    rw [List.getD_eq_getElem?_getD, List.getElem?_eq_getElem hi] at this
    exact this
  have hO : ∀ i, i < a.length → lrO m0 sp0 no dr a seen i = true := fun i hi => by
    have hx := lvX (seen := seen) hI ha hl i (by omega)
    have hs := st_step (hx.hyp hI (by omega) (ha i hi)) (seen.getD i false)
    unfold lrO stOk
    rw [validL_of hx.fm.1 ⟨hx.fs.1, hx.fs.2.1⟩ ⟨hI.fno.1, hI.fno.2.1⟩ ⟨hI.fdr.1, hI.fdr.2.1⟩, show fin (a.getD i 0) = true from (ha i hi).fin, validL_of hs.fm ⟨hs.fp, hs.p0⟩ ⟨hI.fno.1, hI.fno.2.1⟩ ⟨hI.fdr.1, hI.fdr.2.1⟩,
      show fin (stC (lrM m0 sp0 no dr a seen i).1 (lrM m0 sp0 no dr a seen i).2 no dr (a.getD i 0) (seen.getD i false)) = true from hs.fc.fin]
    rfl
  have hC : ∀ i, i ≤ a.length → Bd (lrS m0 sp0 no dr a seen i) (2001 * (i : Rat)) := by
    intro i
    induction i with
    | zero => intro _; have e := fnt32_0; exact ⟨e.1, by show rv .f32 0 ≤ _; rw [e.2]; push_cast; grind, by show _ ≤ rv .f32 0; rw [e.2]; push_cast; grind⟩
    | succ i ih =>
      intro hi
      have ih := ih (by omega)
      have hn := nat_cast_le (show i ≤ 11 by omega)
      have hx := lvX (seen := seen) hI ha hl i (by omega)
      have hs := (st_step (hx.hyp hI (by omega) (ha i (by omega))) (seen.getD i false)).fc
      obtain ⟨e, g1, g2, g3, g4⟩ := add32 (M := 40000) ih.1 hs.1 (by have := ih.2; have := hs.2; grind) (by have := ih.2; have := hs.2; grind) (by unfold okM; constructor <;> grind)
      have := ih.2; have := hs.2
      refine ⟨g4, ?_, ?_⟩
      · show rv .f32 (fop .add .f32 (lrS m0 sp0 no dr a seen i) (stC (lrM m0 sp0 no dr a seen i).1 (lrM m0 sp0 no dr a seen i).2 no dr (a.getD i 0) (seen.getD i false))) ≤ _
        rw [g1]; push_cast; grind
      · show _ ≤ rv .f32 (fop .add .f32 (lrS m0 sp0 no dr a seen i) (stC (lrM m0 sp0 no dr a seen i).1 (lrM m0 sp0 no dr a seen i).2 no dr (a.getD i 0) (seen.getD i false)))
        rw [g1]; push_cast; grind
  unfold levelRun
  rw [if_pos]
  unfold lrOk
  rw [validL_of hI.fm.1 ⟨hI.fs.1, by have := hI.fs.2.1; grind⟩ ⟨hI.fno.1, hI.fno.2.1⟩ ⟨hI.fdr.1, hI.fdr.2.1⟩, hser, decide_eq_true hs, show fin (lrS m0 sp0 no dr a seen a.length) = true from (hC _ (Nat.le_refl _)).fin]
  simp only [Bool.true_and, Bool.and_true]
  exact List.all_eq_true.2 fun i hi => hO i (List.mem_range.1 hi)
/-- spreads do not depend on numbers -/
theorem lrM_2 {m0 sp0 no dr : Nat} {a b : List Nat} {seen : List Bool} : ∀ i, (lrM m0 sp0 no dr a seen i).2 = (lrM m0 sp0 no dr b seen i).2
  | 0 => rfl
  | i + 1 => by
    show stP (lrM m0 sp0 no dr a seen i).1 (lrM m0 sp0 no dr a seen i).2 no dr (a.getD i 0) (seen.getD i false) = stP (lrM m0 sp0 no dr b seen i).1 (lrM m0 sp0 no dr b seen i).2 no dr (b.getD i 0) (seen.getD i false)
    unfold stP
    rw [lrM_2 (a := a) (b := b) i]
theorem lrL2_eq {m0 sp0 no dr : Nat} {a b : List Nat} {seen : List Bool} (h : a.length = b.length) : lrL2 m0 sp0 no dr a seen = lrL2 m0 sp0 no dr b seen := by
  unfold lrL2
  rw [h]
  exact List.map_congr_left fun i _ => lrM_2 (i + 1)

/-! ### and back -/
theorem lb_step {dr p p1 : Nat} {δ : Rat} (hp : Fnt .f32 p ∧ 0 < rv .f32 p ∧ rv .f32 p ≤ 18) (hd : Fnt .f32 dr ∧ 0 ≤ rv .f32 dr ∧ rv .f32 dr ≤ 1 / 2) (hp1 : Fnt .f32 p1) (hu : rv .f32 p1 ≤ rv .f32 (lbS dr p) + δ) (hl : -δ ≤ rv .f32 p1) (hδ : 0 ≤ δ ∧ δ ≤ 1 / 1000) :
    fcmp .gtr .f32 (lbS dr p) 0 = true ∧ (Fnt .f32 (lbJ dr p) ∧ 0 ≤ rv .f32 (lbJ dr p) ∧ rv .f32 (lbJ dr p) ≤ 1) ∧ Fnt .f32 (lbP dr p p1) ∧ rv .f32 (lbP dr p p1) ≤ rv .f32 p + δ + 1 / 20000 ∧ -(δ + 1 / 20000) ≤ rv .f32 (lbP dr p p1) := by
  have hS := lbS_fact (sp := p) ⟨hp.1, by have := hp.2.1; grind, by have := hp.2.2; grind⟩ hd
  have e0 := fnt32_0
  have hp2 := hp.2; have hd2 := hd.2
  have hw0 : 0 < rv .f32 (lbS dr p) := by grind
  have hk := quo1 hp.1 hS.1 (by grind) hS.2.1 hw0
  refine ⟨by rw [gtr_rv hS.1 e0.1, e0.2]; exact decide_eq_true hw0, hk, ?_⟩
  obtain ⟨z, z1, z2, z3⟩ : ∃ z, z * rv .f32 (lbS dr p) = rv .f32 p ∧ 0 ≤ z ∧ z ≤ 1 := by
    have hinv : rv .f32 p * (rv .f32 (lbS dr p))⁻¹ * rv .f32 (lbS dr p) = rv .f32 p := by rw [Rat.mul_assoc, Rat.inv_mul_cancel _ (by grind), Rat.mul_one]
    refine ⟨_, hinv, ?_, ?_⟩
    · refine Rat.le_of_mul_le_mul_right ?_ hw0
      rw [hinv]; grind
    · refine Rat.le_of_mul_le_mul_right ?_ hw0
      rw [hinv]; have := hS.2.1; grind
  obtain ⟨e1, k1, k2, k3, k4⟩ := quo32 (M := 1) hp.1 hS.1 (by grind) z1 z3 (by grind) (by unfold okM; constructor <;> grind)
  have hj : lbJ dr p = fop .quo .f32 p (lbS dr p) := rfl
  rw [← hj] at k1 k4 hk
  have hS2 := hS.2
  unfold lbP
  generalize lbS dr p = w at *
  generalize lbJ dr p = c at *
  have hk2 := hk.2
  -- J = c c
  have hcc : rv .f32 c * rv .f32 c ≤ rv .f32 c := by have := Rat.mul_nonneg hk2.1 (show 0 ≤ 1 - rv .f32 c by grind); grind
  have hcc0 : 0 ≤ rv .f32 c * rv .f32 c := Rat.mul_nonneg hk2.1 hk2.1
  obtain ⟨e2, j1, j2, j3, j4⟩ := mul32 (M := 1) k4 k4 (by grind) (by grind) (by unfold okM; constructor <;> grind)
  have hJc : rv .f32 (fop .mul .f32 c c) ≤ rv .f32 c := (mul_rds k4 k4).le k4 j4 hcc
  have hJ0 : 0 ≤ rv .f32 (fop .mul .f32 c c) := by have := (mul_rds k4 k4).ge e0.1 j4 (by rw [e0.2]; exact hcc0); rw [e0.2] at this; exact this
  obtain ⟨e3, d1, d2, d3, d4⟩ := sub32 (M := 25) hp1 hS.1 (by grind) (by grind) (by unfold okM; constructor <;> grind)
  have hJD := mul_bd (show rv .f32 (fop .mul .f32 c c) ≤ 1 by grind) (show -1 ≤ rv .f32 (fop .mul .f32 c c) by grind) (show rv .f32 (fop .sub .f32 p1 w) ≤ 26 by rw [d1]; grind) (show -26 ≤ rv .f32 (fop .sub .f32 p1 w) by rw [d1]; grind)
  obtain ⟨e4, q1, q2, q3, q4⟩ := mul32 (M := 26) j4 d4 (by grind) (by grind) (by unfold okM; constructor <;> grind)
  obtain ⟨e5, r1, r2, r3, r4⟩ := add32 (M := 50) hp.1 q4 (by rw [q1]; grind) (by rw [q1]; grind) (by unfold okM; constructor <;> grind)
  refine ⟨r4, ?_, ?_⟩
  · rw [r1, q1, d1]
    generalize rv .f32 (fop .mul .f32 c c) = J at *
    have h1 := Rat.mul_nonneg hJ0 (show 0 ≤ rv .f32 w + δ - rv .f32 p1 by grind)
    have h2 := Rat.mul_nonneg (show 0 ≤ 1 - J by grind) (show 0 ≤ δ by grind)
    have h3 := mul_bd (show J ≤ 1 by grind) (show -1 ≤ J by grind) d3 (by grind)
    grind
  · rw [r1, q1, d1]
    generalize rv .f32 (fop .mul .f32 c c) = J at *
    -- J w ≤ c w ≤ p + little
    have h1 := Rat.mul_nonneg (show 0 ≤ rv .f32 c - J by grind) (show 0 ≤ rv .f32 w by grind)
    have hcw : rv .f32 c * rv .f32 w = rv .f32 p + e1 * rv .f32 w := by rw [k1]; grind
    have h4 := mul_bd k3 (by grind) (show rv .f32 w ≤ 19 by grind) (by grind)
    have h2 := Rat.mul_nonneg hJ0 (show 0 ≤ rv .f32 p1 + δ by grind)
    have h5 := Rat.mul_nonneg (show 0 ≤ 1 - J by grind) (show 0 ≤ δ by grind)
    have h3 := mul_bd (show J ≤ 1 by grind) (show -1 ≤ J by grind) d3 (by grind)
    grind
theorem lbM_bd {dr m p m1 : Nat} {B : Rat} (hc : Fnt .f32 (lbJ dr p) ∧ 0 ≤ rv .f32 (lbJ dr p) ∧ rv .f32 (lbJ dr p) ≤ 1) (hm : Bd m 6) (h1 : Bd m1 B) (hB : 0 ≤ B ∧ B ≤ 300) : Bd (lbM dr m p m1) (B + 20) := by
  have hm2 := hm.2; have h12 := h1.2
  obtain ⟨e3, d1, d2, d3, d4⟩ := sub32 (M := 400) h1.1 hm.1 (by grind) (by grind) (by unfold okM; constructor <;> grind)
  have hJD := mul_bd (show rv .f32 (lbJ dr p) ≤ 1 by exact hc.2.2) (show -1 ≤ rv .f32 (lbJ dr p) by have := hc.2.1; grind) (show rv .f32 (fop .sub .f32 m1 m) ≤ B + 7 by rw [d1]; grind) (show -(B + 7) ≤ rv .f32 (fop .sub .f32 m1 m) by rw [d1]; grind)
  obtain ⟨e4, q1, q2, q3, q4⟩ := mul32 (M := 400) hc.1 d4 (by grind) (by grind) (by unfold okM; constructor <;> grind)
  obtain ⟨e5, r1, r2, r3, r4⟩ := add32 (M := 500) hm.1 q4 (by rw [q1]; grind) (by rw [q1]; grind) (by unfold okM; constructor <;> grind)
  unfold lbM
  exact ⟨r4, by rw [r1, q1]; grind, by rw [r1, q1]; grind⟩
/-- the new values, from the end -/
def bkV (dr : Nat) (A B : List Nat) : Nat → Nat × Nat
  | 0 => (A.getD (A.length - 1) 0, B.getD (A.length - 1) 0)
  | t + 1 => (lbM dr (A.getD (A.length - 2 - t) 0) (B.getD (A.length - 2 - t) 0) (bkV dr A B t).1, lbP dr (B.getD (A.length - 2 - t) 0) (bkV dr A B t).2)
theorem lbR_get {dr : Nat} {A B : List Nat} (hAB : B.length = A.length) (h1 : 1 ≤ A.length) : ∀ t, t ≤ A.length - 1 → ∀ i, i < A.length →
    (lbR dr A.length A B t).1.getD i 0 = (if A.length - 1 - t ≤ i then (bkV dr A B (A.length - 1 - i)).1 else A.getD i 0) ∧ (lbR dr A.length A B t).2.getD i 0 = (if A.length - 1 - t ≤ i then (bkV dr A B (A.length - 1 - i)).2 else B.getD i 0)
  | 0, _, i, hi => by
    simp only [lbR]
    by_cases h : A.length - 1 - 0 ≤ i
    · have : i = A.length - 1 := by omega
      subst this
      rw [if_pos h, if_pos h, show A.length - 1 - (A.length - 1) = 0 by omega]
      exact ⟨rfl, rfl⟩
    · rw [if_neg h, if_neg h]; exact ⟨rfl, rfl⟩
  | t + 1, ht, i, hi => by
    have ih := lbR_get (dr := dr) (A := A) (B := B) hAB h1 t (by omega)
    have hl := lbR_len dr A.length A B t
    have a1 := ih (A.length - 2 - t) (by omega)
    have a2 := ih (A.length - 1 - t) (by omega)
    rw [if_neg (by omega), if_neg (by omega)] at a1
    rw [if_pos (by omega), if_pos (by omega), show A.length - 1 - (A.length - 1 - t) = t by omega] at a2
    have a0 := ih i hi
    simp only [lbR]
    rw [a1.1, a1.2, a2.1, a2.2, getD_set (by rw [hl.1]; omega), getD_set (by rw [hl.2]; omega)]
    by_cases h : i = A.length - 2 - t
    · rw [if_pos h, if_pos h, if_pos (by omega), if_pos (by omega), show A.length - 1 - i = t + 1 by omega]
      exact ⟨rfl, rfl⟩
    · rw [if_neg h, if_neg h, a0.1, a0.2]
      by_cases h2 : A.length - 1 - t ≤ i
      · rw [if_pos h2, if_pos h2, if_pos (by omega), if_pos (by omega)]; exact ⟨rfl, rfl⟩
      · rw [if_neg h2, if_neg h2, if_neg (by omega), if_neg (by omega)]; exact ⟨rfl, rfl⟩
theorem lrL1_get {m0 sp0 no dr : Nat} {a : List Nat} {seen : List Bool} {i : Nat} (h : i < a.length) : (lrL1 m0 sp0 no dr a seen).getD i 0 = (lrM m0 sp0 no dr a seen (i + 1)).1 := getD_mapR _ h
theorem lrL2_get {m0 sp0 no dr : Nat} {a : List Nat} {seen : List Bool} {i : Nat} (h : i < a.length) : (lrL2 m0 sp0 no dr a seen).getD i 0 = (lrM m0 sp0 no dr a seen (i + 1)).2 := getD_mapR _ h
structure BkX (m0 sp0 no dr : Nat) (a : List Nat) (seen : List Bool) (t : Nat) : Prop where
  fm : Bd (bkV dr (lrL1 m0 sp0 no dr a seen) (lrL2 m0 sp0 no dr a seen) t).1 (6 + 20 * (t : Rat))
  fp : Fnt .f32 (bkV dr (lrL1 m0 sp0 no dr a seen) (lrL2 m0 sp0 no dr a seen) t).2
  hi : rv .f32 (bkV dr (lrL1 m0 sp0 no dr a seen) (lrL2 m0 sp0 no dr a seen) t).2 ≤ rv .f32 (lrM m0 sp0 no dr a seen (a.length - t)).2 + (t : Rat) / 20000
  lo : -((t : Rat) / 20000) ≤ rv .f32 (bkV dr (lrL1 m0 sp0 no dr a seen) (lrL2 m0 sp0 no dr a seen) t).2
theorem low_pos {m0 sp0 no dr : Nat} {a : List Nat} {seen : List Bool} {i : Nat} (h : LvX m0 sp0 no dr a seen i) (hi : i ≤ 12) : 0 < rv .f32 (lrM m0 sp0 no dr a seen i).2 := by
  have hn := nat_cast_le hi
  rcases Rat.le_total (a := rv .f32 (lrM m0 sp0 no dr a seen i).2) (b := 0) with h0 | h0
  · have := Rat.mul_nonneg (show 0 ≤ -rv .f32 (lrM m0 sp0 no dr a seen i).2 by grind) (show 0 ≤ 3 + 5 * (i : Rat) by grind)
    have := h.low
    grind
  · rcases Rat.le_iff_lt_or_eq.1 h0 with h1 | h1
    · exact h1
    · have := h.low; rw [← h1] at this; grind
theorem bkX {m0 sp0 no dr : Nat} {a : List Nat} {seen : List Bool} (hI : LvI m0 sp0 no dr) (ha : ∀ i, i < a.length → Bd (a.getD i 0) 4) (h1 : 1 ≤ a.length) (hl : a.length ≤ 12) : ∀ t, t ≤ a.length - 1 → BkX m0 sp0 no dr a seen t
  | 0, _ => by
    have hX := lvX (seen := seen) hI ha hl a.length (Nat.le_refl _)
    have hn := nat_cast_le hl
    have e1 : (bkV dr (lrL1 m0 sp0 no dr a seen) (lrL2 m0 sp0 no dr a seen) 0) = ((lrM m0 sp0 no dr a seen a.length).1, (lrM m0 sp0 no dr a seen a.length).2) := by
      show ((lrL1 m0 sp0 no dr a seen).getD ((lrL1 m0 sp0 no dr a seen).length - 1) 0, (lrL2 m0 sp0 no dr a seen).getD ((lrL1 m0 sp0 no dr a seen).length - 1) 0) = _
      rw [lrL1_len, lrL1_get (by omega), lrL2_get (by omega), show a.length - 1 + 1 = a.length by omega]
    refine ⟨?_, ?_, ?_, ?_⟩ <;> rw [e1]
    · exact hX.fm.mono (by push_cast; grind)
    · exact hX.fs.1
    · rw [Nat.sub_zero]; push_cast; grind
    · have := hX.fs.2.1; push_cast; grind
  | t + 1, ht => by
    have ih := bkX (seen := seen) hI ha h1 hl t (by omega)
    have hn := nat_cast_le (show t ≤ 11 by omega)
    have hX := lvX (seen := seen) hI ha hl (a.length - 1 - t) (by omega)
    have hn2 := nat_cast_le (show a.length - 1 - t ≤ 12 by omega)
    have hpos := low_pos hX (by omega)
    have hst := st_step (hX.hyp hI (by omega) (ha (a.length - 1 - t) (by omega))) (seen.getD (a.length - 1 - t) false)
    have e1 : (bkV dr (lrL1 m0 sp0 no dr a seen) (lrL2 m0 sp0 no dr a seen) (t + 1)) = (lbM dr (lrM m0 sp0 no dr a seen (a.length - 1 - t)).1 (lrM m0 sp0 no dr a seen (a.length - 1 - t)).2 (bkV dr (lrL1 m0 sp0 no dr a seen) (lrL2 m0 sp0 no dr a seen) t).1, lbP dr (lrM m0 sp0 no dr a seen (a.length - 1 - t)).2 (bkV dr (lrL1 m0 sp0 no dr a seen) (lrL2 m0 sp0 no dr a seen) t).2) := by
      show (lbM dr ((lrL1 m0 sp0 no dr a seen).getD ((lrL1 m0 sp0 no dr a seen).length - 2 - t) 0) ((lrL2 m0 sp0 no dr a seen).getD ((lrL1 m0 sp0 no dr a seen).length - 2 - t) 0) _, lbP dr ((lrL2 m0 sp0 no dr a seen).getD ((lrL1 m0 sp0 no dr a seen).length - 2 - t) 0) _) = _
      rw [lrL1_len, lrL1_get (by omega), lrL2_get (by omega), show a.length - 2 - t + 1 = a.length - 1 - t by omega]
    have hpS : rv .f32 (lrM m0 sp0 no dr a seen (a.length - t)).2 ≤ rv .f32 (lbS dr (lrM m0 sp0 no dr a seen (a.length - 1 - t)).2) := by
      have := hst.pS
      rw [show a.length - t = (a.length - 1 - t) + 1 by omega]
      exact this
    have hs := lb_step (δ := (t : Rat) / 20000) ⟨hX.fs.1, hpos, by have := hX.fs.2.2; grind⟩ hI.fdr ih.fp (by have := ih.hi; grind) ih.lo (by constructor <;> grind)
    refine ⟨?_, ?_, ?_, ?_⟩ <;> rw [e1]
    · have := lbM_bd hs.2.1 (hX.fm.mono (N := 6) (by grind)) ih.fm (by constructor <;> grind)
      exact this.mono (by push_cast; grind)
    · exact hs.2.2.1
    · have := hs.2.2.2.1
      rw [show a.length - (t + 1) = a.length - 1 - t by omega]
      push_cast
      grind
    · have := hs.2.2.2.2
      push_cast
      grind
theorem lbR_1 {m0 sp0 no dr : Nat} {a : List Nat} {seen : List Bool} (h1 : 1 ≤ a.length) {i : Nat} (hi : i < a.length) :
    (lbR dr a.length (lrL1 m0 sp0 no dr a seen) (lrL2 m0 sp0 no dr a seen) (a.length - 1)).1.getD i 0 = (bkV dr (lrL1 m0 sp0 no dr a seen) (lrL2 m0 sp0 no dr a seen) (a.length - 1 - i)).1 ∧
    (lbR dr a.length (lrL1 m0 sp0 no dr a seen) (lrL2 m0 sp0 no dr a seen) (a.length - 1)).2.getD i 0 = (bkV dr (lrL1 m0 sp0 no dr a seen) (lrL2 m0 sp0 no dr a seen) (a.length - 1 - i)).2 := by
  have hL := lrL1_len m0 sp0 no dr a seen
  have := lbR_get (dr := dr) (A := lrL1 m0 sp0 no dr a seen) (B := lrL2 m0 sp0 no dr a seen) (by rw [lrL1_len, lrL2_len]) (by omega) (a.length - 1) (by omega) i (by omega)
  rw [hL, if_pos (by omega), if_pos (by omega)] at this
  exact this
theorem lb_ok {m0 sp0 no dr : Nat} {a : List Nat} {seen : List Bool} (hI : LvI m0 sp0 no dr) (ha : ∀ i, i < a.length → Bd (a.getD i 0) 4) (h1 : 1 ≤ a.length) (hl : a.length ≤ 12) (hs : seen.length = a.length) :
    levelBack m0 sp0 no dr a seen = ⟨(lbR dr a.length (lrL1 m0 sp0 no dr a seen) (lrL2 m0 sp0 no dr a seen) (a.length - 1)).1, (lbR dr a.length (lrL1 m0 sp0 no dr a seen) (lrL2 m0 sp0 no dr a seen) (a.length - 1)).2, true⟩ := by
  unfold levelBack
  rw [lr_ok hI ha h1 hl hs]
  dsimp only
  have hL1 := lrL1_len m0 sp0 no dr a seen
  have hL2 := lrL2_len m0 sp0 no dr a seen
  rw [if_pos]
  rw [Bool.true_and]
  unfold lbOk
  have hG : ∀ t, t < a.length - 1 → lbG dr a.length (lrL1 m0 sp0 no dr a seen) (lrL2 m0 sp0 no dr a seen) t = true := fun t ht => by
    unfold lbG
    have hg := (lbR_get (dr := dr) (A := lrL1 m0 sp0 no dr a seen) (B := lrL2 m0 sp0 no dr a seen) (by rw [hL1, hL2]) (by omega) t (by omega) (a.length - 2 - t) (by omega)).2
    rw [hL1, if_neg (by omega), lrL2_get (by omega), show a.length - 2 - t + 1 = a.length - 1 - t by omega] at hg
    rw [hg]
    have hX := lvX (seen := seen) hI ha hl (a.length - 1 - t) (by omega)
    have hn2 := nat_cast_le (show a.length - 1 - t ≤ 12 by omega)
    have hb := bkX (seen := seen) hI ha h1 hl t (by omega)
    have hn := nat_cast_le (show t ≤ 11 by omega)
    have hst := st_step (hX.hyp hI (by omega) (ha (a.length - 1 - t) (by omega))) (seen.getD (a.length - 1 - t) false)
    have hpS : rv .f32 (lrM m0 sp0 no dr a seen (a.length - t)).2 ≤ rv .f32 (lbS dr (lrM m0 sp0 no dr a seen (a.length - 1 - t)).2) := by
      have := hst.pS
      rw [show a.length - t = (a.length - 1 - t) + 1 by omega]
      exact this
    exact (lb_step (δ := (t : Rat) / 20000) ⟨hX.fs.1, low_pos hX (by omega), by have := hX.fs.2.2; grind⟩ hI.fdr hb.fp (by have := hb.hi; grind) hb.lo (by constructor <;> grind)).1
  have hlen := lbR_len dr a.length (lrL1 m0 sp0 no dr a seen) (lrL2 m0 sp0 no dr a seen) (a.length - 1)
  have hF1 : (lbR dr a.length (lrL1 m0 sp0 no dr a seen) (lrL2 m0 sp0 no dr a seen) (a.length - 1)).1.all fin = true := List.all_eq_true.2 fun c hc => by
    obtain ⟨i, hi, rfl⟩ := List.getElem_of_mem hc
    rw [hlen.1, hL1] at hi
    have hg := (lbR_1 (m0 := m0) (sp0 := sp0) (no := no) (dr := dr) (seen := seen) h1 hi).1
    rw [List.getD_eq_getElem?_getD, List.getElem?_eq_getElem (by rw [hlen.1, hL1]; exact hi)] at hg
    simp only [Option.getD_some] at hg
    rw [hg]
    exact (bkX (seen := seen) hI ha h1 hl (a.length - 1 - i) (by omega)).fm.fin
  have hF2 : (lbR dr a.length (lrL1 m0 sp0 no dr a seen) (lrL2 m0 sp0 no dr a seen) (a.length - 1)).2.all fin = true := List.all_eq_true.2 fun c hc => by
    obtain ⟨i, hi, rfl⟩ := List.getElem_of_mem hc
    rw [hlen.2, hL2] at hi
    have hg := (lbR_1 (m0 := m0) (sp0 := sp0) (no := no) (dr := dr) (seen := seen) h1 hi).2
    rw [List.getD_eq_getElem?_getD, List.getElem?_eq_getElem (by rw [hlen.2, hL2]; exact hi)] at hg
    simp only [Option.getD_some] at hg
    rw [hg]
    exact finB_Fn (bkX (seen := seen) hI ha h1 hl (a.length - 1 - i) (by omega)).fp
  rw [hF1, hF2, Bool.and_true, Bool.and_true]
  exact List.all_eq_true.2 fun t ht => hG t (List.mem_range.1 ht)
end Go.Proofs.Ytjjpjnhjnpplcaa
