import Derived.Test.YtcgimnafomnjcaaYT120
import Derived.Test.YtcgimnafomnjcaaYT116
set_option linter.unusedVariables false
set_option linter.unusedSimpArgs false
set_option maxRecDepth 20000
set_option maxHeartbeats 8000000
namespace Go.Proofs.Ytcgimnafomnjcaa
open Go.Aw

/-! ### the mean of squares in both precisions -/
def sqT (e : List Nat) : Nat → Rat
  | 0 => 0
  | i + 1 => sqT e i + rv .f32 (e.getD i 0) * rv .f32 (e.getD i 0)
def sq64 (e : List Nat) : Nat → Nat
  | 0 => 0
  | i + 1 => fop .add .f64 (sq64 e i) (fop .mul .f64 (fconv .f32 .f64 (e.getD i 0)) (fconv .f32 .f64 (e.getD i 0)))
theorem sq_nn (x : Rat) : 0 ≤ x * x := by
  rcases Rat.le_total (a := 0) (b := x) with h | h
  · exact Rat.mul_nonneg h h
  · have := Rat.mul_nonneg (show 0 ≤ -x by grind) (show 0 ≤ -x by grind)
    grind
theorem sqT_mono {e : List Nat} {i : Nat} : ∀ {k : Nat}, i ≤ k → sqT e i ≤ sqT e k
  | 0, hk => by obtain rfl : i = 0 := by omega
                exact Rat.le_refl
  | k + 1, hk => by
    rcases Nat.lt_or_ge i (k + 1) with h1 | h1
    · have := sqT_mono (e := e) (show i ≤ k by omega); have h2 := sq_nn (rv .f32 (e.getD k 0))
      show _ ≤ sqT e k + _; grind
    · obtain rfl : i = k + 1 := by omega
      exact Rat.le_refl
theorem sqT_le {e : List Nat} : ∀ {k : Nat}, (∀ i, i < k → Bd (e.getD i 0) 5000000000000) → k ≤ 12 → sqT e k ≤ (k : Rat) * 25000000000000000000000000
  | 0, _, _ => by show (0 : Rat) ≤ _; push_cast; grind
  | k + 1, h, hk => by
    have ih := sqT_le (k := k) (fun i hi => h i (by omega)) (by omega)
    have hb := (h k (by omega)).2
    have := (mul_bd hb.1 hb.2 hb.1 hb.2).1
    show sqT e k + _ ≤ _
    push_cast; grind
theorem f0_32 : Fnt .f32 0 ∧ rv .f32 0 = 0 := by unfold Fnt; decide +kernel
/-- in single precision -/
theorem dot_e {e : List Nat} {n : Nat} (he : ∀ i, i < n → Bd (e.getD i 0) 5000000000000) (hn : n ≤ 12) : ∀ m, m ≤ n → Fnt .f32 (dotN e e m) ∧ 0 ≤ rv .f32 (dotN e e m) ∧ rv .f32 (dotN e e m) ≤ sqT e m + (m : Rat) * (3 * ((1 + sqT e n) / 8000000)) ∧ sqT e m ≤ rv .f32 (dotN e e m) + (m : Rat) * (3 * ((1 + sqT e n) / 8000000))
  | 0, _ => by
    show Fnt .f32 0 ∧ 0 ≤ rv .f32 0 ∧ rv .f32 0 ≤ 0 + _ ∧ (0 : Rat) ≤ rv .f32 0 + _
    rw [f0_32.2]
    exact ⟨f0_32.1, Rat.le_refl, by push_cast; grind, by push_cast; grind⟩
  | m + 1, hm => by
    obtain ⟨i1, i2, i3, i4⟩ := dot_e he hn m (by omega)
    have hb := he m (by omega)
    have hT := sqT_le he hn
    have h0 : (0 : Rat) ≤ sqT e n := sqT_mono (e := e) (i := 0) (by omega)
    have hmn := sqT_mono (e := e) (i := m + 1) (k := n) hm
    have hm0 : (0 : Rat) ≤ sqT e m := sqT_mono (e := e) (i := 0) (by omega)
    have hsq := sq_nn (rv .f32 (e.getD m 0))
    have hS : sqT e (m + 1) = sqT e m + rv .f32 (e.getD m 0) * rv .f32 (e.getD m 0) := rfl
    have hnn := nat_cast_le hn
    have hmm := nat_cast_le (show m ≤ 11 by omega)
    have hm00 : (0 : Rat) ≤ (m : Rat) := Rat.natCast_nonneg
    have hmU := Rat.mul_le_mul_of_nonneg_right hmm.1 (show 0 ≤ 3 * ((1 + sqT e n) / 8000000) by grind)
    generalize sqT e n = T at *
    obtain ⟨d, p1, p2, p3, p4⟩ := mul32 (M := 1 + T) hb.1 hb.1 (by grind) (by grind) (by unfold okM; constructor <;> grind)
    have g0 := (mul_rds hb.1 hb.1).ge f0_32.1 p4 (by rw [f0_32.2]; exact hsq)
    rw [f0_32.2] at g0
    obtain ⟨d2, q1, q2, q3, q4⟩ := add32 (M := 2 * (1 + T)) i1 p4 (by rw [p1]; grind) (by grind) (by unfold okM; constructor <;> grind)
    have g1 := (add_rds i1 p4).ge f0_32.1 q4 (by rw [f0_32.2]; grind)
    rw [f0_32.2] at g1
    show Fnt .f32 (fop .add .f32 (dotN e e m) (fop .mul .f32 (e.getD m 0) (e.getD m 0))) ∧ 0 ≤ rv .f32 (fop .add .f32 (dotN e e m) (fop .mul .f32 (e.getD m 0) (e.getD m 0))) ∧ rv .f32 (fop .add .f32 (dotN e e m) (fop .mul .f32 (e.getD m 0) (e.getD m 0))) ≤ _ ∧ _ ≤ rv .f32 (fop .add .f32 (dotN e e m) (fop .mul .f32 (e.getD m 0) (e.getD m 0))) + _
    rw [hS]
    refine ⟨q4, g1, ?_, ?_⟩ <;> rw [q1, p1] <;> push_cast <;> grind
/-- a square in double precision -/
theorem sq_64 {c : Nat} (h : Bd c 5000000000000) : ∃ x, rv .f64 (fop .mul .f64 (fconv .f32 .f64 c) (fconv .f32 .f64 c)) = rv .f32 c * rv .f32 c + x ∧ -((1 + rv .f32 c * rv .f32 c) / 100000000000000) ≤ x ∧ x ≤ (1 + rv .f32 c * rv .f32 c) / 100000000000000 ∧ Fnt .f64 (fop .mul .f64 (fconv .f32 .f64 c) (fconv .f32 .f64 c)) := by
  obtain ⟨a, ha0, ha1, ha2, ha3, ha4⟩ : ∃ a : Rat, 0 ≤ a ∧ rv .f32 c ≤ a ∧ -a ≤ rv .f32 c ∧ a * a = rv .f32 c * rv .f32 c ∧ a ≤ 5000000000000 := by
    have h2 := h.2
    rcases Rat.le_total (a := 0) (b := rv .f32 c) with h1 | h1
    · exact ⟨rv .f32 c, h1, Rat.le_refl, by grind, rfl, h2.1⟩
    · exact ⟨-rv .f32 c, by grind, by grind, by grind, by grind, by grind⟩
  have hq := sq_nn (1 - a)
  have haa := mul_bd ha4 (by grind) ha4 (by grind)
  obtain ⟨δ, w1, w2, w3, w4⟩ := wide_e (c := c) (M := 1 + a) ⟨h.1, by grind, by grind⟩ (by unfold okM; constructor <;> grind)
  have m1 := mul_bd (x := rv .f32 c) (y := δ) (M := a) (N := (1 + a) / 4000000000000000) ha1 ha2 w3 w2
  have m2 := mul_bd (x := δ) (y := δ) (M := (1 + a) / 4000000000000000) (N := (1 + a) / 4000000000000000) w3 w2 w3 w2
  have e1 : rv .f64 (fconv .f32 .f64 c) * rv .f64 (fconv .f32 .f64 c) = rv .f32 c * rv .f32 c + 2 * (rv .f32 c * δ) + δ * δ := by rw [w1]; grind
  have hs := sq_nn (rv .f32 c)
  obtain ⟨x, p1, p2, p3, p4⟩ := mul64 (M := 2 * (1 + rv .f32 c * rv .f32 c)) w4 w4 (by rw [e1]; grind) (by rw [e1]; grind) (by unfold okM; constructor <;> grind)
  refine ⟨2 * (rv .f32 c * δ) + δ * δ + x, by rw [p1, e1]; grind, by grind, by grind, p4⟩
theorem sq64_e {e : List Nat} {n : Nat} (he : ∀ i, i < n → Bd (e.getD i 0) 5000000000000) (hn : n ≤ 12) : ∀ m, m ≤ n → Fnt .f64 (sq64 e m) ∧ rv .f64 (sq64 e m) ≤ sqT e m + (m : Rat) * (3 * ((1 + sqT e n) / 100000000000000)) ∧ sqT e m ≤ rv .f64 (sq64 e m) + (m : Rat) * (3 * ((1 + sqT e n) / 100000000000000))
  | 0, _ => by
    show Fnt .f64 0 ∧ rv .f64 0 ≤ 0 + _ ∧ (0 : Rat) ≤ rv .f64 0 + _
    rw [fnt_0.2]
    exact ⟨fnt_0.1, by push_cast; grind, by push_cast; grind⟩
  | m + 1, hm => by
    obtain ⟨i1, i3, i4⟩ := sq64_e he hn m (by omega)
    have hb := he m (by omega)
    have hT := sqT_le he hn
    have h0 : (0 : Rat) ≤ sqT e n := sqT_mono (e := e) (i := 0) (by omega)
    have hmn := sqT_mono (e := e) (i := m + 1) (k := n) hm
    have hm0 : (0 : Rat) ≤ sqT e m := sqT_mono (e := e) (i := 0) (by omega)
    have hsq := sq_nn (rv .f32 (e.getD m 0))
    have hS : sqT e (m + 1) = sqT e m + rv .f32 (e.getD m 0) * rv .f32 (e.getD m 0) := rfl
    have hnn := nat_cast_le hn
    have hmm := nat_cast_le (show m ≤ 11 by omega)
    have hm00 : (0 : Rat) ≤ (m : Rat) := Rat.natCast_nonneg
    have hmU := Rat.mul_le_mul_of_nonneg_right hmm.1 (show 0 ≤ 3 * ((1 + sqT e n) / 100000000000000) by grind)
    generalize sqT e n = T at *
    obtain ⟨d, p1, p2, p3, p4⟩ := sq_64 hb
    obtain ⟨d2, q1, q2, q3, q4⟩ := add64 (M := 2 * (1 + T)) i1 p4 (by rw [p1]; grind) (by rw [p1]; grind) (by unfold okM; constructor <;> grind)
    show Fnt .f64 (fop .add .f64 (sq64 e m) (fop .mul .f64 (fconv .f32 .f64 (e.getD m 0)) (fconv .f32 .f64 (e.getD m 0)))) ∧ rv .f64 (fop .add .f64 (sq64 e m) (fop .mul .f64 (fconv .f32 .f64 (e.getD m 0)) (fconv .f32 .f64 (e.getD m 0)))) ≤ _ ∧ _ ≤ rv .f64 (fop .add .f64 (sq64 e m) (fop .mul .f64 (fconv .f32 .f64 (e.getD m 0)) (fconv .f32 .f64 (e.getD m 0)))) + _
    rw [hS]
    refine ⟨q4, ?_, ?_⟩ <;> rw [q1, p1] <;> push_cast <;> grind
end Go.Proofs.Ytcgimnafomnjcaa

set_option linter.unusedVariables false
set_option linter.unusedSimpArgs false
set_option maxRecDepth 20000
set_option maxHeartbeats 8000000
namespace Go.Proofs.Ytcgimnafomnjcaa
open Go.Aw

theorem narrow_bd2 {c : Nat} {M : Rat} (h : Bd64 c M) (hM : M ≤ 1000000000000000000000000000000) : fconvOk .f64 .f32 c = true := by
  refine narrow_ok (.inl ?_)
  obtain ⟨s, r, hc, hr, hv⟩ := h.1.ex
  have hw := word_parts .f64 s (r := r) (by have := inf_sw .f64; omega)
  have e : c % 9223372036854775808 = r := by have := hw.1; rw [sw64] at this; rw [hc]; exact this
  rw [e]
  have hb : (1000000000000000000000000000001 : Rat) ≤ rvR .f64 (1150 * 4503599627370496 - 1) := by decide +kernel
  rcases Nat.lt_or_ge r (1150 * 4503599627370496 - 1) with h1 | h1
  · omega
  · have := rvR_mono .f64 h1
    have h2 := h.2
    rw [hv] at h2
    cases s
    · simp only [Bool.false_eq_true, if_false] at h2; grind
    · simp only [if_true] at h2; grind
theorem fn_tab : (List.range 13).all (fun n => decide (fint .f32 (n : Int) < 2 * FloatKind.f32.format.signWeight) && decide (fint .f32 (n : Int) % FloatKind.f32.format.signWeight < FloatKind.f32.format.infRung) && decide (rv .f32 (fint .f32 (n : Int)) = ((n : Nat) : Rat)) &&
    (decide (fint .f64 (n : Int) < 2 * FloatKind.f64.format.signWeight) && decide (fint .f64 (n : Int) % FloatKind.f64.format.signWeight < FloatKind.f64.format.infRung) && decide (rv .f64 (fint .f64 (n : Int)) = ((n : Nat) : Rat)))) = true := by decide +kernel
theorem fn_rv {n : Nat} (h : n ≤ 12) : (Fnt .f32 (fint .f32 (n : Int)) ∧ rv .f32 (fint .f32 (n : Int)) = (n : Rat)) ∧ (Fnt .f64 (fint .f64 (n : Int)) ∧ rv .f64 (fint .f64 (n : Int)) = (n : Rat)) := by
  have := List.all_eq_true.1 fn_tab n (List.mem_range.2 (by omega))
  simp only [Bool.and_eq_true, decide_eq_true_eq] at this
  exact ⟨⟨⟨this.1.1.1, this.1.1.2⟩, this.1.2⟩, ⟨⟨this.2.1.1, this.2.1.2⟩, this.2.2⟩⟩
theorem div_le {z n M : Rat} (h : z * n ≤ M) (hn : 1 ≤ n) (hM : 0 ≤ M) : z ≤ M := by
  rcases Rat.le_total (a := z) (b := 0) with h1 | h1
  · grind
  · have := Rat.mul_nonneg h1 (show 0 ≤ n - 1 by grind)
    grind
structure MeanF (q m : Nat) : Prop where
  fm : Fnt .f32 m ∧ 0 ≤ rv .f32 m ∧ rv .f32 m ≤ 1000000000000000000000000000
  ok : fconvOk .f64 .f32 q = true
  gp : fcmp .gtr .f64 (gapR (fconv .f64 .f32 q) m) (fop .mul .f64 4562254508917369340 (fop .add .f64 4607182418800017408 (fconv .f32 .f64 m))) = false
theorem mean_gap {e : List Nat} {n : Nat} (hl : e.length = n) (he : ∀ i, i < n → Bd (e.getD i 0) 5000000000000) (h1 : 1 ≤ n) (hn : n ≤ 12) : MeanF (fop .quo .f64 (sq64 e n) (fint .f64 (n : Int))) (fop .quo .f32 (dotF e e) (fint .f32 (n : Int))) := by
  have hS : dotF e e = dotN e e n := by unfold dotF; rw [hl]
  rw [hS]
  obtain ⟨a1, a2, a3, a4⟩ := dot_e he hn n (Nat.le_refl _)
  obtain ⟨b1, b3, b4⟩ := sq64_e he hn n (Nat.le_refl _)
  have hT := sqT_le he hn
  have hT0 : (0 : Rat) ≤ sqT e n := sqT_mono (e := e) (i := 0) (by omega)
  obtain ⟨⟨f1, f2⟩, ⟨f3, f4⟩⟩ := fn_rv hn
  have hnn := (nat_cast_le hn).1
  have hn1 := (nat_cast_le h1).1
  have hn12 : (n : Rat) ≤ 12 := by have : ((12 : Nat) : Rat) = 12 := rfl; grind
  have hn01 : (1 : Rat) ≤ (n : Rat) := by have : ((1 : Nat) : Rat) = 1 := rfl; grind
  have hU := Rat.mul_le_mul_of_nonneg_right hn12 (show 0 ≤ 3 * ((1 + sqT e n) / 8000000) by grind)
  have hV := Rat.mul_le_mul_of_nonneg_right hn12 (show 0 ≤ 3 * ((1 + sqT e n) / 100000000000000) by grind)
  generalize sqT e n = T at *
  generalize dotN e e n = S at *
  generalize sq64 e n = Q at *
  generalize fint .f32 (n : Int) = N1 at *
  generalize fint .f64 (n : Int) = N2 at *
  generalize (n : Rat) = N at *
  have hT2 : T ≤ 300000000000000000000000000 := by grind
  obtain ⟨z1, y1, y2, y3⟩ := quo_ex (x := rv .f32 S) (y := N) (M := 2 * (1 + T)) (by grind) (by grind) hn01
  obtain ⟨d1, u1, u2, u3, u4⟩ := quo32 (z := z1) (M := 2 * (1 + T)) a1 f1 (by rw [f2]; grind) (by rw [f2]; exact y1) y2 y3 (by unfold okM; constructor <;> grind)
  obtain ⟨z2, x1, x2, x3⟩ := quo_ex (x := rv .f64 Q) (y := N) (M := 2 * (1 + T)) (by grind) (by grind) hn01
  obtain ⟨d2, v1, v2, v3, v4⟩ := quo64 (z := z2) (M := 2 * (1 + T)) b1 f3 (by rw [f4]; grind) (by rw [f4]; exact x1) x2 x3 (by unfold okM; constructor <;> grind)
  have hz0 : 0 ≤ z1 := by
    rcases Rat.le_total (a := 0) (b := z1) with h | h
    · exact h
    · have := Rat.mul_nonneg (show 0 ≤ -z1 by grind) (show 0 ≤ N - 1 by grind); grind
  have hzz1 := div_le (z := z1 - z2) (n := N) (M := 37 * ((1 + T) / 8000000)) (by grind) hn01 (by grind)
  have hzz2 := div_le (z := z2 - z1) (n := N) (M := 37 * ((1 + T) / 8000000)) (by grind) hn01 (by grind)
  have hTz : T ≤ 12 * z1 + 36 * ((1 + T) / 8000000) := by
    have := Rat.mul_nonneg hz0 (show 0 ≤ 12 - N by grind)
    grind
  have hm0 : Fnt .f32 (fop .quo .f32 S N1) ∧ 0 ≤ rv .f32 (fop .quo .f32 S N1) := by
    obtain ⟨x, hx, hc⟩ := quo_rds (z := z1) a1 f1 (by rw [f2]; grind) (by rw [f2]; exact y1)
    refine ⟨u4, ?_⟩
    have hx0 : 0 ≤ x := by
      rcases hc with hc | hc
      · exact hc.2.1
      · have h3 : z1 = 0 := Rat.le_antisymm hc.1 hz0
        have h4 := hc.2.2.1
        rw [h3] at h4
        grind
    have := hx.ge f0_32.1 u4 (by rw [f0_32.2]; exact hx0)
    rw [f0_32.2] at this
    exact this
  obtain ⟨d3, t1, t2, t3, t4⟩ := thin_e (c := fop .quo .f64 Q N2) (M := 3 * (1 + T)) ⟨v4, by rw [v1]; grind, by rw [v1]; grind⟩ (by unfold okM; constructor <;> grind)
  generalize fop .quo .f32 S N1 = m at *
  have hok := narrow_bd2 (c := fop .quo .f64 Q N2) (M := 3 * (1 + T)) ⟨v4, by rw [v1]; grind, by rw [v1]; grind⟩ (by grind)
  generalize fop .quo .f64 Q N2 = q at *
  generalize hg : fconv .f64 .f32 q = t at *
  obtain ⟨d4, w1, w2, w3, w4⟩ := wide_e (c := t) (M := 4 * (1 + T)) ⟨t4, by rw [t1]; grind, by rw [t1]; grind⟩ (by unfold okM; constructor <;> grind)
  obtain ⟨d5, g1, g2, g3, g4⟩ := wide_e (c := m) (M := 4 * (1 + T)) ⟨u4, by rw [u1]; grind, by rw [u1]; grind⟩ (by unfold okM; constructor <;> grind)
  obtain ⟨e1, p1, p2, p3, p4⟩ := sub64 (M := 10 * (1 + T)) w4 g4 (by grind) (by grind) (by unfold okM; constructor <;> grind)
  obtain ⟨e2, q1, q2, q3, q4⟩ := sub64 (M := 10 * (1 + T)) g4 w4 (by grind) (by grind) (by unfold okM; constructor <;> grind)
  have hm := fmx_rv p4 q4
  have hgap : rv .f64 (gapR t m) ≤ 50 * ((1 + T) / 8000000) := by
    rcases fmx_or (k := .f64) (a := fop .sub .f64 (fconv .f32 .f64 t) (fconv .f32 .f64 m)) (b := fop .sub .f64 (fconv .f32 .f64 m) (fconv .f32 .f64 t)) with h | h | h
    · unfold gapR; rw [h, p1]; grind
    · unfold gapR; rw [h, q1]; grind
    · have := hm.1.notnan; rw [h] at this; exact absurd this (by decide +kernel)
  have k1 : Fnt .f64 4607182418800017408 ∧ rv .f64 4607182418800017408 = 1 := c64.1
  have k2 := k001.1
  obtain ⟨e3, r1, r2, r3, r4⟩ := add64 (M := 10 * (1 + T)) k1.1 g4 (by grind) (by grind) (by unfold okM; constructor <;> grind)
  have hy0 : 0 ≤ rv .f64 (fop .add .f64 4607182418800017408 (fconv .f32 .f64 m)) := by rw [r1]; grind
  have c1 := Rat.mul_nonneg (show 0 ≤ rv .f64 4562254508917369340 - 999 / 1000000 by grind) hy0
  have c2 := Rat.mul_nonneg (show 0 ≤ 1001 / 1000000 - rv .f64 4562254508917369340 by grind) hy0
  obtain ⟨e4, s1, s2, s3, s4⟩ := mul64 (M := 10 * (1 + T)) k2.1 r4 (by grind) (by grind) (by unfold okM; constructor <;> grind)
  refine ⟨⟨hm0.1, hm0.2, by rw [u1]; grind⟩, hok, ?_⟩
  have hm2 : Fnt .f64 (gapR t m) := hm.1
  rw [hg, gtr_rv hm2 s4]
  refine decide_eq_false ?_
  rw [s1]
  grind
end Go.Proofs.Ytcgimnafomnjcaa

