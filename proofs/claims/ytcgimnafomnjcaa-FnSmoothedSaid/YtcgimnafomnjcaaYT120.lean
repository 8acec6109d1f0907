import Derived.Test.YtcgimnafomnjcaaYT119
set_option linter.unusedVariables false
set_option linter.unusedSimpArgs false
set_option maxRecDepth 20000
set_option maxHeartbeats 8000000
namespace Go.Proofs.Ytcgimnafomnjcaa
open Go.Aw

/-! ### a run stays finite -/
structure ShB (h : SH) : Prop where
  v : validH h = true
  l : Fnt .f32 h.l ∧ 0 ≤ rv .f32 h.l ∧ rv .f32 h.l ≤ 1
  s : Fnt .f32 h.s ∧ 0 ≤ rv .f32 h.s ∧ rv .f32 h.s ≤ 1
  c : Fnt .f32 h.c ∧ 0 ≤ rv .f32 h.c ∧ rv .f32 h.c ≤ 1
  d : Fnt .f32 h.d ∧ 0 ≤ rv .f32 h.d ∧ rv .f32 h.d ≤ 1
structure StB (M : Rat) (s : ST) : Prop where
  fl : Bd s.l M
  fs : Bd s.s M
  fe : ∀ i, i < s.se.length → Bd (s.se.getD i 0) M
  fn : 1 ≤ s.se.length ∧ s.se.length ≤ 24
  fa : 0 ≤ s.at_ ∧ s.at_ < s.se.length
theorem all_fin2 {l : List Nat} (h : ∀ i, i < l.length → Fnt .f32 (l.getD i 0)) : l.all fin = true := List.all_eq_true.2 fun c hc => by
  obtain ⟨i, hi, rfl⟩ := List.getElem_of_mem hc
  have := h i hi
  rw [List.getD_eq_getElem?_getD, List.getElem?_eq_getElem hi] at this
  exact finB_Fn this
theorem StB.valid {M : Rat} {s : ST} (h : StB M s) : validS s = true := by
  unfold validS
  rw [show fin s.l = true from finB_Fn h.fl.1, show fin s.s = true from finB_Fn h.fs.1, all_fin2 fun i hi => (h.fe i hi).1]
  have h1 : inR ((s.se.length : Nat) : Int) 1 24 = true := by rw [inR_t]; have := h.fn; omega
  have h2 : inR s.at_ 0 ((s.se.length : Int) - 1) = true := by rw [inR_t]; have := h.fa; omega
  rw [h1, h2]; rfl
theorem k1_rv : Fnt .f32 1065353216 ∧ rv .f32 1065353216 = 1 := by unfold Fnt; decide +kernel
/-- a share of a number -/
theorem mulS {a b : Nat} {M N : Rat} (ha : Fnt .f32 a ∧ 0 ≤ rv .f32 a ∧ rv .f32 a ≤ 1) (hb : Bd b M) (hM : okM M) (hN : M * (1001 / 1000) ≤ N) : Bd (fop .mul .f32 a b) N := by
  have h2 := hb.2
  have hM1 := hM.1
  have hp := mul_bd (x := rv .f32 a) (y := rv .f32 b) (M := 1) (N := M) ha.2.2 (by grind) h2.1 h2.2
  obtain ⟨e, h1, h3, h4, h5⟩ := mul32 (M := M) ha.1 hb.1 (by grind) (by grind) hM
  exact ⟨h5, by rw [h1]; grind, by rw [h1]; grind⟩
theorem addB {a b : Nat} {M N L : Rat} (ha : Bd a M) (hb : Bd b N) (hM : okM (M + N)) (hL : (M + N) * (1001 / 1000) ≤ L) : Bd (fop .add .f32 a b) L := by
  have h1 := ha.2; have h2 := hb.2; have hM1 := hM.1
  obtain ⟨e, p1, p3, p4, p5⟩ := add32 (M := M + N) ha.1 hb.1 (by grind) (by grind) hM
  exact ⟨p5, by rw [p1]; grind, by rw [p1]; grind⟩
theorem subB {a b : Nat} {M N L : Rat} (ha : Bd a M) (hb : Bd b N) (hM : okM (M + N)) (hL : (M + N) * (1001 / 1000) ≤ L) : Bd (fop .sub .f32 a b) L := by
  have h1 := ha.2; have h2 := hb.2; have hM1 := hM.1
  obtain ⟨e, p1, p3, p4, p5⟩ := sub32 (M := M + N) ha.1 hb.1 (by grind) (by grind) hM
  exact ⟨p5, by rw [p1]; grind, by rw [p1]; grind⟩
theorem share_mul {a b : Nat} (ha : Fnt .f32 a ∧ 0 ≤ rv .f32 a ∧ rv .f32 a ≤ 1) (hb : Fnt .f32 b ∧ 0 ≤ rv .f32 b ∧ rv .f32 b ≤ 1) : Fnt .f32 (fop .mul .f32 a b) ∧ 0 ≤ rv .f32 (fop .mul .f32 a b) ∧ rv .f32 (fop .mul .f32 a b) ≤ 1 := by
  have hp := Rat.mul_nonneg ha.2.1 hb.2.1
  have hq := mul_bd (x := rv .f32 a) (y := rv .f32 b) (M := 1) (N := 1) ha.2.2 (by grind) hb.2.2 (by grind)
  obtain ⟨e, h1, h3, h4, h5⟩ := mul32 (M := 1) ha.1 hb.1 (by grind) (by grind) (by unfold okM; constructor <;> grind)
  have h0 : Fnt .f32 0 ∧ rv .f32 0 = 0 := by unfold Fnt; decide +kernel
  have r := mul_rds ha.1 hb.1
  have g1 := r.ge h0.1 h5 (by rw [h0.2]; exact hp)
  have g2 := r.le k1_rv.1 h5 (by rw [k1_rv.2]; grind)
  rw [h0.2] at g1; rw [k1_rv.2] at g2
  exact ⟨h5, g1, g2⟩
theorem share_sub {a : Nat} (ha : Fnt .f32 a ∧ 0 ≤ rv .f32 a ∧ rv .f32 a ≤ 1) : Fnt .f32 (fop .sub .f32 1065353216 a) ∧ 0 ≤ rv .f32 (fop .sub .f32 1065353216 a) ∧ rv .f32 (fop .sub .f32 1065353216 a) ≤ 1 := by
  have k1 := k1_rv
  obtain ⟨e, h1, h3, h4, h5⟩ := sub32 (M := 1) k1.1 ha.1 (by grind) (by grind) (by unfold okM; constructor <;> grind)
  have h0 : Fnt .f32 0 ∧ rv .f32 0 = 0 := by unfold Fnt; decide +kernel
  have r := sub_rds k1.1 ha.1
  have g1 := r.ge h0.1 h5 (by rw [h0.2]; grind)
  have g2 := r.le k1_rv.1 h5 (by rw [k1_rv.2]; grind)
  rw [h0.2] at g1; rw [k1_rv.2] at g2
  exact ⟨h5, g1, g2⟩
/-- one step -/
theorem StB.step {M : Rat} {s : ST} {h : SH} {x : Nat} (hs : StB M s) (hh : ShB h) (hx : Bd x M) (h1 : 1 ≤ M) (h2 : M ≤ 1000000000000) :
    Bd (gsF s h) (4 * M) ∧ Bd (erF s h x) (5 * M) ∧ StB (7 * M) (nxF s h x) := by
  have hok : ∀ {c : Rat}, 1 ≤ c → c ≤ 100 → okM (c * M) := fun {c} h3 h4 => by
    have := mul_bd (x := c) (y := M) (M := 100) (N := 1000000000000) h4 (by grind) h2 (by grind)
    have h5 := Rat.mul_le_mul_of_nonneg_right h3 (show (0 : Rat) ≤ M by grind)
    unfold okM; constructor <;> grind
  have hse := hs.fe s.at_.toNat (by have := hs.fa; omega)
  have p1 := mulS (N := M * (1001 / 1000)) hh.d hs.fs (by unfold okM; constructor <;> grind) (by grind)
  have p2 := addB (L := 21 / 10 * M) hs.fl p1 (by unfold okM; constructor <;> grind) (by grind)
  have p3 : Bd (gsF s h) (32 / 10 * M) := addB p2 hse (by unfold okM; constructor <;> grind) (by grind)
  have p4 : Bd (erF s h x) (43 / 10 * M) := subB hx p3 (by unfold okM; constructor <;> grind) (by grind)
  have p5 := mulS (N := 44 / 10 * M) hh.l p4 (by unfold okM; constructor <;> grind) (by grind)
  have p6 := addB (L := 66 / 10 * M) p2 p5 (by unfold okM; constructor <;> grind) (by grind)
  have p7 := mulS (N := 44 / 10 * M) (share_mul hh.l hh.s) p4 (by unfold okM; constructor <;> grind) (by grind)
  have p8 := addB (L := 56 / 10 * M) p1 p7 (by unfold okM; constructor <;> grind) (by grind)
  have p9 := mulS (N := 44 / 10 * M) (share_mul hh.c (share_sub hh.l)) p4 (by unfold okM; constructor <;> grind) (by grind)
  have p10 := addB (L := 56 / 10 * M) hse p9 (by unfold okM; constructor <;> grind) (by grind)
  refine ⟨p3.mono (by grind), p4.mono (by grind), p6.mono (by grind), p8.mono (by grind), fun i hi => ?_, by rw [nxF_len]; exact hs.fn, ?_⟩
  · rw [nxF_len] at hi
    by_cases hc : s.at_.toNat = i
    · have : (nxF s h x).se.getD i 0 = fop .add .f32 (s.se.getD s.at_.toNat 0) (fop .mul .f32 (fop .mul .f32 h.c (fop .sub .f32 1065353216 h.l)) (erF s h x)) := by
        subst hc
        simp [nxF, List.getD_eq_getElem?_getD, hi]
      rw [this]; exact p10.mono (by grind)
    · have : (nxF s h x).se.getD i 0 = s.se.getD i 0 := by
        simp [nxF, List.getD_eq_getElem?_getD, hc]
      rw [this]; exact (hs.fe i hi).mono (by grind)
  · rw [nxF_len]
    show 0 ≤ (s.at_ + 1) % (s.se.length : Int) ∧ (s.at_ + 1) % (s.se.length : Int) < _
    have := hs.fn
    exact ⟨Int.emod_nonneg _ (by omega), Int.emod_lt_of_pos _ (by omega)⟩
def p7 (M : Rat) : Nat → Rat
  | 0 => M
  | k + 1 => 7 * p7 M k
theorem p7_ge {M : Rat} (h : 1 ≤ M) : ∀ k, 1 ≤ p7 M k ∧ M ≤ p7 M k
  | 0 => ⟨h, Rat.le_refl⟩
  | k + 1 => by have := p7_ge h k; unfold p7; constructor <;> grind
theorem p7_mono {M : Rat} (h : 1 ≤ M) {i : Nat} : ∀ {k : Nat}, i ≤ k → p7 M i ≤ p7 M k
  | 0, hk => by obtain rfl : i = 0 := by omega
                exact Rat.le_refl
  | k + 1, hk => by
    rcases Nat.lt_or_ge i (k + 1) with h1 | h1
    · have := p7_mono h (show i ≤ k by omega); have h2 := p7_ge h k
      show _ ≤ 7 * p7 M k; grind
    · obtain rfl : i = k + 1 := by omega
      exact Rat.le_refl
theorem p7_12 : p7 64 12 ≤ 1000000000000 := by decide +kernel
theorem run_bd {s : ST} {h : SH} {a : List Nat} (hs : StB 64 s) (hh : ShB h) (ha : ∀ i, i < a.length → Bd (a.getD i 0) 64) (hl : a.length ≤ 12) : ∀ i, i ≤ a.length → StB (p7 64 i) (rnS s h a i) ∧ (i < a.length → Bd (gsF (rnS s h a i) h) 5000000000000 ∧ Bd (erF (rnS s h a i) h (a.getD i 0)) 5000000000000 ∧ rnO s h a i = true)
  | 0, h0 => by
    refine ⟨hs, fun h1 => ?_⟩
    have st := hs.step hh (ha 0 h1) (by grind) (by grind)
    refine ⟨st.1.mono (by grind), st.2.1.mono (by grind), ?_⟩
    show spOk s h (a.getD 0 0) = true
    unfold spOk
    rw [show fin (gsF s h) = true from finB_Fn st.1.1, show fin (erF s h (a.getD 0 0)) = true from finB_Fn st.2.1.1, st.2.2.valid]; rfl
  | i + 1, h0 => by
    have ih := (run_bd hs hh ha hl i (by omega)).1
    have hg := p7_ge (M := 64) (by grind) i
    have hm := p7_mono (M := 64) (by grind) (show i ≤ 12 by omega)
    have h12 := p7_12
    have st := ih.step hh ((ha i (by omega)).mono hg.2) hg.1 (by grind)
    have ih2 : StB (p7 64 (i + 1)) (rnS s h a (i + 1)) := st.2.2
    refine ⟨ih2, fun h1 => ?_⟩
    have hg2 := p7_ge (M := 64) (by grind) (i + 1)
    have hm2 := p7_mono (M := 64) (by grind) (show i + 1 ≤ 12 by omega)
    have st2 := ih2.step hh ((ha (i + 1) h1).mono hg2.2) hg2.1 (by grind)
    refine ⟨st2.1.mono (by grind), st2.2.1.mono (by grind), ?_⟩
    show spOk (rnS s h a (i + 1)) h (a.getD (i + 1) 0) = true
    unfold spOk
    rw [show fin (gsF (rnS s h a (i + 1)) h) = true from finB_Fn st2.1.1, show fin (erF (rnS s h a (i + 1)) h (a.getD (i + 1) 0)) = true from finB_Fn st2.2.1.1, st2.2.2.valid]; rfl
/-- a run over a short series of small numbers is told -/
theorem run_ok {s : ST} {h : SH} {a : List Nat} (hs : StB 64 s) (hh : ShB h) (ha : ∀ i, i < a.length → Bd (a.getD i 0) 64) (h1 : 1 ≤ a.length) (hl : a.length ≤ 12) : runF s h a = ⟨rnS s h a a.length, rnG s h a, rnE s h a, true⟩ := by
  unfold runF
  rw [if_pos]
  unfold rnOk
  have h3 : isSer a = true := by
    unfold isSer
    rw [decide_eq_true h1, decide_eq_true (by omega : a.length ≤ 96), all_fin2 fun i hi => (ha i hi).1]; rfl
  have h4 : (List.range a.length).all (rnO s h a) = true := List.all_eq_true.2 fun i hi => ((run_bd hs hh ha hl i (by have := List.mem_range.1 hi; omega)).2 (List.mem_range.1 hi)).2.2
  rw [h3, hs.valid, hh.v, h4]; rfl
end Go.Proofs.Ytcgimnafomnjcaa

