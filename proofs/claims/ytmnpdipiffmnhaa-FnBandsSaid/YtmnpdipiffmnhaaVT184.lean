import Derived.Test.YtmnpdipiffmnhaaVT180
import Derived.Test.YtmnpdipiffmnhaaVT183
import Derived.Test.YtmnpdipiffmnhaaVT159
set_option linter.unusedVariables false
set_option linter.unusedSimpArgs false
set_option maxRecDepth 20000
set_option maxHeartbeats 8000000
namespace Go.Proofs.Ytmnpdipiffmnhaa
open Go.Aw

/-! ### bands without misses are the ways ahead, nearly: the ways ahead -/
structure AhE (h : SH) (k : Nat) : Prop where
  f1 : Fnt .f32 (ahF h k).1
  f2 : Fnt .f32 (ahF h k).2
  a1 : rv .f32 (ahF h k).2 - fX (rv .f32 h.d) k ≤ (k : Rat) / 1000000
  a2 : fX (rv .f32 h.d) k - rv .f32 (ahF h k).2 ≤ (k : Rat) / 1000000
  b1 : rv .f32 (ahF h k).1 - dX (rv .f32 h.d) k ≤ (k : Rat) * 6 / 1000000
  b2 : dX (rv .f32 h.d) k - rv .f32 (ahF h k).1 ≤ (k : Rat) * 6 / 1000000
theorem ah_run {h : SH} (hh : ShB h) : ∀ k, k ≤ 4 → AhE h k
  | 0, _ => by
    have e : ((0 : Nat) : Rat) = 0 := rfl
    refine ⟨hh.d.1, hh.d.1, ?_, ?_, ?_, ?_⟩
    all_goals (show rv .f32 h.d - rv .f32 h.d ≤ _; grind)
  | k + 1, hk => by
    have ih := ah_run hh k (by omega)
    have hd := hh.d
    have hkk := bdk (k := k) (by omega)
    have fb := f_bd hd.2.1 hd.2.2 k
    have fb1 := f_bd hd.2.1 hd.2.2 (k + 1)
    have db := d_bd hd.2.1 hd.2.2 k
    have ha1 := ih.a1; have ha2 := ih.a2; have hb1 := ih.b1; have hb2 := ih.b2
    have ek : ((k + 1 : Nat) : Rat) = (k : Rat) + 1 := by push_cast; rfl
    have dd := mul_bd (x := rv .f32 (ahF h k).2 - fX (rv .f32 h.d) k) (y := rv .f32 h.d) (M := (k : Rat) / 1000000) (N := 1) ha1 (by grind) hd.2.2 (by grind)
    have dde : rv .f32 (ahF h k).2 * rv .f32 h.d = (rv .f32 (ahF h k).2 - fX (rv .f32 h.d) k) * rv .f32 h.d + fX (rv .f32 h.d) (k + 1) := by show _ = _ + fX (rv .f32 h.d) k * rv .f32 h.d; grind
    obtain ⟨e1, p1, p2, p3, p4⟩ := mul32 (a := (ahF h k).2) (b := h.d) (M := 2) ih.f2 hd.1 (by grind) (by grind) (by unfold okM; constructor <;> grind)
    obtain ⟨e2, q1, q2, q3, q4⟩ := add32 (a := (ahF h k).1) (b := fop .mul .f32 (ahF h k).2 h.d) (M := 7) ih.f1 p4 (by grind) (by grind) (by unfold okM; constructor <;> grind)
    refine ⟨q4, p4, ?_, ?_, ?_, ?_⟩
    · show rv .f32 (fop .mul .f32 (ahF h k).2 h.d) - _ ≤ _
      rw [p1, ek]; grind
    · show _ - rv .f32 (fop .mul .f32 (ahF h k).2 h.d) ≤ _
      rw [p1, ek]; grind
    · show rv .f32 (fop .add .f32 (ahF h k).1 (fop .mul .f32 (ahF h k).2 h.d)) - (dX (rv .f32 h.d) k + fX (rv .f32 h.d) (k + 1)) ≤ _
      rw [q1, p1, ek]; grind
    · show (dX (rv .f32 h.d) k + fX (rv .f32 h.d) (k + 1)) - rv .f32 (fop .add .f32 (ahF h k).1 (fop .mul .f32 (ahF h k).2 h.d)) ≤ _
      rw [q1, p1, ek]; grind
theorem ahV_bd {s : ST} {h : SH} {k : Nat} (hs : StB 64 s) (hh : ShB h) (hk : k ≤ 4) : Bd (ahV s h k) 600 ∧ rv .f32 (ahV s h k) - (rv .f32 s.l + dX (rv .f32 h.d) k * rv .f32 s.s + rv .f32 (s.se.getD ((s.at_.toNat + k) % s.se.length) 0)) ≤ 20 / 10000 ∧
    (rv .f32 s.l + dX (rv .f32 h.d) k * rv .f32 s.s + rv .f32 (s.se.getD ((s.at_.toNat + k) % s.se.length) 0)) - rv .f32 (ahV s h k) ≤ 20 / 10000 := by
  have H := ah_run hh k hk
  have hd := hh.d
  have hkk := bdk hk
  have db := d_bd hd.2.1 hd.2.2 k
  have hb1 := H.b1; have hb2 := H.b2
  have hn := hs.fn
  have hmod := Nat.mod_lt (s.at_.toNat + k) (show 0 < s.se.length by omega)
  have hsb := hs.fe _ hmod
  have hsl := hs.fl
  have hss := hs.fs
  have d1 := mul_bd (x := rv .f32 (ahF h k).1 - dX (rv .f32 h.d) k) (y := rv .f32 s.s) (M := (k : Rat) * 6 / 1000000) (N := 64) hb1 (by grind) hss.2.1 hss.2.2
  have d2 := mul_bd (x := dX (rv .f32 h.d) k) (y := rv .f32 s.s) (M := 5) (N := 64) (by grind) (by grind) hss.2.1 hss.2.2
  have dde : rv .f32 (ahF h k).1 * rv .f32 s.s = (rv .f32 (ahF h k).1 - dX (rv .f32 h.d) k) * rv .f32 s.s + dX (rv .f32 h.d) k * rv .f32 s.s := by grind
  obtain ⟨e1, p1, p2, p3, p4⟩ := mul32 (a := (ahF h k).1) (b := s.s) (M := 330) H.f1 hss.1 (by grind) (by grind) (by unfold okM; constructor <;> grind)
  obtain ⟨e2, q1, q2, q3, q4⟩ := add32 (a := s.l) (b := fop .mul .f32 (ahF h k).1 s.s) (M := 400) hsl.1 p4 (by have := hsl.2; grind) (by have := hsl.2; grind) (by unfold okM; constructor <;> grind)
  obtain ⟨e3, r1, r2, r3, r4⟩ := add32 (a := fop .add .f32 s.l (fop .mul .f32 (ahF h k).1 s.s)) (b := s.se.getD ((s.at_.toNat + k) % s.se.length) 0) (M := 500) q4 hsb.1 (by have := hsl.2; have := hsb.2; grind) (by have := hsl.2; have := hsb.2; grind) (by unfold okM; constructor <;> grind)
  have hv : ahV s h k = fop .add .f32 (fop .add .f32 s.l (fop .mul .f32 (ahF h k).1 s.s)) (s.se.getD ((s.at_.toNat + k) % s.se.length) 0) := rfl
  have l2 := hsl.2; have b2 := hsb.2
  rw [hv]
  exact ⟨⟨r4, by rw [r1]; grind, by rw [r1]; grind⟩, by rw [r1]; grind, by rw [r1]; grind⟩
theorem bnS_z (s : ST) (h : SH) (sd : Nat) : ∀ k, bnS s h [0] sd k = bnS s h [0] 0 k
  | 0 => rfl
  | k + 1 => by
    have e : ∀ sd, bnS s h [0] sd (k + 1) = nxF (bnS s h [0] sd k) h (fop .add .f32 (gsF (bnS s h [0] sd k) h) 0) := fun sd => by rw [bnS_S]; unfold bnX; rw [z_get]
    rw [e, e, bnS_z s h sd k]
theorem bnX_z (s : ST) (h : SH) (sd k : Nat) : bnX s h [0] sd k = fop .add .f32 (gsF (bnS s h [0] 0 k) h) 0 := by unfold bnX; rw [z_get, bnS_z]
theorem bd_z : ∀ i, i < [0].length → Bd ([0].getD i 0) 64 := fun i _ => by rw [z_get]; exact bd_0
/-- the middle of draws that are all the same -/
theorem none_rv {s : ST} {h : SH} {sd C D k : Nat} (hs : StB 64 s) (hh : ShB h) (hsd : sd < 4294967296) (hD : 1 ≤ D ∧ D ≤ 8) (hk : k < 5) : rv .f32 (quantG (bcL s h [0] sd C D k) sh2) = rv .f32 (gsF (bnS s h [0] 0 k) h) := by
  have hB := bcL_bnd (C := C) (D := D) (m := [0]) hs hh bd_z (by simp) hsd hk
  have hl := bcL_len s h [0] sd C D k
  have G := (noM_run (sd := 0) hs hh k (by omega)).step hs hh (by omega)
  have gx := rvz_add G.g.1 one_01.2.2.1 one_01.2.2.2 (by have := G.g.2.1; grind) (by have := G.g.2.2; grind)
  have hall : ∀ x ∈ bcL s h [0] sd C D k, rv .f32 x = rv .f32 (gsF (bnS s h [0] 0 k) h) := fun x hx => by
    obtain ⟨d, _, rfl⟩ := List.mem_map.1 hx
    rw [bnX_z]; exact gx.2
  have hsrt : ∀ i, i < D → rv .f32 ((sortF (bcL s h [0] sd C D k)).getD i 0) = rv .f32 (gsF (bnS s h [0] 0 k) h) := fun i hi => hall _ (sortF_mem (fun x hx => (hB x hx).1) (mem_at (by rw [sortF_len, hl]; exact hi)))
  have q := q8_of hD.1 hD.2
  obtain ⟨f, l, u⟩ := quant_in (sh := sh2) hB (by omega) (by rw [hl]; exact q.f2)
  rw [hl, q.a2] at l u
  by_cases hq : (D - 1) / 2 + 1 < D
  · have a := l (by omega)
    have b := u hq
    rw [hsrt _ (by omega)] at a b
    exact Rat.le_antisymm b a
  · have c : (bcL s h [0] sd C D k).length ≤ qAt (bcL s h [0] sd C D k).length sh2 + 1 := by rw [hl, q.a2]; omega
    rw [quant_1 c]
    exact hsrt _ (by omega)
theorem gapR_lo {a b : Nat} (ha : Bd a 1000) (hb : Bd b 1000) : Fnt .f64 (gapR a b) ∧ -(1 / 100000000) ≤ rv .f64 (gapR a b) ∧ rv .f64 (gapR a b) ≤ 3000 := by
  have wa := W_fact ha (by unfold okM; constructor <;> grind)
  have wb := W_fact hb (by unfold okM; constructor <;> grind)
  have ha2 := ha.2; have hb2 := hb.2
  obtain ⟨e1, p1, p2, p3, p4⟩ := sub64 (M := 3000) wa.1 wb.1 (by grind) (by grind) (by unfold okM; constructor <;> grind)
  obtain ⟨e2, q1, q2, q3, q4⟩ := sub64 (M := 3000) wb.1 wa.1 (by grind) (by grind) (by unfold okM; constructor <;> grind)
  have hm := fmx_rv p4 q4
  have hle := gapR_le (ε := 2000) ha hb (by grind) (by grind)
  refine ⟨hm.1, ?_, by have := hle.2; grind⟩
  have h1 := hm.2.1; have h2 := hm.2.2
  unfold gapR
  rw [p1] at h1; rw [q1] at h2
  grind
theorem c01 : Fnt .f64 4576918229304087675 ∧ 99 / 10000 ≤ rv .f64 4576918229304087675 ∧ rv .f64 4576918229304087675 ≤ 101 / 10000 := by unfold Fnt; decide +kernel
theorem one64 : Fnt .f64 4607182418800017408 ∧ rv .f64 4607182418800017408 = 1 := by unfold Fnt; decide +kernel
theorem band_none {s : ST} {h : SH} {sd C D k : Nat} (hs : StB 64 s) (hh : ShB h) (hsd : sd < 4294967296) (hC : C ≤ 5) (hD : 1 ≤ D ∧ D ≤ 8) (hk : k < C) :
    fcmp .gtr .f64 (gapR ((bqL s h [0] sd C D sh2).getD k 0) (ahV s h k)) (fop .mul .f64 4576918229304087675 (fop .add .f64 4607182418800017408 (gapR (ahV s h k) 0))) = false := by
  have G := (noM_run (sd := 0) hs hh k (by omega)).step hs hh (by omega)
  have hr := none_rv (C := C) (D := D) (k := k) hs hh hsd hD (by omega)
  obtain ⟨A, a1, a2⟩ := ahV_bd (k := k) hs hh (by omega)
  have id := id_2 (rv .f32 h.d) (rv .f32 s.s) (rv .f32 s.l) k
  have g1 := G.g1; have g2 := G.g2
  have hB := bcL_bnd (C := C) (D := D) (m := [0]) hs hh bd_z (by simp) hsd (show k < 5 by omega)
  have hl := bcL_len s h [0] sd C D k
  have q := q8_of hD.1 hD.2
  have f := (quant_in (sh := sh2) hB (by omega) (by rw [hl]; exact q.f2)).1
  have hN : Bd (quantG (bcL s h [0] sd C D k) sh2) 1000 := ⟨f, by rw [hr]; have := G.g.2.1; grind, by rw [hr]; have := G.g.2.2; grind⟩
  have hA : Bd (ahV s h k) 1000 := A.mono (by grind)
  rw [bqL_get hk]
  have hg := gapR_le (ε := 40 / 10000) hN hA (by rw [hr]; grind) (by rw [hr]; grind)
  have h0 : Bd 0 1000 := bd_0.mono (by grind)
  have hlo := gapR_lo hA h0
  have o1 := one64; have o2 := c01
  obtain ⟨e1, p1, p2, p3, p4⟩ := add64 (M := 4000) o1.1 hlo.1 (by grind) (by grind) (by unfold okM; constructor <;> grind)
  have m1 := Rat.mul_nonneg (show 0 ≤ rv .f64 4576918229304087675 - 99 / 10000 by grind) (show 0 ≤ rv .f64 (fop .add .f64 4607182418800017408 (gapR (ahV s h k) 0)) by rw [p1]; grind)
  have m2 := Rat.mul_nonneg (show 0 ≤ 101 / 10000 - rv .f64 4576918229304087675 by grind) (show 0 ≤ rv .f64 (fop .add .f64 4607182418800017408 (gapR (ahV s h k) 0)) by rw [p1]; grind)
  obtain ⟨e2, q1, q2, q3, q4⟩ := mul64 (M := 100) o2.1 p4 (by grind) (by grind) (by unfold okM; constructor <;> grind)
  rw [gtr_rv hg.1 q4]
  refine decide_eq_false ?_
  rw [q1]
  grind
end Go.Proofs.Ytmnpdipiffmnhaa

set_option linter.unusedVariables false
set_option linter.unusedSimpArgs false
set_option maxRecDepth 20000
set_option maxHeartbeats 8000000
namespace Go.Proofs.Ytmnpdipiffmnhaa
open Go.Aw

/-! ### needs and seasons that are given: tables over the share -/
abbrev needsL : List Nat := [0, 0, 1082130432, 0, 0, 1082130432, 0, 0, 1082130432, 0, 0, 1082130432]
abbrev seas5 : List Nat := [1073741824, 1082130432, 1073741824, 1082130432, 1073741824]
def near43 (x : Nat) : Bool := fin x && fcmp .lss .f64 (gapR x 1068149419) 4562254508917369340
theorem need_0 : isSer needsL = true ∧ needsL.all least = true ∧ idxOf (fun x => fcmp .gtr .f32 x 0) needsL = ((2 : Nat) : Int) ∧ isShr 0 = true ∧ perOk seas5 ((2 : Nat) : Int) = true ∧ seas5.all above = true := by decide +kernel
theorem sd_tab : (List.range 8).all (fun k => near43 (fop .quo .f32 (sdS needsL (e8 (k : Int)) 2 9).1 (sdS needsL (e8 (k : Int)) 2 9).2.1)) = true := by decide +kernel
theorem ch_tab : (List.range 8).all (fun k => near43 (fop .mul .f32 (chS needsL (e8 (k : Int)) 0 2 9).1 (chS needsL (e8 (k : Int)) 0 2 9).2)) = true := by decide +kernel
theorem ts_tab : (List.range 8).all (fun k => (tsS seas5 2 (e8 (k : Int)) 3).2.all fin && fin (tsS seas5 2 (e8 (k : Int)) 3).1 && fcmp .lss .f64 (gapR (tsS seas5 2 (e8 (k : Int)) 3).1 1077936128) 4562254508917369340 && fcmp .lss .f64 (gapR ((tsS seas5 2 (e8 (k : Int)) 3).2.getD 0 0) 1059760811) 4562254508917369340 && near43 ((tsS seas5 2 (e8 (k : Int)) 3).2.getD 1 0)) = true := by decide +kernel
theorem shr_tab : (List.range 8).all (fun k => isShr (e8 (k : Int)) && shW (e8 (k : Int)) && fcmp .lss .f32 (e8 (k : Int)) 1065353216 && decide (fop .sub .f32 1065353216 (e8 (k : Int)) < 2139095040) && decide (1 / 8 ≤ rv .f32 (fop .sub .f32 1065353216 (e8 (k : Int)))) && decide (fop .quo .f32 (e8 (k : Int)) (fop .sub .f32 1065353216 (e8 (k : Int))) < 2139095040) && decide (rv .f32 (fop .quo .f32 (e8 (k : Int)) (fop .sub .f32 1065353216 (e8 (k : Int)))) ≤ 8) && decide (fcmp .eql .f32 (e8 (k : Int)) 0 = decide (k = 0))) = true := by decide +kernel
theorem e8_0 : e8 ((0 : Nat) : Int) = 0 ∧ Fnt .f32 (fop .quo .f32 0 (fop .sub .f32 1065353216 0)) := by unfold Fnt; decide +kernel
/-! ### levels -/
theorem lev_0 (l : List Nat) (s : Nat) : lev l s 0 = l.getD 0 0 := rfl
theorem lev_S (l : List Nat) (s i : Nat) : lev l s (i + 1) = fop .add .f32 (lev l s i) (fop .mul .f32 s (fop .sub .f32 (l.getD (i + 1) 0) (lev l s i))) := rfl
def p4 (M : Rat) : Nat → Rat
  | 0 => M
  | k + 1 => 4 * p4 M k
theorem p4_ge {M : Rat} (h : 1 ≤ M) : ∀ k, M ≤ p4 M k
  | 0 => Rat.le_refl
  | k + 1 => by have := p4_ge h k; show M ≤ 4 * p4 M k; grind
theorem p4_mono {M : Rat} (h : 1 ≤ M) {i : Nat} : ∀ {k : Nat}, i ≤ k → p4 M i ≤ p4 M k
  | 0, hk => by obtain rfl : i = 0 := by omega
                exact Rat.le_refl
  | k + 1, hk => by
    rcases Nat.lt_or_ge i (k + 1) with h1 | h1
    · have := p4_mono h (show i ≤ k by omega); have h2 := p4_ge h k
      show _ ≤ 4 * p4 M k; grind
    · obtain rfl : i = k + 1 := by omega
      exact Rat.le_refl
theorem p4_mono2 {M N : Rat} (h : M ≤ N) : ∀ k, p4 M k ≤ p4 N k
  | 0 => h
  | k + 1 => by have := p4_mono2 h k; show 4 * p4 M k ≤ 4 * p4 N k; grind
theorem p4_9 : p4 64 9 ≤ 20000000 ∧ p4 20000000 9 ≤ 10000000000000 := by decide +kernel
theorem levB_bd {l : List Nat} {s : Nat} {M : Rat} (h1 : 1 ≤ M) (hM : M ≤ 20000000) (hl : ∀ i, i < l.length → Bd (l.getD i 0) M) (hs : Fnt .f32 s ∧ 0 ≤ rv .f32 s ∧ rv .f32 s ≤ 1) : ∀ i, i < l.length → i ≤ 9 → Bd (lev l s i) (p4 M i)
  | 0, h0, _ => hl 0 h0
  | i + 1, hi, h9 => by
    have ih := levB_bd h1 hM hl hs i (by omega) (by omega)
    have hg := p4_ge h1 i
    have hx := (hl (i + 1) hi).mono hg
    have hb : p4 M i ≤ 10000000000000 := by
      have a := p4_mono h1 (show i ≤ 9 by omega)
      have b := p4_mono2 hM 9
      have c := p4_9.2
      grind
    have b1 := subB (L := 21 / 10 * p4 M i) hx ih (by unfold okM; constructor <;> grind) (by grind)
    have b2 := mulS (N := 22 / 10 * p4 M i) hs b1 (by unfold okM; constructor <;> grind) (by grind)
    rw [lev_S]
    exact addB (L := 4 * p4 M i) ih b2 (by unfold okM; constructor <;> grind) (by grind)
theorem gap_same {x : Nat} {M : Rat} (h : Bd x M) (hM : okM M) : fcmp .gtr .f64 (gapR x x) 4562254508917369340 = false := by
  have w := (W_fact h hM).1
  have e : fop .sub .f64 (fconv .f32 .f64 x) (fconv .f32 .f64 x) = 0 := by
    rw [sub_self]
    have : finR .f64 (fconv .f32 .f64 x) = true := decide_eq_true w.2
    rw [this]; rfl
  unfold gapR
  rw [e, show fmx .f64 0 0 = 0 by decide +kernel]
  decide +kernel
/-- all levels are the first number where nothing is learned -/
theorem lev_flat {l : List Nat} (hl : ∀ i, i < l.length → Bd (l.getD i 0) 64) (h0 : 0 < l.length) : ∀ i, i < l.length → Fnt .f32 (lev l 0 i) ∧ rv .f32 (lev l 0 i) = rv .f32 (l.getD 0 0)
  | 0, _ => ⟨(hl 0 h0).1, rfl⟩
  | i + 1, hi => by
    have ih := lev_flat hl h0 i (by omega)
    have b0 := hl 0 h0
    have hx := hl (i + 1) hi
    have ib : Bd (lev l 0 i) 64 := ⟨ih.1, by rw [ih.2]; exact b0.2.1, by rw [ih.2]; exact b0.2.2⟩
    have sb := subB (L := 130) hx ib (by unfold okM; constructor <;> grind) (by grind)
    have z : Fnt .f32 (fop .mul .f32 0 (fop .sub .f32 (l.getD (i + 1) 0) (lev l 0 i))) ∧ rv .f32 (fop .mul .f32 0 (fop .sub .f32 (l.getD (i + 1) 0) (lev l 0 i))) = 0 := by
      have ht := top_ge
      have r := mul_rds one_01.2.2.1 sb.1
      rw [one_01.2.2.2, Rat.zero_mul] at r
      have f := r.fin (by grind) (by grind)
      have e := r.exact one_01.2.2.1 f one_01.2.2.2.symm
      exact ⟨f, by rw [e, one_01.2.2.2]⟩
    have a := rvz_add ih.1 z.1 z.2 (by rw [ih.2]; have := b0.2.1; grind) (by rw [ih.2]; have := b0.2.2; grind)
    rw [lev_S]
    exact ⟨a.1, a.2.trans ih.2⟩
theorem rv_lt {c : Nat} (h : c < 2139095040) : rv .f32 c = rvR .f32 c := by
  have ei : FloatKind.f32.format.infRung = 2139095040 := by decide
  have := rv_word .f32 false (r := c) (by omega)
  rw [if_neg Bool.false_ne_true] at this
  exact this
structure LevI (l : List Nat) (s : Nat) : Prop where
  ser : isSer l = true
  shr : isShr s = true
  f1 : (levL l s l.length).all fin = true
  f2 : (levL (levL l s l.length) s l.length).all fin = true
  lt : fcmp .lss .f32 s 1065353216 = true
  v : fin (dlV l s) = true
  w : fin (dlW l s) = true
  eq0 : fcmp .neq .f32 ((levL l s l.length).getD 0 0) (l.getD 0 0) = false
  z : fcmp .eql .f32 s 0 = true → fcmp .gtr .f64 (gapR (dlV l s) (l.getD 0 0)) 4562254508917369340 = false ∧ fcmp .neq .f32 (dlW l s) 0 = false
  st : ∀ i, i + 1 < l.length → fcmp .gtr .f64 (gapR ((levL l s l.length).getD (i + 1) 0) (fop .add .f32 ((levL l s l.length).getD i 0) (fop .mul .f32 s (fop .sub .f32 (l.getD (i + 1) 0) ((levL l s l.length).getD i 0))))) 4562254508917369340 = false
theorem levI_of {l : List Nat} {k : Nat} (hl : ∀ i, i < l.length → Bd (l.getD i 0) 64) (h1 : 1 ≤ l.length) (h10 : l.length ≤ 10) (hk : k < 8) : LevI l (e8 (k : Int)) := by
  have tab := List.all_eq_true.1 shr_tab k (List.mem_range.2 hk)
  simp only [Bool.and_eq_true, decide_eq_true_eq] at tab
  obtain ⟨⟨⟨⟨⟨⟨⟨t1, t2⟩, t3⟩, t4⟩, t5⟩, t6⟩, t7⟩, t8⟩ := tab
  have hs := (shW_t t2).1
  have e80 := e8_0
  generalize hse : e8 (k : Int) = s at *
  have p49 := p4_9
  have hlev : ∀ i, i < l.length → Bd (lev l s i) 20000000 := fun i hi => (levB_bd (M := 64) (by grind) (by grind) hl hs i hi (by omega)).mono (by have := p4_mono (M := 64) (by grind) (show i ≤ 9 by omega); grind)
  have hll := levL_len l s l.length
  have hget : ∀ i, i < l.length → (levL l s l.length).getD i 0 = lev l s i := fun i hi => levL_get hi
  have hL : ∀ i, i < (levL l s l.length).length → Bd ((levL l s l.length).getD i 0) 20000000 := fun i hi => by rw [hll] at hi; rw [hget i hi]; exact hlev i hi
  have hlev2 : ∀ i, i < l.length → Bd (lev (levL l s l.length) s i) 10000000000000 := fun i hi => (levB_bd (M := 20000000) (by grind) (by grind) hL hs i (by rw [hll]; exact hi) (by omega)).mono (by have := p4_mono (M := 20000000) (by grind) (show i ≤ 9 by omega); grind)
  have hll2 := levL_len (levL l s l.length) s l.length
  have hget2 : ∀ i, i < l.length → (levL (levL l s l.length) s l.length).getD i 0 = lev (levL l s l.length) s i := fun i hi => levL_get hi
  have hA : dlA l s = lev l s (l.length - 1) := hget _ (by omega)
  have hB : dlB l s = lev (levL l s l.length) s (l.length - 1) := hget2 _ (by omega)
  have bA := hlev (l.length - 1) (by omega)
  have bB := hlev2 (l.length - 1) (by omega)
  have k2 : Fnt .f32 1073741824 ∧ rv .f32 1073741824 = 2 := by unfold Fnt; decide +kernel
  have bAv := bA.2
  obtain ⟨e1, m1, m2, m3, m4⟩ := mul32 (a := 1073741824) (b := lev l s (l.length - 1)) (M := 40000000) k2.1 bA.1 (by rw [k2.2]; grind) (by rw [k2.2]; grind) (by unfold okM; constructor <;> grind)
  have bM : Bd (fop .mul .f32 1073741824 (lev l s (l.length - 1))) 50000000 := ⟨m4, by rw [m1, k2.2]; grind, by rw [m1, k2.2]; grind⟩
  have bV := subB (L := 20000000000000) bM bB (by unfold okM; constructor <;> grind) (by grind)
  have bD := subB (L := 20000000000000) bA bB (by unfold okM; constructor <;> grind) (by grind)
  have fq := fnt_lt t6
  have q0 : 0 ≤ rv .f32 (fop .quo .f32 s (fop .sub .f32 1065353216 s)) := by
    have := rvR_nn .f32 (fop .quo .f32 s (fop .sub .f32 1065353216 s))
    rw [rv_lt t6]; exact this
  have bDv := bD.2
  have mb := mul_bd (x := rv .f32 (fop .quo .f32 s (fop .sub .f32 1065353216 s))) (y := rv .f32 (fop .sub .f32 (lev l s (l.length - 1)) (lev (levL l s l.length) s (l.length - 1)))) (M := 8) (N := 20000000000000) t7 (by grind) bDv.1 bDv.2
  obtain ⟨e2, w1, w2, w3, w4⟩ := mul32 (a := fop .quo .f32 s (fop .sub .f32 1065353216 s)) (b := fop .sub .f32 (lev l s (l.length - 1)) (lev (levL l s l.length) s (l.length - 1))) (M := 160000000000000) fq bD.1 (by grind) (by grind) (by unfold okM; constructor <;> grind)
  have hV : dlV l s = fop .sub .f32 (fop .mul .f32 1073741824 (lev l s (l.length - 1))) (lev (levL l s l.length) s (l.length - 1)) := by unfold dlV; rw [hA, hB]
  have hW : dlW l s = fop .mul .f32 (fop .quo .f32 s (fop .sub .f32 1065353216 s)) (fop .sub .f32 (lev l s (l.length - 1)) (lev (levL l s l.length) s (l.length - 1))) := by unfold dlW; rw [hA, hB]
  refine ⟨isSer_bd hl h1 (by omega), t1, all_fin2 fun i hi => (hL i hi).1, all_fin2 fun i hi => by rw [hll2] at hi; rw [hget2 i hi]; exact (hlev2 i hi).1, t3, by rw [hV]; exact finB_Fn bV.1, by rw [hW]; exact finB_Fn w4, ?_, fun hz => ?_, fun i hi => ?_⟩
  · rw [hget 0 (by omega), lev_0]; exact neq_same (hl 0 (by omega)).1
  · rw [t8] at hz
    have hk0 : k = 0 := of_decide_eq_true hz
    subst hk0
    have hs0 : s = 0 := by rw [← hse]; exact e80.1
    subst hs0
    have b0 := hl 0 (by omega)
    have fa := lev_flat hl (by omega) (l.length - 1) (by omega)
    have hL64 : ∀ i, i < (levL l 0 l.length).length → Bd ((levL l 0 l.length).getD i 0) 64 := fun i hi => by
      rw [hll] at hi
      have f := lev_flat hl (by omega) i hi
      rw [hget i hi]; exact ⟨f.1, by rw [f.2]; exact b0.2.1, by rw [f.2]; exact b0.2.2⟩
    have fb := lev_flat (l := levL l 0 l.length) hL64 (by omega) (l.length - 1) (by omega)
    rw [hget 0 (by omega), lev_0] at fb
    have b0v := b0.2
    rw [hV, hW]
    obtain ⟨e3, n1, n2, n3, n4⟩ := mul32 (a := 1073741824) (b := lev l 0 (l.length - 1)) (M := 128) k2.1 fa.1 (by rw [k2.2, fa.2]; grind) (by rw [k2.2, fa.2]; grind) (by unfold okM; constructor <;> grind)
    rw [k2.2, fa.2] at n1
    obtain ⟨e4, o1, o2, o3, o4⟩ := sub32 (a := fop .mul .f32 1073741824 (lev l 0 (l.length - 1))) (b := lev (levL l 0 l.length) 0 (l.length - 1)) (M := 200) n4 fb.1 (by rw [n1, fb.2]; grind) (by rw [n1, fb.2]; grind) (by unfold okM; constructor <;> grind)
    rw [n1, fb.2] at o1
    refine ⟨gap_gtr (ε := 1 / 10000) ⟨o4, by rw [o1]; grind, by rw [o1]; grind⟩ (b0.mono (by grind)) (by rw [o1]; grind) (by rw [o1]; grind) (by grind), ?_⟩
    have sz := rvz_sub fa.1 fb.1 (fa.2.trans fb.2.symm)
    have mz := rvz_mul fq sz.1 sz.2
    rw [neq_rv mz.1 one_01.2.2.1, mz.2, one_01.2.2.2]
    simp
  · rw [hget (i + 1) hi, hget i (by omega), ← lev_S]
    exact gap_same (hlev (i + 1) hi) (by unfold okM; constructor <;> grind)
end Go.Proofs.Ytmnpdipiffmnhaa

