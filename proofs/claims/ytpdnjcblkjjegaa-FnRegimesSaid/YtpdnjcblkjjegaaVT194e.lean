import Derived.Test.YtpdnjcblkjjegaaVT6
import Derived.Test.YtpdnjcblkjjegaaVT23
import Derived.Test.YtpdnjcblkjjegaaVT33
import Derived.Test.YtpdnjcblkjjegaaVAwC
import Derived.Test.YtpdnjcblkjjegaaVT109
import Derived.Test.YtpdnjcblkjjegaaVT28
import Derived.Test.YtpdnjcblkjjegaaVAwM
import Derived.Test.YtpdnjcblkjjegaaVT194b
import Derived.Test.YtpdnjcblkjjegaaVT194d
import Derived.Test.YtpdnjcblkjjegaaVT34
set_option linter.unusedVariables false
set_option linter.unusedSimpArgs false
set_option maxRecDepth 20000
set_option maxHeartbeats 4000000
namespace Go.Proofs.Ytpdnjcblkjjegaa
open Go.Aw
attribute [local irreducible] QRun LexD AWp TCall
def validL (a b c d : Nat) : Bool := fin a && least b && above c && least d
end Go.Proofs.Ytpdnjcblkjjegaa

set_option linter.unusedVariables false
set_option linter.unusedSimpArgs false
set_option maxRecDepth 20000
set_option maxHeartbeats 8000000
namespace Go.Proofs.Ytpdnjcblkjjegaa
open Go.Aw
attribute [local irreducible] QRun LexD AWp TCall TMut fop fint fcmp fconv

def lvF (s no : Nat) : Nat := fop .add .f32 s no
def lvM (m s no x : Nat) : Nat := fop .add .f32 m (fop .mul .f32 (fop .quo .f32 s (lvF s no)) (fop .sub .f32 x m))
def lvP (s no : Nat) : Nat := fop .sub .f32 s (fop .mul .f32 (fop .quo .f32 s (lvF s no)) s)
def lvC (m s no x : Nat) : Nat := fop .mul .f32 1056964608 (fop .add .f32 (logF (lvF s no)) (fop .quo .f32 (fop .mul .f32 (fop .sub .f32 x m) (fop .sub .f32 x m)) (lvF s no)))
def stM (m sp no dr x : Nat) (b : Bool) : Nat := if b then lvM m (fop .add .f32 sp dr) no x else m
def stP (m sp no dr x : Nat) (b : Bool) : Nat := if b then lvP (fop .add .f32 sp dr) no else fop .add .f32 sp dr
def stC (m sp no dr x : Nat) (b : Bool) : Nat := if b then lvC m (fop .add .f32 sp dr) no x else 0
def stOk (m sp no dr x : Nat) (b : Bool) : Bool := validL m sp no dr && fin x && validL (stM m sp no dr x b) (stP m sp no dr x b) no dr && fin (stC m sp no dr x b)
structure LV where
  m : Nat
  p : Nat
  n : Nat
  d : Nat
  c : Nat
  ok : Bool
def stepF (m sp no dr x : Nat) (b : Bool) : LV := if stOk m sp no dr x b then ⟨stM m sp no dr x b, stP m sp no dr x b, no, dr, stC m sp no dr x b, true⟩ else ⟨0, 0, 0, 0, 0, false⟩
end Go.Proofs.Ytpdnjcblkjjegaa

set_option linter.unusedVariables false
set_option linter.unusedSimpArgs false
set_option maxRecDepth 20000
set_option maxHeartbeats 8000000
namespace Go.Proofs.Ytpdnjcblkjjegaa
open Go.Aw

/-! ### one step of a level -/
theorem fnt32_0 : Fnt .f32 0 ∧ rv .f32 0 = 0 := by unfold Fnt; decide +kernel
theorem F32_Fnt {c : Nat} (h : Fnt .f32 c) : F32 c := ⟨canon_not h.notnan, by have := h.1; rw [sw32] at this; omega⟩
/-- the logarithm of a number above nought -/
theorem logF_bd {c : Nat} (h : Fnt .f32 c) (h0 : 0 < rv .f32 c) : Bd (logF c) 400 := by
  have e := fnt32_0
  have hF := F32_Fnt h
  have hfin : fin c = true := finB_Fn h
  have k1 : fcmp .eql .f32 c 0 = false := by
    simp only [fcmp]
    rw [order_sv .f32 h.notnan e.1.notnan]
    have hs := sv_rv .f32 (a := 0) (b := c)
    rw [e.2] at hs
    rw [cmp_gt (hs.1.2 h0)]; rfl
  have k2 : fcmp .lss .f32 c 0 = false := by rw [lss_rv h e.1, e.2]; exact decide_eq_false (by grind)
  have k3 : fcmp .neq .f32 c c = false := by rw [neq_rv h h]; simp
  have hp := log_pos hF k1 k2 k3 hfin
  have hW := lgW_bd hp.1 hp.2
  rw [logF4 k1 (by rw [k2, k3]; rfl) hfin]
  obtain ⟨e1, g1, g2, g3, g4⟩ := thin_e hW (by unfold okM; constructor <;> grind)
  have := hW.2
  exact ⟨g4, by rw [g1]; grind, by rw [g1]; grind⟩
theorem half32c : Fnt .f32 1056964608 ∧ rv .f32 1056964608 = 1 / 2 := by unfold Fnt; decide +kernel
/-! ### a run of levels -/
/-! ### and back -/
end Go.Proofs.Ytpdnjcblkjjegaa

set_option linter.unusedVariables false
set_option linter.unusedSimpArgs false
set_option maxRecDepth 100000
set_option maxHeartbeats 8000000
namespace Go.Proofs.Ytpdnjcblkjjegaa
open Go.Aw

/-! ### squares that are expected of numbers that are drawn -/
abbrev H5 : Nat := 1056964608
abbrev Q2 : Nat := 1048576000
abbrev I10 : Nat := 1092616192
theorem sh_tab : (List.range 33).all (fun m => decide (fop .mul .f32 (q4 ((m : Int) - 16)) (q4 ((m : Int) - 16)) ≤ I16) && decide (fop .mul .f32 Q2 (fop .mul .f32 (q4 ((m : Int) - 16)) (q4 ((m : Int) - 16))) ≤ I4)) = true := by decide +kernel
theorem sh_at {m : Int} (h : -16 ≤ m ∧ m ≤ 16) : fop .mul .f32 (q4 m) (q4 m) ≤ I16 ∧ fop .mul .f32 Q2 (fop .mul .f32 (q4 m) (q4 m)) ≤ I4 := by
  obtain ⟨i, hi⟩ : ∃ i : Nat, m = (i : Int) - 16 := ⟨(m + 16).toNat, by omega⟩
  have := List.all_eq_true.1 sh_tab i (List.mem_range.2 (by omega))
  rw [hi]
  simpa only [Bool.and_eq_true, decide_eq_true_eq] using this
theorem sh_c : fop .quo .f32 H5 (fop .sub .f32 (fop .sub .f32 1065353216 Q2) H5) = 1073741824 ∧ fop .mul .f32 H5 I10 = 1084227584 ∧ fop .add .f32 H5 I4 = 1083179008 ∧ fop .add .f32 1083179008 1084227584 ≤ I10 ∧ above H5 = true ∧ least Q2 = true ∧ least H5 = true ∧ fcmp .lss .f32 (fop .add .f32 Q2 H5) 1065353216 = true := by decide +kernel
theorem shV_rng {s : List Nat} (hs : ∀ i, i < s.length → ∃ m : Int, -16 ≤ m ∧ m ≤ 16 ∧ s.getD i 0 = q4 m) : ∀ i, i ≤ s.length → H5 ≤ shV s H5 Q2 H5 i ∧ shV s H5 Q2 H5 i ≤ I10
  | 0, _ => by
    show H5 ≤ fop .quo .f32 H5 (fop .sub .f32 (fop .sub .f32 1065353216 Q2) H5) ∧ _ ≤ I10
    rw [show shV s H5 Q2 H5 0 = fop .quo .f32 H5 (fop .sub .f32 (fop .sub .f32 1065353216 Q2) H5) from rfl, sh_c.1]; decide
  | i + 1, hi => by
    have ih := shV_rng hs i (by omega)
    by_cases h0 : 0 < i
    · rw [shV_t h0]
      obtain ⟨m, m1, m2, hm⟩ := hs (i - 1) (by omega)
      rw [hm]
      obtain ⟨g1, g2⟩ := sh_at ⟨m1, m2⟩
      have i10 : I10 < FloatKind.f32.format.infRung := by rw [inf32]; decide
      have i4 : I4 < FloatKind.f32.format.infRung := by rw [inf32]; decide
      have i5 : H5 < FloatKind.f32.format.infRung := by rw [inf32]; decide
      have b1 := mul_mono .f32 (r := H5) (r' := H5) (Nat.le_refl _) ih.2 i5 i10
      rw [sh_c.2.1] at b1
      have b2 := add_mono .f32 (r := H5) (r' := H5) (Nat.le_refl _) g2 i5 i4
      rw [sh_c.2.2.1] at b2
      have b3 := add_mono .f32 b2 b1 (by rw [inf32]; decide) (by rw [inf32]; decide)
      have c1 := (add_ge .f32 (r := H5) (q := fop .mul .f32 Q2 (fop .mul .f32 (q4 m) (q4 m))) i5 (Nat.lt_of_le_of_lt g2 i4)).1
      have c2 := (add_ge .f32 (r := fop .add .f32 H5 (fop .mul .f32 Q2 (fop .mul .f32 (q4 m) (q4 m)))) (q := fop .mul .f32 H5 (shV s H5 Q2 H5 i)) (Nat.lt_of_le_of_lt b2 (by rw [inf32]; decide)) (Nat.lt_of_le_of_lt b1 (by rw [inf32]; decide))).1
      exact ⟨Nat.le_trans c1 c2, Nat.le_trans b3 sh_c.2.2.2.1⟩
    · rw [shV_f h0]; exact ih
def bS : Nat → Rat
  | 0 => 0
  | i + 1 => 2 * (bS i + 900)
theorem bS_tab : (List.range 12).all (fun i => decide (1 / 1000000000000000000000000000000 ≤ bS i + 900) && decide (bS i + 900 ≤ 1000000000000000000000000000000)) = true := by decide +kernel
theorem bS_ok {i : Nat} (h : i < 12) : okM (bS i + 900) := by
  have := List.all_eq_true.1 bS_tab i (List.mem_range.2 h)
  rw [Bool.and_eq_true, decide_eq_true_eq, decide_eq_true_eq] at this
  exact this
theorem z32e : Fnt .f32 0 ∧ rv .f32 0 = 0 := by unfold Fnt; decide +kernel
theorem half_R : rvR .f32 H5 = 1 / 2 := by decide +kernel
theorem shS_bd {s : List Nat} (hs : ∀ i, i < s.length → ∃ m : Int, -16 ≤ m ∧ m ≤ 16 ∧ s.getD i 0 = q4 m) (hl : s.length ≤ 12) : ∀ i, i ≤ s.length → Bd (shS s H5 Q2 H5 i) (bS i)
  | 0, _ => ⟨z32e.1, by show rv .f32 0 ≤ 0; rw [z32e.2]; exact Rat.le_refl, by show -0 ≤ rv .f32 0; rw [z32e.2]; decide +kernel⟩
  | i + 1, hi => by
    have ih := shS_bd hs hl i (by omega)
    obtain ⟨v1, v2⟩ := shV_rng hs (i + 1) hi
    obtain ⟨m, m1, m2, hm⟩ := hs i (by omega)
    obtain ⟨g1, _⟩ := sh_at ⟨m1, m2⟩
    have hlt : shV s H5 Q2 H5 (i + 1) < 2139095040 := Nat.lt_of_le_of_lt v2 (by decide)
    obtain ⟨f1, f2⟩ := rv_R hlt
    have r1 := rvR_mono .f32 v1
    rw [half_R] at r1
    have hL := logF_bd f1 (by rw [f2]; grind)
    obtain ⟨x1, x2⟩ := rv_R (q := fop .mul .f32 (q4 m) (q4 m)) (Nat.lt_of_le_of_lt g1 (by decide))
    have r2 := rvR_mono .f32 g1
    rw [sixteen_R] at r2
    have r3 := rvR_nn .f32 (fop .mul .f32 (q4 m) (q4 m))
    show Bd (fop .add .f32 (shS s H5 Q2 H5 i) (fop .mul .f32 1056964608 (fop .add .f32 (logF (shV s H5 Q2 H5 (i + 1))) (fop .quo .f32 (fop .mul .f32 (s.getD i 0) (s.getD i 0)) (shV s H5 Q2 H5 (i + 1)))))) _
    rw [hm]
    generalize shV s H5 Q2 H5 (i + 1) = h at *
    generalize fop .mul .f32 (q4 m) (q4 m) = x at *
    have hz : rvR .f32 x / rvR .f32 h * rvR .f32 h = rvR .f32 x := by rw [Rat.div_mul_cancel (by grind)]
    obtain ⟨z, hz0⟩ : ∃ z, rvR .f32 x / rvR .f32 h = z := ⟨_, rfl⟩
    rw [hz0] at hz
    have hzb : 0 ≤ z ∧ z ≤ 33 := by
      have hp : 0 < rvR .f32 h := by grind
      constructor
      · refine Rat.le_of_mul_le_mul_right (c := rvR .f32 h) ?_ hp
        rw [hz]; grind
      · refine Rat.le_of_mul_le_mul_right (c := rvR .f32 h) ?_ hp
        rw [hz]; grind
    obtain ⟨e, q1, q2, q3, q4'⟩ := quo32 (M := 33) x1 f1 (by rw [f2]; grind) (by rw [x2, f2]; exact hz) (by grind) (by grind) (by unfold okM; constructor <;> decide +kernel)
    have hq : Bd (fop .quo .f32 x h) 34 := ⟨q4', by rw [q1]; grind, by rw [q1]; grind⟩
    have hh : Bd 1056964608 (1 / 2) := ⟨half32c.1, by rw [half32c.2]; exact Rat.le_refl, by rw [half32c.2]; decide +kernel⟩
    have b1 := Bd.add hL hq (L := 868) (by decide +kernel) (by unfold okM; constructor <;> decide +kernel)
    have b2 := Bd.mul hh b1 (L := 900) (by decide +kernel) (by unfold okM; constructor <;> decide +kernel)
    exact Bd.add ih b2 (L := bS (i + 1)) (by show 2 * (bS i + 900) ≤ 2 * (bS i + 900); exact Rat.le_refl) (bS_ok (by omega))
theorem RgI.shock {a b c d s : List Nat} (h : RgI a b c d s) (hs : isSer s = true) : shockF s H5 Q2 H5 = (shL s H5 Q2 H5, shS s H5 Q2 H5 s.length, true) ∧ ∀ i, i < s.length → fcmp .lss .f32 ((shL s H5 Q2 H5).getD i 0) 1056964608 = false := by
  have hv := shV_rng h.fs
  have hf : (shL s H5 Q2 H5).all fin = true := List.all_eq_true.2 fun x hx => by
    obtain ⟨i, hi, rfl⟩ := List.mem_map.1 hx
    have hi' := List.mem_range.1 hi
    exact fin_pos (Nat.lt_of_le_of_lt (hv (i + 1) (by omega)).2 (by decide))
  have hg : fin (shS s H5 Q2 H5 s.length) = true := finB_Fn (shS_bd h.fs h.s12 _ (Nat.le_refl _)).1
  refine ⟨?_, fun i hi => ?_⟩
  · unfold shockF
    rw [if_pos (by rw [hs, hf, hg, sh_c.2.2.2.2.1, sh_c.2.2.2.2.2.1, sh_c.2.2.2.2.2.2.1, sh_c.2.2.2.2.2.2.2]; rfl)]
  · have e : (shL s H5 Q2 H5).getD i 0 = shV s H5 Q2 H5 (i + 1) := getD_mapR _ hi
    obtain ⟨v1, v2⟩ := hv (i + 1) (by omega)
    rw [e, lss_pos (Nat.lt_of_le_of_lt v2 (by decide)) (by decide)]
    exact decide_eq_false (by show ¬ _ < H5; omega)
end Go.Proofs.Ytpdnjcblkjjegaa

