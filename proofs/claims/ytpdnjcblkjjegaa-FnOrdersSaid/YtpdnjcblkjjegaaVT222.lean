import Derived.Test.YtpdnjcblkjjegaaVT69
import Derived.Test.YtpdnjcblkjjegaaVT70
set_option linter.unusedVariables false
set_option linter.unusedSimpArgs false
namespace Go.Proofs.Ytpdnjcblkjjegaa
open Go.Aw

/-! ### spreads do not rise -/
theorem plUp_congr {p r r' : List Nat} {k : Nat} (h : ∀ i, i ≤ k → r.getD i 0 = r'.getD i 0) : ∀ n, plUp p r k n = plUp p r' k n
  | 0 => rfl
  | n + 1 => by rw [plUp, plUp, plUp_congr h n, h (k - n) (by omega)]
theorem plDn_congr {p r r' : List Nat} : ∀ {n : Nat}, (∀ i, i ≤ n → r.getD i 0 = r'.getD i 0) → plDn p r n = plDn p r' n
  | 0, _ => rfl
  | n + 1, h => by rw [plDn, plDn, plDn_congr (fun i hi => h i (by omega)), h (n + 1) (by omega)]
theorem plX_congr {p r r' : List Nat} {k : Nat} (h : ∀ i, i ≤ k + 1 → r.getD i 0 = r'.getD i 0) : plX p r k = plX p r' k := by
  unfold plX plBe
  rw [h (k + 1) (by omega), plUp_congr (fun i hi => h i (by omega)), plDn_congr (fun i hi => h i (by omega))]
theorem plP_congr {r r' : List Nat} : ∀ {k : Nat}, (∀ i, i ≤ k → r.getD i 0 = r'.getD i 0) → plP r k = plP r' k
  | 0, _ => rfl
  | k + 1, h => by
    have e := plP_congr (k := k) (fun i hi => h i (by omega))
    rw [plP, plP, e, plX_congr h]
theorem likL_get {a : List Nat} {m i : Nat} (h : i ≤ m) : (likL a m).getD i 0 = likR a i := getD_mapR _ (by omega)
/-- a lone term of a series -/
def xK (a : List Nat) (j : Nat) : Nat := plX (plP (likL a (j + 1)) j) (likL a (j + 1)) j
theorem xK_eq {a : List Nat} {m j : Nat} (h : j < m) : plX (plP (likL a m) j) (likL a m) j = xK a j := by
  have hg : ∀ i, i ≤ j + 1 → (likL a m).getD i 0 = (likL a (j + 1)).getD i 0 := fun i hi => by rw [likL_get (by omega), likL_get hi]
  unfold xK
  rw [plP_congr (fun i hi => hg i (by omega)), plX_congr hg]
theorem be_eq {a : List Nat} {m j : Nat} (h : j < m) : plBe (plP (likL a m) j) (likL a m) j = plBe (plP (likL a (j + 1)) j) (likL a (j + 1)) j := by
  have hg : ∀ i, i ≤ j + 1 → (likL a m).getD i 0 = (likL a (j + 1)).getD i 0 := fun i hi => by rw [likL_get (by omega), likL_get hi]
  unfold plBe
  rw [plP_congr (fun i hi => hg i (by omega)), plDn_congr (fun i hi => hg i (by omega))]
/-- the spread after j terms -/
def sK (a : List Nat) : Nat → Nat
  | 0 => fop .quo .f32 (dlF (offL a) 0) (fint .f32 (a.length : Nat))
  | j + 1 => fop .mul .f32 (sK a j) (fop .sub .f32 1065353216 (fop .mul .f32 (xK a j) (xK a j)))
theorem opS_sK {a : List Nat} {m : Nat} : ∀ {j : Nat}, j ≤ m → opS a (plO (likL a m) m) j = sK a j
  | 0, _ => rfl
  | j + 1, h => by
    rw [opS, sK, opS_sK (by omega)]
    have : (plO (likL a m) m).getD j 0 = xK a j := by
      unfold plO
      rw [getD_mapR _ (by omega), xK_eq (by omega)]
    rw [this]
structure OwnOk (a : List Nat) (m : Nat) : Prop where
  pos : fcmp .gtr .f32 (dlF (offL a) 0) 0 = true
  ne : ∀ j, j < m → plG (likL a (j + 1)) j = true
  fx : ∀ j, j < m → fin (xK a j) = true
  s : (ownF a (m : Nat)).s = sK a m
  fs : fin (sK a m) = true
  pl : (ownF a (m : Nat)).p.length = m
theorem ownF_okI {a : List Nat} {m : Nat} (h : (ownF a (m : Nat)).ok = true) : OwnOk a m := by
  have h0 : own0F a (m : Nat) = ownF a (m : Nat) := by
    unfold ownF at h ⊢
    split at h
    · rename_i hk; rw [if_pos hk]
    · cases h
  rw [← h0] at h
  have hs0 : (ownF a (m : Nat)).s = (own0F a (m : Nat)).s := by rw [h0]
  have hl0 : (ownF a (m : Nat)).p.length = (own0F a (m : Nat)).p.length := by rw [h0]
  unfold own0F at h hs0 hl0
  split at h
  · rename_i hp
    rw [if_pos hp] at hs0 hl0
    rw [opP_len] at hl0
    have hpp := hp
    unfold partF at hp
    split at hp
    · rename_i hk
      simp only [Bool.and_eq_true] at hk
      have hself := hk.1
      unfold selfF at hself
      split at hself
      · rename_i hso
        have hsF : (selfF a (m : Nat)).1 = likL a m := by
          unfold selfF
          rw [if_pos hso]
          unfold ifAllF at hself ⊢
          rw [Int.toNat_natCast] at hself ⊢
          split at hself
          · rename_i h9; rw [if_pos h9]
          · cases hself
        have hG := hk.2
        rw [hsF, Int.toNat_natCast] at hG hp
        have hpF : (partF a (m : Nat)).1 = plO (likL a m) m := by
          unfold partF
          rw [if_pos (by simp only [Bool.and_eq_true]; exact hk)]
          rw [hsF, Int.toNat_natCast]
          unfold ifAllF at hp ⊢
          split at hp
          · rename_i h9; rw [if_pos h9]
          · cases hp
        have hall : (plO (likL a m) m).all fin = true := by
          unfold ifAllF at hp
          split at hp
          · assumption
          · cases hp
        rw [hpF] at h hs0 hl0
        simp only [Bool.and_eq_true] at h
        rw [plO_len, opS_sK (Nat.le_refl _)] at h hs0
        rw [plO_len] at hl0
        simp only [selfOk, Bool.and_eq_true] at hso
        refine ⟨hso.2, fun j hj => ?_, fun j hj => ?_, hs0, h.2, hl0⟩
        · have := List.all_eq_true.1 hG j (List.mem_range.2 hj)
          unfold plG at this ⊢
          rw [be_eq hj] at this; exact this
        · refine List.all_eq_true.1 hall (xK a j) ?_
          unfold plO
          rw [← xK_eq hj]
          exact List.mem_map.2 ⟨j, List.mem_range.2 hj, rfl⟩
      · cases hself
    · cases hp
  · cases h
theorem fnt_of {c : Nat} (h : fin c = true) (hc : F32 c) : Fnt .f32 c := by
  rw [fin_R] at h
  unfold finR at h
  have := of_decide_eq_true h
  refine ⟨?_, this⟩
  have := hc.2
  have e : FloatKind.f32.format.signWeight = 2147483648 := by decide
  omega
theorem xK_F (a : List Nat) (j : Nat) : F32 (xK a j) := F32_fop _ _ _
theorem sK_F (a : List Nat) : ∀ j, F32 (sK a j)
  | 0 => F32_fop _ _ _
  | _ + 1 => F32_fop _ _ _
/-- the first three terms are no more than one -/
theorem xK_le {a : List Nat} {k : Nat → Int} (hS : Ser a k) (hl4 : 4 ≤ a.length) {m : Nat} (h : OwnOk a m) : ∀ j, j < m → j < 3 → Fnt .f32 (xK a j) ∧ Ab (rv .f32 (xK a j)) 1 := by
  have hL := likes_ok hS hl4 h.pos
  have ne0 : ∀ j, j < m → fcmp .eql .f32 (plBe (plP (likL a (j + 1)) j) (likL a (j + 1)) j) 0 = false := fun j hj => by
    have := h.ne j hj
    unfold plG at this
    simpa using this
  -- the first
  have hx0 : xK a 0 = fop .sub .f32 (likR a 1) 0 := by
    have e : xK a 0 = fop .quo .f32 (fop .sub .f32 ((likL a 1).getD 1 0) 0) (fop .sub .f32 1065353216 0) := rfl
    rw [e, likL_get (Nat.le_refl _), one0]
    exact quo_one (sub0 hL.f1 hL.b1 (by decide +kernel)).1
  obtain ⟨f0, v0⟩ := sub0 hL.f1 hL.b1 (by decide +kernel)
  rw [← hx0] at f0 v0
  have r0 : Fnt .f32 (xK a 0) ∧ Ab (rv .f32 (xK a 0)) 1 := ⟨f0, by rw [v0]; exact hL.b1⟩
  have hp1 : ∀ m, 1 ≤ m → plP (likL a m) 1 = [xK a 0] := fun m hm => by
    rw [show plP (likL a m) 1 = plNx (plP (likL a m) 0) (plX (plP (likL a m) 0) (likL a m) 0) 0 ++ [plX (plP (likL a m) 0) (likL a m) 0] from rfl, xK_eq (by omega)]
    rfl
  have ex1 : xK a 1 = fop .quo .f32 (fop .sub .f32 (likR a 2) (fop .add .f32 0 (fop .mul .f32 (xK a 0) (likR a 1)))) (fop .sub .f32 1065353216 (fop .add .f32 0 (fop .mul .f32 (xK a 0) (likR a 1)))) := by
    have e : xK a 1 = plX (plP (likL a 2) 1) (likL a 2) 1 := rfl
    rw [e, hp1 2 (by omega)]
    show fop .quo .f32 (fop .sub .f32 ((likL a 2).getD 2 0) (fop .add .f32 0 (fop .mul .f32 (xK a 0) ((likL a 2).getD 1 0)))) (fop .sub .f32 1065353216 (fop .add .f32 0 (fop .mul .f32 (xK a 0) ((likL a 2).getD 1 0)))) = _
    rw [likL_get (by omega), likL_get (by omega)]
  have eb1 : plBe (plP (likL a 2) 1) (likL a 2) 1 = fop .sub .f32 1065353216 (fop .add .f32 0 (fop .mul .f32 (xK a 0) (likR a 1))) := by
    rw [hp1 2 (by omega)]
    show fop .sub .f32 1065353216 (fop .add .f32 0 (fop .mul .f32 (xK a 0) ((likL a 2).getD 1 0))) = _
    rw [likL_get (by omega)]
  have hX2 : 1 < m → X2I (rv .f32 (likR a 1)) (rv .f32 (likR a 2)) (fop .add .f32 0 (fop .mul .f32 (xK a 0) (likR a 1))) (xK a 1) := fun hm => by
    have hn := ne0 1 hm
    rw [eb1] at hn
    rw [ex1]
    exact x2_ok hL f0 v0 hn
  have hp2 : plP (likL a 3) 2 = [fop .sub .f32 (xK a 0) (fop .mul .f32 (xK a 1) (xK a 0)), xK a 1] := by
    rw [show plP (likL a 3) 2 = plNx (plP (likL a 3) 1) (plX (plP (likL a 3) 1) (likL a 3) 1) 1 ++ [plX (plP (likL a 3) 1) (likL a 3) 1] from rfl, xK_eq (by omega), hp1 3 (by omega)]
    rfl
  intro j hj h3
  rcases (show j = 0 ∨ j = 1 ∨ j = 2 by omega) with rfl | rfl | rfl
  · exact r0
  · have := hX2 hj
    exact ⟨this.fx, this.bx⟩
  · have hn := ne0 2 hj
    have eb2 : plBe (plP (likL a 3) 2) (likL a 3) 2 = fop .sub .f32 1065353216 (fop .add .f32 (fop .add .f32 0 (fop .mul .f32 (fop .sub .f32 (xK a 0) (fop .mul .f32 (xK a 1) (xK a 0))) (likR a 1))) (fop .mul .f32 (xK a 1) (likR a 2))) := by
      rw [hp2]
      show fop .sub .f32 1065353216 (fop .add .f32 (fop .add .f32 0 (fop .mul .f32 (fop .sub .f32 (xK a 0) (fop .mul .f32 (xK a 1) (xK a 0))) ((likL a 3).getD 1 0))) (fop .mul .f32 (xK a 1) ((likL a 3).getD 2 0))) = _
      rw [likL_get (by omega), likL_get (by omega)]
    have ex2 : xK a 2 = fop .quo .f32 (fop .sub .f32 (likR a 3) (fop .add .f32 (fop .add .f32 0 (fop .mul .f32 (fop .sub .f32 (xK a 0) (fop .mul .f32 (xK a 1) (xK a 0))) (likR a 2))) (fop .mul .f32 (xK a 1) (likR a 1)))) (fop .sub .f32 1065353216 (fop .add .f32 (fop .add .f32 0 (fop .mul .f32 (fop .sub .f32 (xK a 0) (fop .mul .f32 (xK a 1) (xK a 0))) (likR a 1))) (fop .mul .f32 (xK a 1) (likR a 2)))) := by
      have e : xK a 2 = plX (plP (likL a 3) 2) (likL a 3) 2 := rfl
      rw [e, hp2]
      show fop .quo .f32 (fop .sub .f32 ((likL a 3).getD 3 0) (fop .add .f32 (fop .add .f32 0 (fop .mul .f32 (fop .sub .f32 (xK a 0) (fop .mul .f32 (xK a 1) (xK a 0))) ((likL a 3).getD 2 0))) (fop .mul .f32 (xK a 1) ((likL a 3).getD 1 0)))) (fop .sub .f32 1065353216 (fop .add .f32 (fop .add .f32 0 (fop .mul .f32 (fop .sub .f32 (xK a 0) (fop .mul .f32 (xK a 1) (xK a 0))) ((likL a 3).getD 1 0))) (fop .mul .f32 (xK a 1) ((likL a 3).getD 2 0)))) = _
      rw [likL_get (by omega), likL_get (by omega), likL_get (by omega)]
    rw [eb2] at hn
    rw [ex2]
    exact x3_ok hS hl4 hL f0 v0 (hX2 (by omega)) hn
/-- one less a square of what is no more than one -/
theorem fac_le {x : Nat} (hx : Fnt .f32 x) (hb : Ab (rv .f32 x) 1) : Fnt .f32 (fop .sub .f32 1065353216 (fop .mul .f32 x x)) ∧ 0 ≤ rv .f32 (fop .sub .f32 1065353216 (fop .mul .f32 x x)) ∧ rv .f32 (fop .sub .f32 1065353216 (fop .mul .f32 x x)) ≤ 1 := by
  have h2 : Ab (rv .f32 x * rv .f32 x) 1 := (hb.mul hb).mono (by grind)
  obtain ⟨fm, _⟩ := mulB2 hx hx h2 (by decide +kernel) (by decide +kernel)
  have hmr := mul_rds hx hx
  have hm1 := hmr.le fnt1 fm (by rw [rv1]; exact h2.1)
  have hm0 := hmr.ge fnt0 fm (by rw [rv0]; exact mulself_nn _)
  rw [rv1] at hm1
  rw [rv0] at hm0
  obtain ⟨fs, _⟩ := subB2 (M := 1) fnt1 fm (by rw [rv1]; exact ⟨by grind, by grind⟩) (by decide +kernel) (by decide +kernel)
  have hsr := sub_rds fnt1 fm
  have hs1 := hsr.le fnt1 fs (by rw [rv1]; grind)
  have hs0 := hsr.ge fnt0 fs (by rw [rv0, rv1]; grind)
  rw [rv1] at hs1
  rw [rv0] at hs0
  exact ⟨fs, hs0, hs1⟩
theorem bnF {op : BinOp} {x y : Nat} (hop : op = .mul ∨ op = .sub) (h : fin (fop op .f32 x y) = true) : fin x = true ∧ fin y = true := by
  rw [fin_R] at h
  rw [fin_R, fin_R]
  constructor
  · refine Classical.byContradiction fun hc => ?_
    rw [Bool.not_eq_true] at hc
    rcases hop with rfl | rfl
    · rw [bad_mul_l _ hc] at h; cases h
    · rw [bad_sub_l _ hc] at h; cases h
  · refine Classical.byContradiction fun hc => ?_
    rw [Bool.not_eq_true] at hc
    rcases hop with rfl | rfl
    · rw [bad_mul_r _ hc] at h; cases h
    · rw [bad_sub_r _ hc] at h; cases h
/-- one less any square -/
theorem fac_one {x : Nat} (hx : Fnt .f32 x) (h : fin (fop .sub .f32 1065353216 (fop .mul .f32 x x)) = true) : Fnt .f32 (fop .sub .f32 1065353216 (fop .mul .f32 x x)) ∧ rv .f32 (fop .sub .f32 1065353216 (fop .mul .f32 x x)) ≤ 1 := by
  have fm := fnt_of (bnF (.inr rfl) h).2 (F32_fop _ _ _)
  have hmr := mul_rds hx hx
  have hm0 := hmr.ge fnt0 fm (by rw [rv0]; exact mulself_nn _)
  rw [rv0] at hm0
  have fs := fnt_of h (F32_fop _ _ _)
  have hs1 := (sub_rds fnt1 fm).le fnt1 fs (by rw [rv1]; grind)
  rw [rv1] at hs1
  exact ⟨fs, hs1⟩
theorem s0_le {a : List Nat} {k : Nat → Int} (hS : Ser a k) (h0 : fcmp .gtr .f32 (dlF (offL a) 0) 0 = true) : Fnt .f32 (sK a 0) ∧ 0 ≤ rv .f32 (sK a 0) ∧ rv .f32 (sK a 0) ≤ 20000 := by
  have hl : (offL a).length = a.length := lessL_len _ _
  obtain ⟨f0, _⟩ := E_err hS (j := 0) (by omega)
  have hb := (dl_fin (off_Sm hS) (g := 0) (m := (offL a).length) (by omega)).2.1
  change rv .f32 (dlF (offL a) 0) ≤ _ at hb
  rw [hl] at hb
  have p0 : 0 < rv .f32 (dlF (offL a) 0) := by
    have := gtr_rv f0 fnt0
    rw [h0, rv0] at this
    exact of_decide_eq_true this.symm
  obtain ⟨n1, n2⟩ := len_ex hS.l29
  have hn1 : (1 : Rat) ≤ (a.length : Rat) := by exact_mod_cast hS.l1
  have hn29 : (a.length : Rat) ≤ 29 := by exact_mod_cast hS.l29
  have hz : rv .f32 (dlF (offL a) 0) / (a.length : Rat) * (a.length : Rat) = rv .f32 (dlF (offL a) 0) := Rat.div_mul_cancel (by grind)
  generalize rv .f32 (dlF (offL a) 0) / (a.length : Rat) = z at hz
  have hz0 : 0 ≤ z := Rat.le_of_mul_le_mul_right (c := (a.length : Rat)) (by rw [hz]; grind) (by grind)
  have hz1 : z ≤ 520 := Rat.le_of_mul_le_mul_right (c := (a.length : Rat)) (by rw [hz]; exact hb) (by grind)
  obtain ⟨xx, hq, hqx⟩ := quo_rds f0 n1 (by rw [n2]; grind) (by rw [n2]; exact hz)
  have ht := top_big
  rw [ep_u] at hqx
  have hxx : 0 ≤ xx ∧ xx ≤ 1000 := by
    unfold uu at hqx
    rcases hqx with ⟨_, b, c, _⟩ | ⟨q1, q2, q3, q4⟩
    · exact ⟨b, by grind⟩
    · constructor <;> grind
  show Fnt .f32 (fop .quo .f32 (dlF (offL a) 0) (fint .f32 (a.length : Nat))) ∧ 0 ≤ rv .f32 (fop .quo .f32 (dlF (offL a) 0) (fint .f32 (a.length : Nat))) ∧ rv .f32 (fop .quo .f32 (dlF (offL a) 0) (fint .f32 (a.length : Nat))) ≤ 20000
  obtain ⟨g1, g2, g3⟩ := hq.err (M := 1000) hxx.2 (by grind) (by grind)
  have g0 := hq.ge fnt0 g1 (by rw [rv0]; exact hxx.1)
  rw [rv0] at g0
  have hu := uU_small
  rw [ep_u] at g2
  refine ⟨g1, g0, ?_⟩
  unfold uu at g2
  grind
/-- the spreads -/
theorem sK_le {a : List Nat} {k : Nat → Int} (hS : Ser a k) (hl4 : 4 ≤ a.length) {m : Nat} (h : OwnOk a m) : ∀ j, j ≤ m → j ≤ 3 → Fnt .f32 (sK a j) ∧ 0 ≤ rv .f32 (sK a j) ∧ rv .f32 (sK a j) ≤ 20000
  | 0, _, _ => s0_le hS h.pos
  | j + 1, h1, h3 => by
    obtain ⟨f, l, u⟩ := sK_le hS hl4 h j (by omega) (by omega)
    obtain ⟨fx, bx⟩ := xK_le hS hl4 h j (by omega) (by omega)
    obtain ⟨ff, lf, uf⟩ := fac_le fx bx
    have hr := mul_rds f ff
    have e1 : rv .f32 (sK a j) * rv .f32 (fop .sub .f32 1065353216 (fop .mul .f32 (xK a j) (xK a j))) ≤ rv .f32 (sK a j) := by
      have := Rat.mul_le_mul_of_nonneg_left uf l; grind
    have e0 := Rat.mul_nonneg l lf
    have ht := top_big
    have hf : Fnt .f32 (sK a (j + 1)) := hr.fin (by grind) (by grind)
    have h5 := hr.le f hf e1
    have h6 := hr.ge fnt0 hf (by rw [rv0]; exact e0)
    rw [rv0] at h6
    exact ⟨hf, h6, Rat.le_trans h5 u⟩
theorem sK_step {a : List Nat} {k : Nat → Int} (hS : Ser a k) (hl4 : 4 ≤ a.length) {m : Nat} (hm : m ≤ 3) (h : OwnOk a (m + 1)) : Fnt .f32 (sK a (m + 1)) ∧ Fnt .f32 (sK a m) ∧ 0 ≤ rv .f32 (sK a m) ∧ rv .f32 (sK a m) ≤ 20000 ∧ rv .f32 (sK a (m + 1)) ≤ rv .f32 (sK a m) := by
  obtain ⟨f, l, u⟩ := sK_le hS hl4 h m (by omega) hm
  have hfs := h.fs
  have hf := fnt_of hfs (sK_F a (m + 1))
  have hfx := fnt_of (h.fx m (by omega)) (xK_F a m)
  rw [sK] at hfs
  have hff := (bnF (.inl rfl) hfs).2
  obtain ⟨ff, uf⟩ := fac_one hfx hff
  refine ⟨hf, f, l, u, ?_⟩
  have e1 : rv .f32 (sK a m) * rv .f32 (fop .sub .f32 1065353216 (fop .mul .f32 (xK a m) (xK a m))) ≤ rv .f32 (sK a m) := by
    have := Rat.mul_le_mul_of_nonneg_left uf l; grind
  exact (mul_rds f ff).le f hf e1

/-! ### in 64 bits -/
theorem wide_mono {c d : Nat} (hc : Fnt .f32 c) (hd : Fnt .f32 d) (fc : Fnt .f64 (fconv .f32 .f64 c)) (fd : Fnt .f64 (fconv .f32 .f64 d)) (h : rv .f32 c ≤ rv .f32 d) : rv .f64 (fconv .f32 .f64 c) ≤ rv .f64 (fconv .f32 .f64 d) := by
  obtain ⟨s, r, rfl, hr, hv⟩ := hc.ex
  obtain ⟨t, q, rfl, hq, hw⟩ := hd.ex
  rw [fconv_word s hr] at fc ⊢
  rw [fconv_word t hq] at fd ⊢
  have hI : ∀ (b : Bool) (x : Nat), Fnt .f64 (FloatKind.f64.format.word b (FloatKind.f64.format.nearest false x FloatKind.f32.format.leastPlace)) → FloatKind.f64.format.nearest false x FloatKind.f32.format.leastPlace < FloatKind.f64.format.infRung := fun b x hf => by
    have := hf.2
    rw [(word_parts .f64 b (r := FloatKind.f64.format.nearest false x FloatKind.f32.format.leastPlace) (by have := nearest_inf FloatKind.f64.format x FloatKind.f32.format.leastPlace; have := inf_sw .f64; omega)).1] at this
    exact this
  rw [rv_word .f64 _ (hI _ _ fc), rv_word .f64 _ (hI _ _ fd)]
  rw [hv, hw] at h
  have p1 := rvR_nn .f32 r
  have p2 := rvR_nn .f32 q
  have n1 := rvR_nn .f64 (FloatKind.f64.format.nearest false (valR FloatKind.f32.format r) FloatKind.f32.format.leastPlace)
  have n2 := rvR_nn .f64 (FloatKind.f64.format.nearest false (valR FloatKind.f32.format q) FloatKind.f32.format.leastPlace)
  have hmono : ∀ x y : Nat, rvR .f32 x ≤ rvR .f32 y → rvR .f64 (FloatKind.f64.format.nearest false (valR FloatKind.f32.format x) FloatKind.f32.format.leastPlace) ≤ rvR .f64 (FloatKind.f64.format.nearest false (valR FloatKind.f32.format y) FloatKind.f32.format.leastPlace) := fun x y hxy => by
    have : x ≤ y := by
      rcases Nat.lt_or_ge y x with h3 | h3
      · have := rvR_lt .f32 h3; grind
      · exact h3
    exact rvR_mono .f64 (nearest_mono _ _ (valR_mono _ this))
  cases s <;> cases t <;> simp only [Bool.false_eq_true, if_false, if_true] at h ⊢
  · exact hmono _ _ h
  · have hz : rvR .f32 r ≤ rvR .f32 0 := by rw [rvR0]; grind
    have hz2 : rvR .f32 q ≤ rvR .f32 0 := by rw [rvR0]; grind
    have m1 := hmono _ _ hz
    have m2 := hmono _ _ hz2
    have e0 : rvR .f64 (FloatKind.f64.format.nearest false (valR FloatKind.f32.format 0) FloatKind.f32.format.leastPlace) = 0 := by decide +kernel
    rw [e0] at m1 m2
    grind
  · grind
  · have := hmono _ _ (show rvR .f32 q ≤ rvR .f32 r by grind)
    grind
theorem wide_fin {c : Nat} (hc : Fnt .f32 c) : Fnt .f64 (fconv .f32 .f64 c) := by
  have h := wide_rds hc
  obtain ⟨s, r, rfl, hr, hv⟩ := hc.ex
  have h1 : rvR .f32 r ≤ topR .f32 := rvR_mono .f32 (by omega)
  have h2 : topR .f32 ≤ topR .f64 := by decide +kernel
  have h0 := rvR_nn .f32 r
  refine h.fin ?_ ?_ <;> rw [hv] <;> split <;> grind
def k1001 : Nat := 4607186922399644778
theorem k1001_rv : Fnt .f64 k1001 ∧ 1 ≤ rv .f64 k1001 ∧ rv .f64 k1001 ≤ 2 := by unfold Fnt; decide +kernel
theorem spread_ok {c d : Nat} (hc : Fnt .f32 c) (hd : Fnt .f32 d) (h0 : 0 ≤ rv .f32 c) (h1 : rv .f32 c ≤ 20000) (h : rv .f32 d ≤ rv .f32 c) : fcmp .gtr .f64 (fconv .f32 .f64 d) (fop .mul .f64 (fconv .f32 .f64 c) k1001) = false := by
  obtain ⟨k1, k2, k3⟩ := k1001_rv
  have fc := wide_fin hc
  have fd := wide_fin hd
  have hm := wide_mono hd hc fd fc h
  have e0 : rv .f64 (fconv .f32 .f64 0) = 0 ∧ Fnt .f64 (fconv .f32 .f64 0) := by unfold Fnt; decide +kernel
  have hc0 := wide_mono fnt0 hc e0.2 fc (by rw [rv0]; exact h0)
  rw [e0.1] at hc0
  have ht : (1000000 : Rat) ≤ topR .f64 := by decide +kernel
  have eB : ep .f64 ≤ 1 / 1000 := by decide +kernel
  have uB : uU .f64 ≤ 1 := by decide +kernel
  have hu := ((wide_rds hc).err (M := 20000) h1 (by grind) (by grind)).2.1
  have hr := mul_rds fc k1
  have m1 := Rat.mul_le_mul_of_nonneg_left k2 hc0
  have m2 := Rat.mul_le_mul_of_nonneg_left k3 hc0
  have hu2 : rv .f64 (fconv .f32 .f64 c) ≤ 30000 := by grind
  have fm : Fnt .f64 (fop .mul .f64 (fconv .f32 .f64 c) k1001) := hr.fin (by grind) (by grind)
  have hge := hr.ge fc fm (by grind)
  rw [gtr_rv fd fm]
  exact decide_eq_false (by grind)
/-- what the law asks of neighbouring orders -/
theorem own_spread {a : List Nat} {k : Nat → Int} (hS : Ser a k) (hl4 : 4 ≤ a.length) {m : Nat} (hm : m ≤ 3) (h0 : (ownF a (m : Nat)).ok = true) (h1 : (ownF a ((m + 1 : Nat) : Int)).ok = true) :
    fcmp .gtr .f64 (fconv .f32 .f64 (ownF a ((m + 1 : Nat) : Int)).s) (fop .mul .f64 (fconv .f32 .f64 (ownF a (m : Nat)).s) k1001) = false := by
  have g0 := ownF_okI h0
  have g1 := ownF_okI h1
  rw [g0.s, g1.s]
  obtain ⟨p1, p2, p3, p4, p5⟩ := sK_step hS hl4 hm g1
  exact spread_ok p2 p1 p3 p4 p5

end Go.Proofs.Ytpdnjcblkjjegaa

