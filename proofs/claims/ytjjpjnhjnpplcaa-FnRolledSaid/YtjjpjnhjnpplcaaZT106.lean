import Derived.Test.YtjjpjnhjnpplcaaZT50
import Derived.Test.YtjjpjnhjnpplcaaZAwJ
set_option linter.unusedVariables false
set_option linter.unusedSimpArgs false
set_option maxRecDepth 20000
set_option maxHeartbeats 8000000
namespace Go.Proofs.Ytjjpjnhjnpplcaa
open Go.Aw

/-! ### series of bounded numbers: forecasts, misses, means -/
def SerB (a : List Nat) : Prop := (1 ≤ a.length ∧ a.length ≤ 96) ∧ ∀ i, i < a.length → Bd (a.getD i 0) 64
theorem SerB.ser {a : List Nat} (h : SerB a) : isSer a = true := by
  unfold isSer
  simp only [Bool.and_eq_true, decide_eq_true_eq]
  refine ⟨h.1, List.all_eq_true.2 fun c hc => ?_⟩
  obtain ⟨i, hi, rfl⟩ := List.getElem_of_mem hc
  have := (h.2 i hi).fin
  rw [List.getD_eq_getElem?_getD, List.getElem?_eq_getElem hi] at this
  exact this
theorem getD_take {a : List Nat} {n i : Nat} (h : i < n) : (a.take n).getD i 0 = a.getD i 0 := by
  simp [List.getD_eq_getElem?_getD, List.getElem?_take, h]
theorem SerB.take {a : List Nat} (h : SerB a) {n : Nat} (h1 : 1 ≤ n) (h2 : n ≤ a.length) : SerB (a.take n) ∧ (a.take n).length = n := by
  have hl : (a.take n).length = n := by simp; omega
  refine ⟨⟨by rw [hl]; have := h.1; omega, fun i hi => ?_⟩, hl⟩
  rw [hl] at hi
  rw [getD_take hi]
  exact h.2 i (by omega)
theorem nat_cast_le {i n : Nat} (h : i ≤ n) : ((i : Nat) : Rat) ≤ (n : Rat) ∧ (0 : Rat) ≤ (i : Rat) := ⟨by exact_mod_cast h, by exact_mod_cast Nat.zero_le i⟩
theorem fn_0 : Fnt .f32 0 ∧ rv .f32 0 = 0 := by unfold Fnt; decide +kernel
/-- a sum of bounded numbers -/
theorem sum_bd {a : List Nat} (h : SerB a) : ∀ i, i ≤ a.length → Bd ((a.take i).foldl (fun s x => fop .add .f32 s x) 0) (65 * (i : Rat))
  | 0, _ => by simp only [List.take_zero, List.foldl_nil]; exact ⟨fn_0.1, by rw [fn_0.2]; simp, by rw [fn_0.2]; simp⟩
  | i + 1, hi => by
    have ih := sum_bd h i (by omega)
    rw [foldl_take (by omega)]
    have hx := h.2 i (by omega)
    have hn := nat_cast_le (show i ≤ 96 by have := h.1; omega)
    obtain ⟨e, h1, h2, h3, h4⟩ := add32 (M := 10000) ih.1 hx.1 (by have := ih.2; have := hx.2; grind) (by have := ih.2; have := hx.2; grind) (by unfold okM; constructor <;> grind)
    have := ih.2; have := hx.2
    refine ⟨h4, ?_, ?_⟩
    · rw [h1]; push_cast; grind
    · rw [h1]; push_cast; grind
theorem mean_bd {a : List Nat} (h : SerB a) : Bd (meanF a) 20000 := by
  unfold meanF sumF
  have h1 := sum_bd h a.length (Nat.le_refl _)
  rw [List.take_length] at h1
  have hn := nat_cast_le h.1.2
  have h2 := fint_ge1 h.1.1 (by have := h.1.2; omega)
  exact (h1.mono (N := 10000) (by grind)).quo h2.1 h2.2 (by decide +kernel) (by unfold okM; constructor <;> grind)
theorem c03 : Fnt .f32 1050253722 ∧ rv .f32 1050253722 ≤ 3 / 10 + 1 / 1000000 ∧ 3 / 10 - 1 / 1000000 ≤ rv .f32 1050253722 := by unfold Fnt; decide +kernel
theorem lev_bd {a : List Nat} (h : SerB a) : ∀ i, i < a.length → Bd (lev a 1050253722 i) (64 + (i : Rat) / 100)
  | 0, hi => by simp only [lev]; exact (h.2 0 hi).mono (by push_cast; grind)
  | i + 1, hi => by
    have ih := lev_bd h i (by omega)
    have hx := h.2 (i + 1) hi
    have hn := nat_cast_le (show i ≤ 96 by have := h.1; omega)
    have g1 := ih.2; have g2 := hx.2; have g3 := c03
    simp only [lev]
    obtain ⟨e, h1, h2, h3, h4⟩ := sub32 (M := 200) hx.1 ih.1 (by grind) (by grind) (by unfold okM; constructor <;> grind)
    -- the share of the step
    have hS1 := Rat.mul_nonneg (show 0 ≤ rv .f32 1050253722 - (3 / 10 - 1 / 1000000) by grind) (show 0 ≤ 200 - (rv .f32 (a.getD (i + 1) 0) - rv .f32 (lev a 1050253722 i)) by grind)
    have hS2 := Rat.mul_nonneg (show 0 ≤ rv .f32 1050253722 - (3 / 10 - 1 / 1000000) by grind) (show 0 ≤ 200 + (rv .f32 (a.getD (i + 1) 0) - rv .f32 (lev a 1050253722 i)) by grind)
    have hS3 := Rat.mul_nonneg (show 0 ≤ (3 / 10 + 1 / 1000000) - rv .f32 1050253722 by grind) (show 0 ≤ 200 - (rv .f32 (a.getD (i + 1) 0) - rv .f32 (lev a 1050253722 i)) by grind)
    have hS4 := Rat.mul_nonneg (show 0 ≤ (3 / 10 + 1 / 1000000) - rv .f32 1050253722 by grind) (show 0 ≤ 200 + (rv .f32 (a.getD (i + 1) 0) - rv .f32 (lev a 1050253722 i)) by grind)
    have hE := mul_bd (show rv .f32 1050253722 ≤ 1 by grind) (show -1 ≤ rv .f32 1050253722 by grind) h3 (by grind)
    generalize rv .f32 (a.getD (i + 1) 0) = X at *
    generalize hV : rv .f32 (lev a 1050253722 i) = V at *
    have hP : rv .f32 1050253722 * rv .f32 (fop .sub .f32 (a.getD (i + 1) 0) (lev a 1050253722 i)) = rv .f32 1050253722 * (X - V) + rv .f32 1050253722 * e := by rw [h1]; grind
    obtain ⟨e2, k1, k2, k3, k4⟩ := mul32 (M := 200) c03.1 h4 (by rw [hP]; grind) (by rw [hP]; grind) (by unfold okM; constructor <;> grind)
    obtain ⟨e3, j1, j2, j3, j4⟩ := add32 (M := 1000) ih.1 k4 (by rw [k1, hP, hV]; grind) (by rw [k1, hP, hV]; grind) (by unfold okM; constructor <;> grind)
    refine ⟨j4, ?_, ?_⟩
    · rw [j1, k1, hP, hV]; push_cast; grind
    · rw [j1, k1, hP, hV]; push_cast; grind
theorem slope_bd {a : List Nat} (h : SerB a) : Bd (slopeF a) 1000 := by
  unfold slopeF
  split
  · exact ⟨fn_0.1, by rw [fn_0.2]; grind, by rw [fn_0.2]; grind⟩
  · have hl := h.1
    have e : ((a.length : Int) - 1) = ((a.length - 1 : Nat) : Int) := by omega
    rw [e]
    have h2 := fint_ge1 (n := a.length - 1) (by omega) (by omega)
    have h3 := (h.2 (a.length - 1) (by omega)).sub (h.2 0 (by omega)) (L := 256) (by grind) (by unfold okM; constructor <;> grind)
    exact h3.quo h2.1 h2.2 (by grind) (by unfold okM; constructor <;> grind)
theorem fint_bd {k : Nat} (h1 : 1 ≤ k) (h2 : k ≤ 32) : Bd (fint .f32 (k : Int)) 40 := by
  have hn := nat_cast_le h2
  have e : (((k : Nat) : Int) : Rat) = (k : Rat) := rfl
  obtain ⟨e1, g1, g2, g3, g4⟩ := int32 (n := (k : Int)) (M := 32) (by rw [e]; grind) (by rw [e]; grind) (by unfold okM; constructor <;> grind)
  rw [e] at g1
  exact ⟨g4, by rw [g1]; grind, by rw [g1]; grind⟩
theorem fcA_bd {a : List Nat} (h : SerB a) {kd per k : Nat} (hk : 1 ≤ k ∧ k ≤ 32) (hp : 1 ≤ per ∧ per ≤ a.length) : Bd (fcA a kd per k) 200000 := by
  have hl := h.1
  have hlast := h.2 (a.length - 1) (by omega)
  unfold fcA
  split
  · exact hlast.mono (by grind)
  split
  · have := Nat.mod_lt (k - 1) (show 0 < per by omega)
    exact (h.2 (a.length - per + (k - 1) % per) (by omega)).mono (by grind)
  split
  · exact (mean_bd h).mono (by grind)
  split
  · have h1 := (fint_bd hk.1 hk.2).mul (slope_bd h) (L := 80000) (by grind) (by unfold okM; constructor <;> grind)
    exact hlast.add h1 (by grind) (by unfold okM; constructor <;> grind)
  · have hn := nat_cast_le (show a.length - 1 ≤ 96 by omega)
    exact (lev_bd h (a.length - 1) (by omega)).mono (by grind)
theorem fcBy_bd {a : List Nat} (h : SerB a) {kd per k : Nat} (hkd : kd ≤ 4) (hk : 1 ≤ k ∧ k ≤ 32) (hp : 1 ≤ per ∧ per ≤ a.length) : fcBy a (kd : Nat) (per : Nat) (k : Nat) = (fcL a kd per k, true) := by
  unfold fcBy
  have hok : fcOk a (kd : Nat) (per : Nat) (k : Nat) = true := by
    unfold fcOk
    simp only [Bool.and_eq_true, inR_t]
    refine ⟨⟨⟨h.ser, ?_⟩, ?_⟩, ?_⟩ <;> omega
  rw [if_pos hok]
  unfold ifAllF
  rw [if_pos]
  · simp
  · refine List.all_eq_true.2 fun c hc => ?_
    simp only [fcL, List.mem_map, List.mem_range, Int.toNat_natCast] at hc
    obtain ⟨j, hj, rfl⟩ := hc
    exact (fcA_bd h (k := j + 1) (by omega) hp).fin
theorem rmA_bd {a : List Nat} (h : SerB a) {kd per k at_ : Nat} (hkd : kd ≤ 4) (hk : 1 ≤ k ∧ k ≤ 32) (hp : 1 ≤ per ∧ per ≤ at_) (hat : at_ + k ≤ a.length) :
    (fcBy (a.take at_) (kd : Nat) (per : Nat) (k : Nat)).2 = true ∧ rmA a (kd : Nat) (per : Nat) k at_ = fop .sub .f32 (a.getD (at_ + k - 1) 0) (fcA (a.take at_) kd per k) ∧ Bd (rmA a (kd : Nat) (per : Nat) k at_) 500000 := by
  have ht := h.take (n := at_) (by omega) (by omega)
  have hf := fcBy_bd ht.1 hkd hk (by omega : 1 ≤ per ∧ per ≤ (a.take at_).length)
  have e : rmA a (kd : Nat) (per : Nat) k at_ = fop .sub .f32 (a.getD (at_ + k - 1) 0) (fcA (a.take at_) kd per k) := by
    unfold rmA
    rw [hf]
    rw [fcL_get (by omega), show k - 1 + 1 = k by omega]
  refine ⟨by rw [hf], e, ?_⟩
  rw [e]
  exact (h.2 _ (by omega)).sub (fcA_bd ht.1 hk (by omega)) (by grind) (by unfold okM; constructor <;> grind)
theorem rollM_bd {a : List Nat} (h : SerB a) {kd per f k : Nat} (hkd : kd ≤ 4) (hk : 1 ≤ k ∧ k ≤ 32) (hp : 1 ≤ per ∧ per ≤ f) (hf : f + k ≤ a.length) : rollM a (kd : Nat) (per : Nat) (f : Nat) (k : Nat) = (rmL a (kd : Nat) (per : Nat) f k, true) := by
  have hl := h.1
  unfold rollM
  have h1 : rmOk a (kd : Nat) (per : Nat) (f : Nat) (k : Nat) = true := by
    unfold rmOk fcOk
    simp only [Bool.and_eq_true, inR_t, decide_eq_true_eq]
    refine ⟨⟨⟨⟨⟨h.ser, ?_⟩, ?_⟩, ?_⟩, ?_⟩, ?_⟩ <;> omega
  have h2 : rmAll a (kd : Nat) (per : Nat) f k = true := by
    unfold rmAll
    refine List.all_eq_true.2 fun j hj => ?_
    have hj' : j < rmN a f k := List.mem_range.1 hj
    unfold rmN at hj'
    exact (rmA_bd h (at_ := f + j) hkd hk (by omega) (by omega)).1
  rw [Int.toNat_natCast, Int.toNat_natCast, if_pos (by rw [h1, h2]; rfl)]
  unfold ifAllF
  rw [if_pos]
  refine List.all_eq_true.2 fun c hc => ?_
  simp only [rmL, List.mem_map, List.mem_range] at hc
  obtain ⟨j, hj, rfl⟩ := hc
  unfold rmN at hj
  exact (rmA_bd h (at_ := f + j) hkd hk (by omega) (by omega)).2.2.fin
theorem dot_bd {a b : List Nat} (ha : ∀ i, i < a.length → Bd (a.getD i 0) 500000) (hb : ∀ i, i < a.length → Bd (b.getD i 0) 500000) (hl : a.length ≤ 96) : ∀ i, i ≤ a.length → Bd (dotN a b i) (600000000000 * (i : Rat))
  | 0, _ => by simp only [dotN]; exact ⟨fn_0.1, by rw [fn_0.2]; simp, by rw [fn_0.2]; simp⟩
  | i + 1, hi => by
    have ih := dot_bd ha hb hl i (by omega)
    have hn := nat_cast_le (show i ≤ 96 by omega)
    simp only [dotN]
    have hp := (ha i (by omega)).mul (hb i (by omega)) (L := 500000000000) (by grind) (by unfold okM; constructor <;> grind)
    obtain ⟨e, h1, h2, h3, h4⟩ := add32 (M := 100000000000000) ih.1 hp.1 (by have := ih.2; have := hp.2; grind) (by have := ih.2; have := hp.2; grind) (by unfold okM; constructor <;> grind)
    have := ih.2; have := hp.2
    refine ⟨h4, ?_, ?_⟩
    · rw [h1]; push_cast; grind
    · rw [h1]; push_cast; grind
theorem rolled_bd {a : List Nat} (h : SerB a) {kd per f k : Nat} (hkd : kd ≤ 4) (hk : 1 ≤ k ∧ k ≤ 32) (hp : 1 ≤ per ∧ per ≤ f) (hf : f + k ≤ a.length) : (rolledF a (kd : Nat) (per : Nat) (f : Nat) (k : Nat)).2 = true ∧ Fnt .f32 (rolledF a (kd : Nat) (per : Nat) (f : Nat) (k : Nat)).1 := by
  have hl := h.1
  have hm := rollM_bd h hkd hk hp hf
  have hlen := rmL_len a (kd : Nat) (per : Nat) f k
  have hn1 : 1 ≤ (rmL a (kd : Nat) (per : Nat) f k).length ∧ (rmL a (kd : Nat) (per : Nat) f k).length ≤ 96 := by rw [hlen]; unfold rmN; omega
  have hB : ∀ i, i < (rmL a (kd : Nat) (per : Nat) f k).length → Bd ((rmL a (kd : Nat) (per : Nat) f k).getD i 0) 500000 := fun i hi => by
    rw [hlen] at hi
    unfold rmL
    rw [getD_mapR _ hi]
    unfold rmN at hi
    exact (rmA_bd h (at_ := f + i) hkd hk (by omega) (by omega)).2.2
  have hd := dot_bd hB hB hn1.2 _ (Nat.le_refl _)
  have hn := nat_cast_le hn1.2
  have h2 := fint_ge1 hn1.1 (by omega)
  have hq := (hd.mono (N := 100000000000000) (by grind)).quo h2.1 h2.2 (L := 1000000000000000) (by grind) (by unfold okM; constructor <;> grind)
  have e : rolledF a (kd : Nat) (per : Nat) (f : Nat) (k : Nat) = (fop .quo .f32 (dotF (rmL a (kd : Nat) (per : Nat) f k) (rmL a (kd : Nat) (per : Nat) f k)) (fint .f32 ((rmL a (kd : Nat) (per : Nat) f k).length : Nat)), true) := by
    unfold rolledF
    rw [hm]
    simp only [if_true]
    unfold numF
    have hq' : fin (fop .quo .f32 (dotF (rmL a (kd : Nat) (per : Nat) f k) (rmL a (kd : Nat) (per : Nat) f k)) (fint .f32 ((rmL a (kd : Nat) (per : Nat) f k).length : Nat))) = true := hq.fin
    rw [if_pos hq']
  rw [e]
  exact ⟨rfl, hq.1⟩
/-- the best kind misses least -/
theorem bk_least {a : List Nat} (h : SerB a) {per f k : Nat} (hk : 1 ≤ k ∧ k ≤ 32) (hp : 1 ≤ per ∧ per ≤ f) (hf : f + k ≤ a.length) : ∀ j, 1 ≤ j → j ≤ 5 → ∃ b : Nat, b < j ∧ bkA a (per : Nat) (f : Nat) (k : Nat) j = ((b : Int), (rolledF a (b : Nat) (per : Nat) (f : Nat) (k : Nat)).1) ∧
    ∀ i, i < j → rv .f32 (rolledF a (b : Nat) (per : Nat) (f : Nat) (k : Nat)).1 ≤ rv .f32 (rolledF a (i : Nat) (per : Nat) (f : Nat) (k : Nat)).1
  | 0, h1, _ => by omega
  | 1, _, _ => by
    refine ⟨0, by omega, by rw [bkA_t (.inl rfl)], fun i hi => ?_⟩
    have : i = 0 := by omega
    subst this
    exact Rat.le_refl
  | j + 2, _, h5 => by
    obtain ⟨b, hb, e, hmin⟩ := bk_least h hk hp hf (j + 1) (by omega) (by omega)
    have hFb := (rolled_bd h (kd := b) (by omega) hk hp hf).2
    have hFj := (rolled_bd h (kd := j + 1) (by omega) hk hp hf).2
    by_cases hc : fcmp .lss .f32 (rolledF a ((j + 1 : Nat) : Int) (per : Nat) (f : Nat) (k : Nat)).1 (bkA a (per : Nat) (f : Nat) (k : Nat) (j + 1)).2 = true
    · refine ⟨j + 1, by omega, by rw [bkA_t (.inr hc)], fun i hi => ?_⟩
      rw [e, lss_rv hFj hFb, decide_eq_true_eq] at hc
      by_cases hij : i = j + 1
      · subst hij; exact Rat.le_refl
      · have := hmin i (by omega); grind
    · refine ⟨b, by omega, by rw [bkA_f (by rintro (h' | h'); omega; exact hc h')]; exact e, fun i hi => ?_⟩
      rw [e, lss_rv hFj hFb, decide_eq_true_eq] at hc
      by_cases hij : i = j + 1
      · subst hij; grind
      · exact hmin i (by omega)
theorem best_ok {a : List Nat} (h : SerB a) {per f k : Nat} (hk : 1 ≤ k ∧ k ≤ 32) (hp : 1 ≤ per ∧ per ≤ f) (hf : f + k ≤ a.length) : ∃ b : Nat, b ≤ 4 ∧ bestK a (per : Nat) (f : Nat) (k : Nat) = ((b : Int), true) ∧
    ∀ i : Nat, i ≤ 4 → fcmp .gtr .f32 (rolledF a (b : Nat) (per : Nat) (f : Nat) (k : Nat)).1 (rolledF a (i : Nat) (per : Nat) (f : Nat) (k : Nat)).1 = false := by
  obtain ⟨b, hb, e, hmin⟩ := bk_least h hk hp hf 5 (by omega) (by omega)
  refine ⟨b, by omega, ?_, fun i hi => ?_⟩
  · unfold bestK
    rw [if_pos, e]
    refine List.all_eq_true.2 fun j hj => ?_
    have : j < 5 := List.mem_range.1 hj
    exact (rolled_bd h (kd := j) (by omega) hk hp hf).1
  · rw [gtr_rv (rolled_bd h (by omega) hk hp hf).2 (rolled_bd h hi hk hp hf).2]
    have := hmin i (by omega)
    exact decide_eq_false (by grind)
theorem neq_same {c : Nat} (h : Fnt .f32 c) : fcmp .neq .f32 c c = false := by
  rw [neq_rv h h]; simp
theorem sub_same {c : Nat} (h : Fnt .f32 c) : fop .sub .f32 c c = 0 := by
  rw [sub_self]
  have : finR .f32 c = true := decide_eq_true h.2
  rw [this]; rfl
end Go.Proofs.Ytjjpjnhjnpplcaa
