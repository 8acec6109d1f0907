import Derived.Test.YtpdnjcblkjjegaaVT118n
import Derived.Test.YtpdnjcblkjjegaaVAwM
set_option linter.unusedVariables false
set_option linter.unusedSimpArgs false
set_option maxRecDepth 100000
set_option maxHeartbeats 8000000
namespace Go.Proofs.Ytpdnjcblkjjegaa
open Go.Aw

/-! ### chances of states make one, nearly -/
theorem add_rel {r q : Nat} (hr : r < 2139095040) (hq : q < 2139095040) (hB : rvR .f32 r + rvR .f32 q ≤ 1000) :
    fop .add .f32 r q < 2139095040 ∧ ∃ e, rvR .f32 (fop .add .f32 r q) = rvR .f32 r + rvR .f32 q + e ∧ -((rvR .f32 r + rvR .f32 q) / 4000000) ≤ e ∧ e ≤ (rvR .f32 r + rvR .f32 q) / 4000000 := by
  have h0 := rvR_nn .f32 r
  have h0' := rvR_nn .f32 q
  rw [add_nn .f32 (by rw [inf32]; exact hr) (by rw [inf32]; exact hq)]
  have hx : rvR .f32 r + rvR .f32 q = ((valR FloatKind.f32.format r + valR FloatKind.f32.format q : Nat) : Rat) * uU .f32 := by unfold rvR; push_cast; grind
  generalize valR FloatKind.f32.format r + valR FloatKind.f32.format q = m at hx ⊢
  rw [hx] at hB ⊢
  have hbin : FloatKind.f32.format.binade = 8388608 := by decide
  rcases Nat.lt_or_ge m 8388608 with hm | hm
  · have hv : valR FloatKind.f32.format m = m := by unfold valR; rw [hbin, if_pos hm]
    have hn := nearest_valR .f32 (r := m) (by rw [inf32]; omega)
    rw [hv] at hn
    rw [hn]
    have e : rvR .f32 m = (m : Rat) * uU .f32 := by unfold rvR; rw [hv]
    rw [e]
    have h2 : 0 ≤ (m : Rat) * uU .f32 := by rw [← e]; exact rvR_nn _ _
    exact ⟨by omega, 0, by grind, by grind, by grind⟩
  · have hR := Rd_near .f32 m
    have h2 : 0 ≤ (m : Rat) * uU .f32 := by rw [← hx]; grind
    have ht := top32
    obtain ⟨g1, g2, g3⟩ := hR.err h2 (by grind)
    have hu := uU_pos .f32
    have hmu : (8388608 : Rat) * uU .f32 ≤ (m : Rat) * uU .f32 := Rat.mul_le_mul_of_nonneg_right (by exact_mod_cast hm) (Rat.le_of_lt hu)
    rw [ep32] at g2 g3
    refine ⟨by rw [← inf32]; exact g1, rvR .f32 (FloatKind.f32.format.nearest false m FloatKind.f32.format.leastPlace) - (m : Rat) * uU .f32, by grind, by grind, by grind⟩
theorem sixteen_R : rvR .f32 I16 = 16 := by decide +kernel
def sP (z : List Nat) : Nat → Nat
  | 0 => 0
  | i + 1 => fop .add .f32 (sP z i) (z.getD i 0)
def vP (z : List Nat) : Nat → Rat
  | 0 => 0
  | i + 1 => vP z i + rvR .f32 (z.getD i 0)
theorem sumF_P (z : List Nat) : sumF z = sP z z.length := by
  have key : ∀ i, i ≤ z.length → (z.take i).foldl (fun s x => fop .add .f32 s x) 0 = sP z i := fun i => by
    induction i with
    | zero => intro _; rfl
    | succ i ih => intro hi; rw [foldl_take (by omega), ih (by omega)]; rfl
  have := key z.length (Nat.le_refl _)
  rwa [List.take_length] at this
theorem rvR_0 : rvR .f32 0 = 0 := by decide +kernel
def eN : Nat → Rat
  | 0 => 0
  | 1 => 1 / 3000000
  | 2 => 2 / 3000000
  | _ => 3 / 3000000
def bN : Nat → Rat
  | 0 => 0
  | 1 => 16
  | 2 => 32
  | _ => 48
theorem step_R {v x S e E E' B B' : Rat} (h2 : 0 ≤ v) (h3 : v ≤ B) (hx0 : 0 ≤ x) (hx : x ≤ 16) (h4 : S ≤ v + v * E) (h5 : v - v * E ≤ S) (hE0 : 0 ≤ E) (hE : E ≤ 2 / 3000000) (hE' : E + 1 / 3000000 ≤ E') (hB : B + 16 ≤ B')
    (e1 : -((S + x) / 4000000) ≤ e) (e2 : e ≤ (S + x) / 4000000) : 0 ≤ v + x ∧ v + x ≤ B' ∧ S + x + e ≤ (v + x) + (v + x) * E' ∧ (v + x) - (v + x) * E' ≤ S + x + e := by
  have a1 : v * E ≤ v * (2 / 3000000) := Rat.mul_le_mul_of_nonneg_left hE h2
  have a2 : (v + x) * (E + 1 / 3000000) ≤ (v + x) * E' := Rat.mul_le_mul_of_nonneg_left hE' (by grind)
  have a3 : 0 ≤ x * E := Rat.mul_nonneg hx0 hE0
  refine ⟨by grind, by grind, ?_, ?_⟩
  · have : (v + x) * (E + 1 / 3000000) = v * E + x * E + (v + x) / 3000000 := by grind
    grind
  · have : (v + x) * (E + 1 / 3000000) = v * E + x * E + (v + x) / 3000000 := by grind
    grind
/-- sums of few weights -/
theorem sP_ok {z : List Nat} {n : Nat} (hn : n ≤ 3) (h : ∀ k, k < n → z.getD k 0 ≤ I16) : ∀ i, i ≤ n →
    sP z i < 2139095040 ∧ 0 ≤ vP z i ∧ vP z i ≤ bN i ∧ rvR .f32 (sP z i) ≤ vP z i + vP z i * eN i ∧ vP z i - vP z i * eN i ≤ rvR .f32 (sP z i) ∧ ∀ j, j < i → z.getD j 0 ≤ sP z i
  | 0, _ => by
    have e : rvR .f32 (sP z 0) = 0 := rvR_0
    have e2 : vP z 0 = 0 := rfl
    have e3 : bN 0 = 0 := rfl
    rw [e, e2, e3]
    exact ⟨by show (0 : Nat) < _; decide, by grind, by grind, by grind, by grind, fun j hj => by omega⟩
  | i + 1, hi => by
    obtain ⟨h1, h2, h3, h4, h5, h6⟩ := sP_ok hn h i (by omega)
    have hz := h i (by omega)
    have hzR := rvR_mono .f32 hz
    rw [sixteen_R] at hzR
    have hz0 := rvR_nn .f32 (z.getD i 0)
    have hs0 := rvR_nn .f32 (sP z i)
    have hzl : z.getD i 0 < 2139095040 := Nat.lt_of_le_of_lt hz (by decide)
    have hc : i = 0 ∨ i = 1 ∨ i = 2 := by omega
    have hge := add_ge .f32 (r := sP z i) (q := z.getD i 0) (by rw [inf32]; exact h1) (by rw [inf32]; exact hzl)
    have hE : 0 ≤ eN i ∧ eN i ≤ 2 / 3000000 ∧ eN i + 1 / 3000000 ≤ eN (i + 1) ∧ bN i + 16 ≤ bN (i + 1) ∧ bN i ≤ 32 := by rcases hc with rfl | rfl | rfl <;> decide +kernel
    obtain ⟨q1, q2, q3, q4, q5⟩ := hE
    have a1 : vP z i * eN i ≤ vP z i * (2 / 3000000) := Rat.mul_le_mul_of_nonneg_left q2 h2
    obtain ⟨g1, e, g2, g3, g4⟩ := add_rel h1 hzl (by grind)
    obtain ⟨p1, p2, p3, p4⟩ := step_R (B := bN i) (B' := bN (i + 1)) (E' := eN (i + 1)) h2 h3 hz0 hzR h4 h5 q1 q2 q3 q4 g3 g4
    have hS : sP z (i + 1) = fop .add .f32 (sP z i) (z.getD i 0) := rfl
    have hV : vP z (i + 1) = vP z i + rvR .f32 (z.getD i 0) := rfl
    rw [hS, hV, g2]
    refine ⟨g1, p1, p2, p3, p4, fun j hj => ?_⟩
    rcases Nat.lt_or_ge j i with hj' | hj'
    · exact Nat.le_trans (h6 j hj') hge.1
    · obtain rfl : j = i := by omega
      exact hge.2
theorem rv_R {q : Nat} (h : q < 2139095040) : Fnt .f32 q ∧ rv .f32 q = rvR .f32 q := by
  have h1 := rv_word .f32 false (r := q) (by rw [inf32]; exact h)
  have h2 := Fn_word .f32 false (r := q) (by rw [inf32]; exact h)
  rw [word_f] at h1 h2
  exact ⟨h2, by simpa using h1⟩
theorem rvR_pos {U : Nat} (h : 0 < U) : 0 < rvR .f32 U := by
  have := rvR_lt .f32 h
  rw [rvR_0] at this; exact this
theorem quo_R {r U : Nat} (hr : r ≤ U) (hU : U < 2139095040) (hU0 : 0 < U) :
    ∃ zq e, zq * rvR .f32 U = rvR .f32 r ∧ 0 ≤ zq ∧ zq ≤ 1 ∧ rvR .f32 (fop .quo .f32 r U) = zq + e ∧ -(1 / 2000000) ≤ e ∧ e ≤ 1 / 2000000 ∧ fop .quo .f32 r U ≤ I1 := by
  have hp := rvR_pos hU0
  have hm := rvR_mono .f32 hr
  have hle := quoB1 hr hU hU0
  obtain ⟨r', x, h1, h2, h3, h4, h5⟩ := quo_near (k := .f32) (r := r) (q := U) (by rw [inf32]; omega) (by rw [inf32]; exact hU) (by omega) false false
  rw [word_f, word_f] at h1
  have h1' : fop .quo .f32 r U = r' := by rw [h1]; exact word_f _ _
  rw [h1'] at hle ⊢
  have hz : rvR .f32 r / rvR .f32 U * rvR .f32 U = rvR .f32 r := by rw [Rat.div_mul_cancel (by grind)]
  obtain ⟨h6, h7, h8⟩ := h5 _ hz
  generalize rvR .f32 r / rvR .f32 U = zq at *
  have hz1 : zq ≤ 1 := by
    rcases Rat.le_total (a := zq) (b := 1) with h | h
    · exact h
    · have : zq * rvR .f32 U ≤ 1 * rvR .f32 U := by grind
      exact Rat.le_of_mul_le_mul_right this hp
  rw [ep32] at h7 h8
  have ht := top32
  obtain ⟨g1, g2, g3⟩ := h3.err h4 (by grind)
  have hu := u32
  rw [ep32] at g2 g3
  exact ⟨zq, rvR .f32 r' - zq, hz, h6, hz1, by grind, by grind, by grind, hle⟩
def sQ (q : Nat → Nat) : Nat → Nat
  | 0 => 0
  | k + 1 => fop .add .f64 (sQ q k) (fconv .f32 .f64 (q k))
theorem thr_rv : Fnt .f64 4562254508917369340 ∧ 9 / 10000 ≤ rv .f64 4562254508917369340 := by unfold Fnt; decide +kernel
theorem one64 : Fnt .f64 4607182418800017408 ∧ rv .f64 4607182418800017408 = 1 := by unfold Fnt; decide +kernel
theorem chance_sum {z : List Nat} {n : Nat} (h1 : 1 ≤ n) (hn : n ≤ 3) (hl : z.length = n) (hz : ∀ k, k < n → z.getD k 0 ≤ I16) (hU0 : 0 < sumF z) {q : Nat → Nat} (hq : ∀ k, k < n → q k = fop .quo .f32 (z.getD k 0) (sumF z)) :
    fcmp .gtr .f64 (gapD (sQ q n) 4607182418800017408) 4562254508917369340 = false := by
  have hS := sumF_P z
  rw [hl] at hS
  obtain ⟨g1, g2, g3, g4, g5, g6⟩ := sP_ok hn hz n (Nat.le_refl _)
  rw [← hS] at g1 g4 g5 g6
  have hp := rvR_pos hU0
  generalize hUU : sumF z = U at *
  have hE : eN n ≤ 1 / 1000000 := by
    have hc : n = 1 ∨ n = 2 ∨ n = 3 := by omega
    rcases hc with rfl | rfl | rfl <;> decide +kernel
  have a1 : vP z n * eN n ≤ vP z n * (1 / 1000000) := Rat.mul_le_mul_of_nonneg_left hE g2
  have key : ∀ i, i ≤ n → ∃ Z : Rat, Z * rvR .f32 U = vP z i ∧ 0 ≤ Z ∧ Fnt .f64 (sQ q i) ∧ Z - (i : Rat) / 1000000 ≤ rv .f64 (sQ q i) ∧ rv .f64 (sQ q i) ≤ Z + (i : Rat) / 1000000 ∧ Z ≤ (i : Rat) := fun i => by
    induction i with
    | zero =>
      intro _
      have e : rv .f64 (sQ q 0) = 0 := fnt_0.2
      rw [e]
      exact ⟨0, by show (0 : Rat) * _ = 0; grind, by grind, fnt_0.1, by simp; grind, by simp; grind, by simp⟩
    | succ i ih =>
      intro hi
      obtain ⟨Z, z1, z2, z3, z4, z5, z6⟩ := ih (by omega)
      obtain ⟨zq, e, y1, y2, y3, y4, y5, y6, y7⟩ := quo_R (g6 i (by omega)) g1 hU0
      rw [← hq i (by omega)] at y4 y7
      have hlt : q i < 2139095040 := Nat.lt_of_le_of_lt y7 (by decide)
      obtain ⟨f1, f2⟩ := rv_R hlt
      have hb : Bd (q i) 2 := ⟨f1, by rw [f2, y4]; grind, by rw [f2, y4]; grind⟩
      obtain ⟨e2, w1, w2, w3, w4⟩ := wide_e hb (by unfold okM; constructor <;> decide +kernel)
      have hc : i = 0 ∨ i = 1 ∨ i = 2 := by omega
      have hi3 : (i : Rat) ≤ 2 ∧ 0 ≤ (i : Rat) := by rcases hc with rfl | rfl | rfl <;> decide +kernel
      have hcast : ((i + 1 : Nat) : Rat) = (i : Rat) + 1 := by push_cast; rfl
      rw [hcast]
      generalize (i : Rat) = ir at *
      have hw : rv .f64 (fconv .f32 .f64 (q i)) = zq + e + e2 := by rw [w1, f2, y4]
      obtain ⟨e3, x1, x2, x3, x4⟩ := add64 (M := 10) z3 w4 (by rw [hw]; grind) (by rw [hw]; grind) (by unfold okM; constructor <;> decide +kernel)
      have hSQ : sQ q (i + 1) = fop .add .f64 (sQ q i) (fconv .f32 .f64 (q i)) := rfl
      have hVP : vP z (i + 1) = vP z i + rvR .f32 (z.getD i 0) := rfl
      rw [hSQ, hVP]
      refine ⟨Z + zq, by rw [← z1, ← y1]; grind, by grind, x4, ?_, ?_, by grind⟩
      · rw [x1, hw]; grind
      · rw [x1, hw]; grind
  obtain ⟨Z, z1, z2, z3, z4, z5, z6⟩ := key n (Nat.le_refl _)
  have hn3 : (n : Rat) ≤ 3 := by
    have hc : n = 1 ∨ n = 2 ∨ n = 3 := by omega
    rcases hc with rfl | rfl | rfl <;> decide +kernel
  have u1 : Z ≤ 1 + 2 / 1000000 := by
    refine Rat.le_of_mul_le_mul_right (c := rvR .f32 U) ?_ hp
    rw [z1]; grind
  have u2 : 1 - 2 / 1000000 ≤ Z := by
    refine Rat.le_of_mul_le_mul_right (c := rvR .f32 U) ?_ hp
    rw [z1]; grind
  have hs1 : rv .f64 (sQ q n) ≤ 1 + 1 / 100000 := by grind
  have hs2 : 1 - 1 / 100000 ≤ rv .f64 (sQ q n) := by grind
  have o1 := one64
  have t1 := thr_rv
  have fin : ∀ g, Fnt .f64 g → rv .f64 g ≤ 1 / 10000 → fcmp .gtr .f64 g 4562254508917369340 = false := fun g hg hb => by
    rw [gtr_rv hg t1.1]
    exact decide_eq_false (by grind)
  unfold gapD
  split
  · obtain ⟨e, x1, x2, x3, x4⟩ := sub64 (M := 1) o1.1 z3 (by rw [o1.2]; grind) (by rw [o1.2]; grind) (by unfold okM; constructor <;> decide +kernel)
    exact fin _ x4 (by rw [x1, o1.2]; grind)
  · obtain ⟨e, x1, x2, x3, x4⟩ := sub64 (M := 1) z3 o1.1 (by rw [o1.2]; grind) (by rw [o1.2]; grind) (by unfold okM; constructor <;> decide +kernel)
    exact fin _ x4 (by rw [x1, o1.2]; grind)
end Go.Proofs.Ytpdnjcblkjjegaa

set_option linter.unusedVariables false
set_option linter.unusedSimpArgs false
set_option maxRecDepth 100000
set_option maxHeartbeats 8000000
namespace Go.Proofs.Ytpdnjcblkjjegaa
open Go.Aw

/-! ### how likely states are: what the law asks -/
theorem rsO_get {a b c d s : List Nat} {m t k : Nat} (h : t < m) (hk : k < a.length) : (rsO a b c d s m).getD (t * a.length + k) 0 = fop .quo .f32 ((rzL a b (rsC a b c d s t) (s.getD t 0)).getD k 0) (sumF (rzL a b (rsC a b c d s t) (s.getD t 0))) := by
  induction m with
  | zero => omega
  | succ m ih =>
    have hl := rsO_len a b c d s m
    rw [rsO]
    rcases Nat.lt_or_ge t m with hi | hi
    · have m3 : (t + 1) * a.length ≤ m * a.length := Nat.mul_le_mul_right _ hi
      have m4 : (t + 1) * a.length = t * a.length + a.length := by rw [Nat.add_mul, Nat.one_mul]
      rw [List.getD_eq_getElem?_getD, List.getElem?_append_left (by omega), ← List.getD_eq_getElem?_getD]
      exact ih hi
    · obtain rfl : t = m := by omega
      rw [List.getD_eq_getElem?_getD, List.getElem?_append_right (by omega), ← List.getD_eq_getElem?_getD, show t * a.length + k - (rsO a b c d s t).length = k by omega]
      exact getD_mapR _ hk
theorem add_2 : fop .add .f32 I1 I1 = 1073741824 ∧ fop .add .f32 1073741824 I1 = 1077936128 ∧ fop .add .f32 0 I1 = I1 := by decide +kernel
theorem rsN_le {d : List Nat} {n : Nat} {q : List Nat} {k : Nat} (hn : n ≤ 3) (hq : ∀ i, i < n → q.getD i 0 ≤ I1) (hd : ∀ i, i < n → d.getD (i * n + k) 0 ≤ I1) : rsN d n q k n ≤ I4 := by
  have hm : ∀ i, i < n → fop .mul .f32 (q.getD i 0) (d.getD (i * n + k) 0) ≤ I1 := fun i hi => mulB11 (hq i hi) (hd i hi)
  have i1 : I1 < FloatKind.f32.format.infRung := by rw [inf32]; decide
  have s1 : 1 ≤ n → rsN d n q k 1 ≤ I1 := fun h => by
    have := add_mono .f32 (r := 0) (r' := 0) (Nat.le_refl _) (hm 0 (by omega)) (by rw [inf32]; decide) i1
    rw [add_2.2.2] at this; exact this
  have s2 : 2 ≤ n → rsN d n q k 2 ≤ 1073741824 := fun h => by
    have := add_mono .f32 (s1 (by omega)) (hm 1 (by omega)) i1 i1
    rw [add_2.1] at this; exact this
  have s3 : 3 ≤ n → rsN d n q k 3 ≤ 1077936128 := fun h => by
    have := add_mono .f32 (s2 (by omega)) (hm 2 (by omega)) (by rw [inf32]; decide) i1
    rw [add_2.2.1] at this; exact this
  have hc : n = 0 ∨ n = 1 ∨ n = 2 ∨ n = 3 := by omega
  rcases hc with rfl | rfl | rfl | rfl
  · exact Nat.zero_le _
  · exact Nat.le_trans (s1 (by omega)) (by decide)
  · exact Nat.le_trans (s2 (by omega)) (by decide)
  · exact Nat.le_trans (s3 (by omega)) (by decide)
theorem RgI.rz_le {a b c d s : List Nat} (h : RgI a b c d s) {t : Nat} (ht : t < s.length) {ch : List Nat} (hc : ∀ k, k < a.length → ch.getD k 0 ≤ I4) : ∀ k, k < a.length → (rzL a b ch (s.getD t 0)).getD k 0 ≤ I16 := fun k hk => by
  rw [rzL_get hk]; exact mulB44 (hc k hk) (h.wgt_le ht hk)
theorem RgI.U_ok {a b c d s : List Nat} (h : RgI a b c d s) {t : Nat} (ht : t < s.length) {ch : List Nat} (hc : ∀ k, k < a.length → ch.getD k 0 ≤ I4) (hU : above (sumF (rzL a b ch (s.getD t 0))) = true) :
    sumF (rzL a b ch (s.getD t 0)) < 2139095040 ∧ 0 < sumF (rzL a b ch (s.getD t 0)) ∧ ∀ k, k < a.length → (rzL a b ch (s.getD t 0)).getD k 0 ≤ sumF (rzL a b ch (s.getD t 0)) := by
  have hz := h.rz_le ht hc
  have hl := rzL_len a b ch (s.getD t 0)
  have hS := sumF_P (rzL a b ch (s.getD t 0))
  rw [hl] at hS
  obtain ⟨g1, _, _, _, _, g6⟩ := sP_ok h.n3 hz a.length (Nat.le_refl _)
  rw [← hS] at g1 g6
  refine ⟨g1, ?_, g6⟩
  unfold above at hU
  rw [Bool.and_eq_true, gtr_pos g1 (by decide), decide_eq_true_eq] at hU
  exact hU.2
theorem RgI.rsC_le {a b c d s : List Nat} (h : RgI a b c d s) (hA : rsA a b c d s = true) : ∀ t, t < s.length → ∀ k, k < a.length → (rsC a b c d s t).getD k 0 ≤ I4
  | 0, _, k, hk => Nat.le_trans (h.fc k hk) (by decide)
  | t + 1, ht, k, hk => by
    have ih := h.rsC_le hA t (by omega)
    have hU := List.all_eq_true.1 hA t (List.mem_range.2 (by omega))
    obtain ⟨u1, u2, u3⟩ := h.U_ok (t := t) (by omega) ih hU
    rw [rsC_get hk]
    refine rsN_le h.n3 (fun i hi => ?_) (fun i hi => h.fd _ ?_)
    · unfold rsQ
      rw [getD_mapR _ hi]
      exact quoB1 (u3 i hi) u1 u2
    · have m3 : (i + 1) * a.length ≤ a.length * a.length := Nat.mul_le_mul_right _ hi
      have m4 : (i + 1) * a.length = i * a.length + a.length := by rw [Nat.add_mul, Nat.one_mul]
      omega
theorem lss_pos {x y : Nat} (hx : x < 2139095040) (hy : y < 2139095040) : fcmp .lss .f32 x y = decide (x < y) := by
  unfold fcmp
  simp only []
  rw [order_pos hx hy]
  rcases Nat.lt_trichotomy x y with h | h | h
  · rw [Nat.compare_eq_lt.2 h, decide_eq_true h]; rfl
  · rw [Nat.compare_eq_eq.2 h, decide_eq_false (by omega)]; rfl
  · rw [Nat.compare_eq_gt.2 h, decide_eq_false (by omega)]; rfl
theorem RgI.shares {a b c d s : List Nat} (h : RgI a b c d s) (ho : (rsF a b c d s).2.2 = true) : (rsF a b c d s).1.length = s.length * a.length ∧ ∀ i, i < s.length →
    (∀ k, k < a.length → fcmp .lss .f32 ((rsF a b c d s).1.getD (i * a.length + k) 0) 0 = false) ∧ fcmp .gtr .f64 (gapD (sQ (fun k => (rsF a b c d s).1.getD (i * a.length + k) 0) a.length) 4607182418800017408) 4562254508917369340 = false := by
  unfold rsF at ho ⊢
  split at ho
  · rename_i hc
    rw [if_pos hc]
    simp only [Bool.and_eq_true] at hc
    have hA := hc.1.1.2
    refine ⟨rsO_len _ _ _ _ _ _, fun i hi => ?_⟩
    have hC := h.rsC_le hA i hi
    have hU := List.all_eq_true.1 hA i (List.mem_range.2 hi)
    obtain ⟨u1, u2, u3⟩ := h.U_ok hi hC hU
    refine ⟨fun k hk => ?_, ?_⟩
    · simp only []
      rw [rsO_get hi hk, lss_pos (Nat.lt_of_le_of_lt (quoB1 (u3 k hk) u1 u2) (by decide)) (by decide)]
      exact decide_eq_false (by omega)
    · exact chance_sum h.n1 h.n3 (rzL_len _ _ _ _) (h.rz_le hi hC) u2 (fun k hk => rsO_get hi hk)
  · cases ho
end Go.Proofs.Ytpdnjcblkjjegaa

