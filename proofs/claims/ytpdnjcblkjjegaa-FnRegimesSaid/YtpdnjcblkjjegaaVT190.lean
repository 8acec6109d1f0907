import Derived.Test.YtpdnjcblkjjegaaVAwG
set_option linter.unusedVariables false
set_option linter.unusedSimpArgs false
set_option maxRecDepth 20000
set_option maxHeartbeats 8000000
namespace Go.Proofs.Ytpdnjcblkjjegaa
open Go.Aw

/-! ### likeliest ways: the plain law -/
/-- the first greatest of the first i numbers -/
def fsI (l : List Nat) : Nat → Nat
  | 0 => 0
  | i + 1 => if fcmp .gtr .f32 (l.getD i 0) (l.getD (fsI l i) 0) = true then i else fsI l i
theorem fsI_le (l : List Nat) : ∀ i, fsI l i ≤ i - 1
  | 0 => by simp [fsI]
  | i + 1 => by
    have := fsI_le l i
    unfold fsI; split <;> omega
theorem fsI_lt (l : List Nat) {i : Nat} (h : 1 ≤ i) : fsI l i < i := by have := fsI_le l i; omega
theorem fsI_t {l : List Nat} {i : Nat} (h : fcmp .gtr .f32 (l.getD i 0) (l.getD (fsI l i) 0) = true) : fsI l (i + 1) = i := by rw [fsI, if_pos h]
theorem fsI_f {l : List Nat} {i : Nat} (h : fcmp .gtr .f32 (l.getD i 0) (l.getD (fsI l i) 0) = false) : fsI l (i + 1) = fsI l i := by rw [fsI, if_neg (by rw [h]; simp)]
def wyY (d B : List Nat) (n k i : Nat) : Nat := fop .mul .f32 (B.getD i 0) (d.getD (i * n + k) 0)
def wyM (d B : List Nat) (n k : Nat) : Nat → Nat
  | 0 => 0
  | i + 1 => if i = 0 ∨ fcmp .gtr .f32 (wyY d B n k i) (wyM d B n k i) = true then wyY d B n k i else wyM d B n k i
def wyI (d B : List Nat) (n k : Nat) : Nat → Nat
  | 0 => 0
  | i + 1 => if i = 0 ∨ fcmp .gtr .f32 (wyY d B n k i) (wyM d B n k i) = true then i else wyI d B n k i
theorem wyM_t {d B : List Nat} {n k i : Nat} (h : i = 0 ∨ fcmp .gtr .f32 (wyY d B n k i) (wyM d B n k i) = true) : wyM d B n k (i + 1) = wyY d B n k i := by rw [wyM, if_pos h]
theorem wyM_f {d B : List Nat} {n k i : Nat} (h0 : i ≠ 0) (h : fcmp .gtr .f32 (wyY d B n k i) (wyM d B n k i) = false) : wyM d B n k (i + 1) = wyM d B n k i := by rw [wyM, if_neg (by rw [h]; simp [h0])]
theorem wyI_t {d B : List Nat} {n k i : Nat} (h : i = 0 ∨ fcmp .gtr .f32 (wyY d B n k i) (wyM d B n k i) = true) : wyI d B n k (i + 1) = i := by rw [wyI, if_pos h]
theorem wyI_f {d B : List Nat} {n k i : Nat} (h0 : i ≠ 0) (h : fcmp .gtr .f32 (wyY d B n k i) (wyM d B n k i) = false) : wyI d B n k (i + 1) = wyI d B n k i := by rw [wyI, if_neg (by rw [h]; simp [h0])]
theorem wyI_le (d B : List Nat) (n k : Nat) : ∀ i, wyI d B n k i ≤ i - 1
  | 0 => by simp [wyI]
  | i + 1 => by
    have := wyI_le d B n k i
    unfold wyI; split <;> omega
theorem wyI_lt (d B : List Nat) (n k : Nat) {i : Nat} (h : 1 ≤ i) : wyI d B n k i < i := by have := wyI_le d B n k i; omega
/-- weights of ways that end in a state, not yet held against the greatest -/
def wyX (a b d B : List Nat) (x k : Nat) : Nat := fop .mul .f32 (wyM d B a.length k a.length) (wgt a b x k)
def wyZ (a b d B : List Nat) (x : Nat) : List Nat := (List.range a.length).map (wyX a b d B x)
def wyF (d B : List Nat) (n : Nat) : List Int := (List.range n).map fun k => ((wyI d B n k n : Nat) : Int)
def wyG (z : List Nat) : Nat := z.getD (fsI z z.length) 0
def wyN (z : List Nat) : List Nat := z.map fun x => fop .quo .f32 x (wyG z)
def wyB (a b c d s : List Nat) : Nat → List Nat
  | 0 => rzL a b c (s.getD 0 0)
  | t + 1 => wyN (wyZ a b d (wyB a b c d s t) (s.getD (t + 1) 0))
def wyT (a b c d s : List Nat) : Nat → List Nat
  | 0 => rzL a b c (s.getD 0 0)
  | t + 1 => wyZ a b d (wyB a b c d s t) (s.getD (t + 1) 0)
def wyO (a b c d s : List Nat) (t : Nat) : Bool := fcmp .gtr .f32 (wyG (wyT a b c d s t)) 0
def wyA (a b c d s : List Nat) (m : Nat) : Nat → Nat
  | 0 => fsI (wyB a b c d s (m - 1)) a.length
  | j + 1 => wyI d (wyB a b c d s (m - 2 - j)) a.length (wyA a b c d s m j) a.length
def wyR (a b c d s : List Nat) : List Int := (List.range s.length).map fun t => ((wyA a b c d s s.length (s.length - 1 - t) : Nat) : Int)
def wayF (a b c d s : List Nat) : List Int × Bool := if valR4 a b c d && isSer s && (List.range s.length).all (wyO a b c d s) then (wyR a b c d s, true) else ([], false)
/-- all weights are numbers that are not below nought -/
def WyOk (a b c d s : List Nat) : Prop := ∀ t, t < s.length → (∀ j, j < t → wyO a b c d s j = true) → ∀ k, k < a.length → (wyT a b c d s t).getD k 0 < 2139095040

theorem wyZ_len (a b d B : List Nat) (x : Nat) : (wyZ a b d B x).length = a.length := by simp [wyZ]
theorem wyZ_get {a b d B : List Nat} {x k : Nat} (h : k < a.length) : (wyZ a b d B x).getD k 0 = wyX a b d B x k := getD_mapR _ h
theorem wyF_len (d B : List Nat) (n : Nat) : (wyF d B n).length = n := by simp [wyF]
theorem wyF_get {d B : List Nat} {n k : Nat} (h : k < n) : (wyF d B n).getD k 0 = ((wyI d B n k n : Nat) : Int) := by simp [wyF, List.getD_eq_getElem?_getD, h]
theorem wyN_len (z : List Nat) : (wyN z).length = z.length := by simp [wyN]
theorem wyB_len (a b c d s : List Nat) : ∀ t, (wyB a b c d s t).length = a.length
  | 0 => rzL_len _ _ _ _
  | t + 1 => by rw [wyB, wyN_len, wyZ_len]
theorem wyT_len (a b c d s : List Nat) : ∀ t, (wyT a b c d s t).length = a.length
  | 0 => rzL_len _ _ _ _
  | t + 1 => by rw [wyT, wyZ_len]
theorem wyB_0 (a b c d s : List Nat) : wyB a b c d s 0 = rzL a b c (s.getD 0 0) := rfl
theorem wyT_0 (a b c d s : List Nat) : wyT a b c d s 0 = rzL a b c (s.getD 0 0) := rfl
theorem wyB_S (a b c d s : List Nat) (t : Nat) : wyB a b c d s (t + 1) = wyN (wyT a b c d s (t + 1)) := rfl
theorem wyT_S (a b c d s : List Nat) (t : Nat) : wyT a b c d s (t + 1) = wyZ a b d (wyB a b c d s t) (s.getD (t + 1) 0) := rfl
theorem wyA_lt (a b c d s : List Nat) (m : Nat) (h : 1 ≤ a.length) : ∀ j, wyA a b c d s m j < a.length
  | 0 => by unfold wyA; have := fsI_le (wyB a b c d s (m - 1)) a.length; omega
  | j + 1 => by unfold wyA; exact wyI_lt _ _ _ _ h
theorem wyR_len (a b c d s : List Nat) : (wyR a b c d s).length = s.length := by simp [wyR]
theorem wayF_not {a b c d s : List Nat} (h : ¬ (valR4 a b c d = true ∧ isSer s = true ∧ ∀ t, t < s.length → wyO a b c d s t = true)) : wayF a b c d s = ([], false) := by
  unfold wayF
  rw [if_neg (fun hc => h (by simpa only [Bool.and_eq_true, List.all_eq_true, List.mem_range, and_assoc] using hc))]
theorem wayF_yes {a b c d s : List Nat} (h1 : valR4 a b c d = true) (h2 : isSer s = true) (h3 : ∀ t, t < s.length → wyO a b c d s t = true) : wayF a b c d s = (wyR a b c d s, true) := by
  unfold wayF
  rw [if_pos (by simp only [Bool.and_eq_true, List.all_eq_true, List.mem_range]; exact ⟨⟨h1, h2⟩, h3⟩)]
theorem wayF_len (a b c d s : List Nat) : (wayF a b c d s).1.length ≤ 96 := by
  unfold wayF
  split
  · rename_i h
    simp only [Bool.and_eq_true] at h
    have h2 := isSer_len h.1.2
    simp only [wyR_len]; omega
  · simp

/-! ### the greatest, by comparisons and by the built-in max -/
theorem order_pos {x y : Nat} (hx : x < 2139095040) (hy : y < 2139095040) : FloatKind.f32.format.order x y = some (compare x y) := by
  have nx : isNan .f32 x = false := by rw [isNan_rung, sw32, inf32]; exact decide_eq_false (by omega)
  have ny : isNan .f32 y = false := by rw [isNan_rung, sw32, inf32]; exact decide_eq_false (by omega)
  have s : ∀ z, z < 2139095040 → sv .f32 z = (z : Int) := fun z hz => by
    have := sv_word .f32 false (r := z) (by rw [sw32]; omega)
    rw [word_f] at this; rw [this]; rfl
  rw [order_sv .f32 nx ny, s x hx, s y hy]
  congr 1
  rcases Nat.lt_trichotomy x y with h | h | h
  · rw [cmp_lt (by omega), Nat.compare_eq_lt.2 h]
  · rw [cmp_eq (by omega), Nat.compare_eq_eq.2 h]
  · rw [cmp_gt (by omega), Nat.compare_eq_gt.2 h]
theorem gtr_pos {x y : Nat} (hx : x < 2139095040) (hy : y < 2139095040) : fcmp .gtr .f32 x y = decide (y < x) := by
  unfold fcmp
  simp only []
  rw [order_pos hx hy]
  rcases Nat.lt_trichotomy x y with h | h | h
  · rw [Nat.compare_eq_lt.2 h, decide_eq_false (by omega)]; rfl
  · rw [Nat.compare_eq_eq.2 h, decide_eq_false (by omega)]; rfl
  · rw [Nat.compare_eq_gt.2 h, decide_eq_true h]; rfl
theorem fmx_pos {x y : Nat} (hx : x < 2139095040) (hy : y < 2139095040) : fmx .f32 x y = max x y := by
  unfold fmx
  rw [order_pos hx hy]
  rcases Nat.lt_trichotomy x y with h | h | h
  · rw [Nat.compare_eq_lt.2 h]; simp only []; omega
  · subst h
    rw [Nat.compare_eq_eq.2 rfl]; simp only []; split <;> omega
  · rw [Nat.compare_eq_gt.2 h]; simp only []; omega
def mxF (l : List Nat) : Nat → Nat
  | 0 => 0
  | i + 1 => fmx .f32 (mxF l i) (l.getD i 0)
theorem mxF_S (l : List Nat) (i : Nat) : mxF l (i + 1) = fmx .f32 (mxF l i) (l.getD i 0) := rfl
theorem mxF_eq {l : List Nat} {n : Nat} (h : ∀ k, k < n → l.getD k 0 < 2139095040) : ∀ i, i ≤ n → mxF l i = if i = 0 then 0 else l.getD (fsI l i) 0
  | 0, _ => rfl
  | i + 1, hi => by
    have ih := mxF_eq h i (by omega)
    rw [if_neg (by omega), mxF, ih]
    have hx := h i (by omega)
    rcases Nat.eq_zero_or_pos i with rfl | h0
    · rw [if_pos rfl, fmx_pos (by decide) hx]
      have e : fsI l 1 = 0 := by unfold fsI; split <;> rfl
      rw [e]; omega
    · rw [if_neg (by omega)]
      have hl := fsI_lt l (i := i) h0
      have hy := h (fsI l i) (by omega)
      rw [fmx_pos hy hx]
      by_cases hc : l.getD (fsI l i) 0 < l.getD i 0
      · rw [fsI_t (by rw [gtr_pos hx hy]; exact decide_eq_true hc)]; omega
      · rw [fsI_f (by rw [gtr_pos hx hy]; exact decide_eq_false hc)]; omega
theorem mxF_all {l : List Nat} (h1 : 1 ≤ l.length) (h : ∀ k, k < l.length → l.getD k 0 < 2139095040) : mxF l l.length = wyG l := by
  rw [mxF_eq h _ (Nat.le_refl _), if_neg (by omega)]; rfl
theorem fin_pos {x : Nat} (hx : x < 2139095040) : fin x = true := by
  show finB .f32 x = true
  rw [finB_eq]
  unfold finR
  rw [sw32, inf32]; exact decide_eq_true (by omega)
theorem above_pos {x : Nat} (hx : x < 2139095040) : above x = fcmp .gtr .f32 x 0 := by
  unfold above; rw [fin_pos hx, Bool.true_and]
theorem wyO_above {a b c d s : List Nat} {t : Nat} (h : WyOk a b c d s) (ht : t < s.length) (hO : ∀ j, j < t → wyO a b c d s j = true) (ha : 1 ≤ a.length) : above (wyG (wyT a b c d s t)) = wyO a b c d s t := by
  have hl := wyT_len a b c d s t
  unfold wyO
  refine above_pos (h t ht hO _ ?_)
  have := fsI_lt (wyT a b c d s t) (i := (wyT a b c d s t).length) (by omega)
  omega
theorem wyG_mx {a b c d s : List Nat} {t : Nat} (h : WyOk a b c d s) (ht : t < s.length) (hO : ∀ j, j < t → wyO a b c d s j = true) (ha : 1 ≤ a.length) : mxF (wyT a b c d s t) a.length = wyG (wyT a b c d s t) := by
  have hl := wyT_len a b c d s t
  have := mxF_all (l := wyT a b c d s t) (by omega) (fun k hk => h t ht hO k (by omega))
  rwa [hl] at this
/-- the list that is held against its greatest, number by number -/
def wyD (z : List Nat) (k : Nat) : Nat := fop .quo .f32 (z.getD k 0) (wyG z)
theorem wyN_mix (z : List Nat) : mxL (wyD z) z z.length = wyN z := by
  rw [mxL_all _ (Nat.le_refl _)]
  unfold wyN
  refine List.ext_getElem (by simp) fun k h1 h2 => ?_
  simp only [List.length_map, List.length_range] at h1
  simp [wyD, List.getD_eq_getElem?_getD, h1]
/-- rows of where the ways came from -/
def wyRows (a b c d s : List Nat) (m : Nat) : List (List Int) := (List.range m).map fun t => wyF d (wyB a b c d s t) a.length
theorem wyRows_len (a b c d s : List Nat) (m : Nat) : (wyRows a b c d s m).length = m := by simp [wyRows]
theorem wyRows_S (a b c d s : List Nat) (m : Nat) : wyRows a b c d s (m + 1) = wyRows a b c d s m ++ [wyF d (wyB a b c d s m) a.length] := by simp [wyRows, List.range_succ]
theorem wyRows_get {a b c d s : List Nat} {m t : Nat} (h : t < m) : (wyRows a b c d s m)[t]? = some (wyF d (wyB a b c d s t) a.length) := by simp [wyRows, h]
/-- the reference's: a first row of noughts -/
def wyRow0 (a b c d s : List Nat) : Nat → List (List Int)
  | 0 => []
  | m + 1 => List.replicate a.length 0 :: wyRows a b c d s m
theorem wyRow0_len (a b c d s : List Nat) : ∀ m, (wyRow0 a b c d s m).length = m
  | 0 => rfl
  | m + 1 => by rw [wyRow0, List.length_cons, wyRows_len]
def wyF0 (a b c d s : List Nat) : Nat → List Int
  | 0 => List.replicate a.length 0
  | t + 1 => wyF d (wyB a b c d s t) a.length
theorem wyF0_len (a b c d s : List Nat) : ∀ t, (wyF0 a b c d s t).length = a.length
  | 0 => by simp [wyF0]
  | t + 1 => wyF_len _ _ _
theorem wyRow0_S (a b c d s : List Nat) : ∀ m, wyRow0 a b c d s (m + 1) = wyRow0 a b c d s m ++ [wyF0 a b c d s m]
  | 0 => rfl
  | m + 1 => by rw [wyRow0, wyRows_S]; rfl
theorem wyRow0_get {a b c d s : List Nat} : ∀ {m t : Nat}, t < m → (wyRow0 a b c d s m)[t]? = some (wyF0 a b c d s t)
  | 0, t, h => by omega
  | m + 1, 0, h => rfl
  | m + 1, t + 1, h => by rw [wyRow0, List.getElem?_cons_succ, wyRows_get (by omega)]; rfl
/-- the weights of the number before -/
def wyP (a b c d s : List Nat) : Nat → List Nat
  | 0 => []
  | t + 1 => wyB a b c d s t
def wyPl (n : Nat) : Nat → Nat
  | 0 => 0
  | t + 1 => n
theorem wyPl_n {n m : Nat} (h : 1 ≤ m) : wyPl n m = n := by
  cases m with
  | zero => omega
  | succ m => rfl
theorem wyP_n {a b c d s : List Nat} {m : Nat} (h : 1 ≤ m) : wyP a b c d s m = wyB a b c d s (m - 1) := by
  cases m with
  | zero => omega
  | succ m => rfl
/-! ### the way back -/
def wyAt (a b c d s : List Nat) (j : Nat) : Nat := if j < s.length then wyA a b c d s s.length j else 0
def wyOut (a b c d s : List Nat) (j : Nat) : List Int := (List.range s.length).map fun t => if s.length - j ≤ t then ((wyA a b c d s s.length (s.length - 1 - t) : Nat) : Int) else 0
theorem wyOut_len (a b c d s : List Nat) (j : Nat) : (wyOut a b c d s j).length = s.length := by simp [wyOut]
theorem wyOut_0 (a b c d s : List Nat) : List.replicate s.length 0 = wyOut a b c d s 0 := by
  refine List.ext_getElem (by simp [wyOut]) fun j h1 h2 => ?_
  simp only [List.length_replicate] at h1
  simp only [wyOut, List.getElem_map, List.getElem_range, List.getElem_replicate]
  rw [if_neg (by omega)]
theorem wyOut_n (a b c d s : List Nat) : wyOut a b c d s s.length = wyR a b c d s := by
  unfold wyOut wyR
  refine List.map_congr_left fun t ht => ?_
  rw [if_pos (by omega)]
theorem wyOut_set {a b c d s : List Nat} {j : Nat} (h : j < s.length) : (wyOut a b c d s j).set (s.length - 1 - j) ((wyAt a b c d s j : Nat) : Int) = wyOut a b c d s (j + 1) := by
  refine List.ext_getElem (by simp [wyOut]) fun t h1 h2 => ?_
  rw [List.length_set, wyOut_len] at h1
  rw [List.getElem_set]
  simp only [wyOut, List.getElem_map, List.getElem_range]
  by_cases e : s.length - 1 - j = t
  · rw [if_pos e, if_pos (by omega)]
    subst e
    unfold wyAt
    rw [if_pos h, show s.length - 1 - (s.length - 1 - j) = j by omega]
  · rw [if_neg e]
    by_cases e2 : s.length - j ≤ t
    · rw [if_pos e2, if_pos (by omega)]
    · rw [if_neg e2, if_neg (by omega)]
theorem wyAt_lt (a b c d s : List Nat) (h : 1 ≤ a.length) (j : Nat) : wyAt a b c d s j < a.length := by
  unfold wyAt
  split
  · exact wyA_lt _ _ _ _ _ _ h _
  · omega
theorem wyAt_0 {a b c d s : List Nat} (h : 1 ≤ s.length) : wyAt a b c d s 0 = fsI (wyB a b c d s (s.length - 1)) a.length := by
  unfold wyAt; rw [if_pos (by omega)]; rfl
theorem wyAt_next {a b c d s : List Nat} (ha : 1 ≤ a.length) {j : Nat} (h : j < s.length) : (wyF0 a b c d s (s.length - 1 - j)).getD (wyAt a b c d s j) 0 = ((wyAt a b c d s (j + 1) : Nat) : Int) := by
  have hl := wyAt_lt a b c d s ha j
  rcases Nat.lt_or_ge (j + 1) s.length with h1 | h1
  · obtain ⟨q, hq⟩ : ∃ q, s.length - 1 - j = q + 1 := ⟨s.length - 2 - j, by omega⟩
    have hq2 : s.length - 2 - j = q := by omega
    rw [hq]
    show (wyF d (wyB a b c d s q) a.length).getD _ 0 = _
    rw [wyF_get hl]
    unfold wyAt
    rw [if_pos h, if_pos h1]
    show _ = ((wyI d (wyB a b c d s (s.length - 2 - j)) a.length (wyA a b c d s s.length j) a.length : Nat) : Int)
    rw [hq2]
  · have hq : s.length - 1 - j = 0 := by omega
    rw [hq]
    show (List.replicate a.length 0).getD _ 0 = _
    unfold wyAt
    rw [if_neg (by omega : ¬ j + 1 < s.length), if_pos h]
    have hl' : wyA a b c d s s.length j < a.length := by unfold wyAt at hl; rwa [if_pos h] at hl
    simp [List.getD_eq_getElem?_getD, hl']
def wyL (a b c d s : List Nat) (j : Nat) : List Int := (List.range j).map fun i => ((wyA a b c d s s.length i : Nat) : Int)
theorem wyL_len (a b c d s : List Nat) (j : Nat) : (wyL a b c d s j).length = j := by simp [wyL]
theorem wyL_S (a b c d s : List Nat) (j : Nat) : wyL a b c d s (j + 1) = wyL a b c d s j ++ [((wyA a b c d s s.length j : Nat) : Int)] := by simp [wyL, List.range_succ]
theorem wyL_rev (a b c d s : List Nat) : (wyL a b c d s s.length).reverse = wyR a b c d s := by
  refine List.ext_getElem (by simp [wyL, wyR]) fun t h1 h2 => ?_
  rw [List.length_reverse, wyL_len] at h1
  rw [List.getElem_reverse]
  simp only [wyL, wyR, List.getElem_map, List.getElem_range, List.length_map, List.length_range]
/-! ### rows of whole numbers that are data -/
def NI (R : List (List Int)) : List AV := R.map fun r => .t (.il r)
theorem NI_len (R : List (List Int)) : (NI R).length = R.length := by simp [NI]
theorem NI_get {R : List (List Int)} {k : Nat} {r : List Int} (h : R[k]? = some r) : (NI R)[k]? = some (.t (.il r)) := by unfold NI; rw [List.getElem?_map, h]; rfl
end Go.Proofs.Ytpdnjcblkjjegaa

