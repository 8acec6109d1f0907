import Derived.Test.YtjjpjnhjnpplcaaYT113
import Derived.Test.YtjjpjnhjnpplcaaYT106
import Derived.Test.YtjjpjnhjnpplcaaYT105
import Derived.Test.YtjjpjnhjnpplcaaZAwK
set_option linter.unusedVariables false
set_option linter.unusedSimpArgs false
set_option maxRecDepth 20000
set_option maxHeartbeats 8000000
namespace Go.Proofs.Ytjjpjnhjnpplcaa
open Go.Aw

/-! ### sums of trees as whole numbers -/
def smI (f : Nat → Int) : Nat → Int
  | 0 => 0
  | m + 1 => smI f m + f m
theorem smI_congr {f g : Nat → Int} : ∀ {m : Nat}, (∀ k, k < m → f k = g k) → smI f m = smI g m
  | 0, _ => rfl
  | m + 1, h => by rw [smI, smI, smI_congr (fun k hk => h k (by omega)), h m (by omega)]
theorem smI_add {f g : Nat → Int} : ∀ m, smI (fun k => f k + g k) m = smI f m + smI g m
  | 0 => rfl
  | m + 1 => by simp only [smI]; rw [smI_add m]; omega
theorem smI_le {f g : Nat → Int} : ∀ {m : Nat}, (∀ k, k < m → f k ≤ g k) → smI f m ≤ smI g m
  | 0, _ => Int.le_refl _
  | m + 1, h => by have := smI_le (m := m) (fun k hk => h k (by omega)); have := h m (by omega); simp only [smI]; omega
theorem smI_nn {f : Nat → Int} : ∀ {m : Nat}, (∀ k, k < m → 0 ≤ f k) → 0 ≤ smI f m
  | 0, _ => Int.le_refl _
  | m + 1, h => by have := smI_nn (m := m) (fun k hk => h k (by omega)); have := h m (by omega); simp only [smI]; omega
theorem smI_mono {f : Nat → Int} {m n : Nat} (h : ∀ k, k < n → 0 ≤ f k) (hm : m ≤ n) : smI f m ≤ smI f n := by
  induction n with
  | zero => have : m = 0 := by omega
            subst this; exact Int.le_refl _
  | succ n ih =>
    by_cases hmn : m = n + 1
    · subst hmn; exact Int.le_refl _
    · have := ih (fun k hk => h k (by omega)) (by omega)
      have := h n (by omega)
      simp only [smI]; omega
theorem smI_one {f : Nat → Int} {m j : Nat} (h : ∀ k, k < m → 0 ≤ f k) (hj : j < m) : f j ≤ smI f m := by
  have h1 := smI_mono (f := f) (m := j + 1) (n := m) h (by omega)
  have h2 := smI_nn (f := f) (m := j) (fun k hk => h k (by omega))
  simp only [smI] at h1
  omega
theorem smI_ite {c : Int} {j : Nat} : ∀ m, smI (fun k => if k = j then c else 0) m = if j < m then c else 0
  | 0 => by simp [smI]
  | m + 1 => by
    simp only [smI]; rw [smI_ite m]
    by_cases h1 : m = j
    · subst h1; simp
    · by_cases h2 : j < m
      · rw [if_pos h2, if_neg h1, if_pos (by omega)]; omega
      · rw [if_neg h2, if_neg h1, if_neg (by omega)]; omega
/-- the kids of 'i' among the first 'm' -/
def kI (p : List Int) (x : Nat → Int) (i : Nat) (m : Nat) : Int := smI (fun k => if p.getD k 0 = (i : Int) then x k else 0) m
def sF (p : List Int) (x : Nat → Int) : Nat → Nat → Int
  | 0, j => x j
  | f + 1, j => if hasK p j p.length then kI p (sF p x f) j p.length else x j
theorem kI_congr {p : List Int} {x y : Nat → Int} {i m : Nat} (h : ∀ k, k < m → p.getD k 0 = (i : Int) → x k = y k) : kI p x i m = kI p y i m :=
  smI_congr fun k hk => by
    by_cases hc : p.getD k 0 = (i : Int)
    · rw [if_pos hc, if_pos hc, h k hk hc]
    · rw [if_neg hc, if_neg hc]
theorem kid_gt {p : List Int} (hT : isTree p = true) {k i : Nat} (hk : k < p.length) (h : p.getD k 0 = (i : Int)) : i < k := by
  rcases Nat.lt_or_ge i k with h1 | h1
  · exact h1
  · exact absurd h (isTree_at hT h1 hk)
theorem sF_fix {p : List Int} (hT : isTree p = true) (x : Nat → Int) : ∀ (f g j : Nat), p.length ≤ j + f → p.length ≤ j + g → j < p.length → sF p x f j = sF p x g j
  | 0, _, j, h, _, hj => by omega
  | _ + 1, 0, j, _, h, hj => by omega
  | f + 1, g + 1, j, h1, h2, hj => by
    simp only [sF]
    by_cases hh : hasK p j p.length = true
    · rw [if_pos hh, if_pos hh]
      exact kI_congr fun k hk hc => by
        have := kid_gt hT hk hc
        exact sF_fix hT x f g k (by omega) (by omega) hk
    · rw [if_neg hh, if_neg hh]
def sI (p : List Int) (x : Nat → Int) (j : Nat) : Int := sF p x p.length j
theorem sI_eq {p : List Int} (hT : isTree p = true) (x : Nat → Int) {j : Nat} (hj : j < p.length) : sI p x j = if hasK p j p.length then kI p (sI p x) j p.length else x j := by
  unfold sI
  obtain ⟨n, hn⟩ : ∃ n, p.length = n + 1 := ⟨p.length - 1, by omega⟩
  have e : sF p x p.length j = sF p x (n + 1) j := by rw [hn]
  rw [e]
  simp only [sF]
  by_cases hh : hasK p j p.length = true
  · rw [if_pos hh, if_pos hh]
    exact kI_congr fun k hk hc => by
      have := kid_gt hT hk hc
      exact sF_fix hT x n p.length k (by omega) (by omega) hk
  · rw [if_neg hh, if_neg hh]
theorem noK {p : List Int} {j : Nat} (h : hasK p j p.length = false) {k : Nat} (hk : k < p.length) : p.getD k 0 ≠ (j : Int) := fun hc => by
  unfold hasK at h
  have := List.any_eq_false.1 h k (List.mem_range.2 hk)
  simp only [icmp, beq_iff_eq] at this
  exact this hc
theorem kI_none {p : List Int} {x : Nat → Int} {j : Nat} (h : hasK p j p.length = false) : kI p x j p.length = 0 := by
  have : kI p x j p.length = smI (fun _ => 0) p.length := smI_congr fun k hk => if_neg (noK h hk)
  rw [this]
  have z : ∀ m, smI (fun _ => (0 : Int)) m = 0 := fun m => by
    induction m with
    | zero => rfl
    | succ m ih => simp only [smI]; rw [ih]; rfl
  exact z _
theorem sI_pos {p : List Int} (hT : isTree p = true) {x : Nat → Int} (hx : ∀ j, j < p.length → 1 ≤ x j) : ∀ (t j : Nat), j < p.length → p.length ≤ j + t → 1 ≤ sI p x j
  | 0, j, hj, h => by omega
  | t + 1, j, hj, h => by
    rw [sI_eq hT x hj]
    by_cases hh : hasK p j p.length = true
    · rw [if_pos hh]
      unfold hasK at hh
      obtain ⟨k, hk, hc⟩ := List.any_eq_true.1 hh
      have hk' := List.mem_range.1 hk
      simp only [icmp, beq_iff_eq] at hc
      have hgt := kid_gt hT hk' hc
      have h1 := sI_pos hT hx t k hk' (by omega)
      have h2 := smI_one (f := fun k => if p.getD k 0 = (j : Int) then sI p x k else 0) (m := p.length) (j := k) (fun m hm => by
        by_cases hcm : p.getD m 0 = (j : Int)
        · rw [if_pos hcm]
          have := kid_gt hT hm hcm
          have := sI_pos hT hx t m hm (by omega)
          omega
        · rw [if_neg hcm]; omega) hk'
      rw [if_pos hc] at h2
      unfold kI
      omega
    · rw [if_neg hh]; exact hx j hj
/-- the front of what is summed up, and the leaves behind it -/
def frI (p : List Int) (x : Nat → Int) (j : Nat) : Int := smI (fun k => if j ≤ k ∧ p.getD k 0 < (j : Int) then sI p x k else 0) p.length
def lvI' (p : List Int) (x : Nat → Int) (j : Nat) : Int := smI (fun k => if j ≤ k ∧ hasK p k p.length = false then x k else 0) p.length
theorem par_lt {p : List Int} (hT : isTree p = true) {j : Nat} (hj : j < p.length) : p.getD j 0 < (j : Int) := by
  have h1 := isTree_len hT
  unfold isTree at hT
  simp only [Bool.and_eq_true, decide_eq_true_eq] at hT
  by_cases h0 : j = 0
  · subst h0; rw [hT.1.2]; omega
  · have := List.all_eq_true.1 hT.2 (j - 1) (List.mem_range.2 (by omega))
    unfold treeAt at this
    rw [inR_t, show j - 1 + 1 = j by omega] at this
    omega
theorem fr_step {p : List Int} (hT : isTree p = true) (x : Nat → Int) {j : Nat} (hj : j < p.length) : frI p x j + kI p (sI p x) j p.length = frI p x (j + 1) + sI p x j := by
  have h1 := smI_ite (c := sI p x j) (j := j) p.length
  rw [if_pos hj] at h1
  unfold frI kI
  rw [← h1, ← smI_add, ← smI_add]
  refine smI_congr fun k hk => ?_
  have hpk := par_lt hT hk
  by_cases hkj : k = j
  · subst hkj
    have n1 : ¬ p.getD k 0 = (k : Int) := by omega
    have n2 : ¬ (k + 1 ≤ k ∧ p.getD k 0 < ((k + 1 : Nat) : Int)) := by omega
    rw [if_pos ⟨Nat.le_refl _, hpk⟩, if_neg n1, if_neg n2, if_pos rfl]; omega
  · rw [if_neg hkj]
    by_cases hc : p.getD k 0 = (j : Int)
    · have := kid_gt hT hk hc
      rw [if_neg (by omega), if_pos hc, if_pos ⟨by omega, by omega⟩]; omega
    · rw [if_neg hc]
      by_cases hd : j ≤ k ∧ p.getD k 0 < (j : Int)
      · rw [if_pos hd, if_pos ⟨by omega, by omega⟩]
      · rw [if_neg hd, if_neg (by omega)]
theorem lv_step {p : List Int} (x : Nat → Int) {j : Nat} (hj : j < p.length) : lvI' p x j = lvI' p x (j + 1) + if hasK p j p.length = false then x j else 0 := by
  have h1 := smI_ite (c := if hasK p j p.length = false then x j else 0) (j := j) p.length
  rw [if_pos hj] at h1
  unfold lvI'
  rw [← h1, ← smI_add]
  refine smI_congr fun k hk => ?_
  by_cases hkj : k = j
  · subst hkj
    have n2 : ¬ (k + 1 ≤ k ∧ hasK p k p.length = false) := by omega
    rw [if_neg n2, if_pos rfl]
    by_cases hh : hasK p k p.length = false
    · rw [if_pos ⟨Nat.le_refl _, hh⟩, if_pos hh]; omega
    · rw [if_neg (fun h => hh h.2), if_neg hh]; omega
  · rw [if_neg hkj]
    by_cases hd : j ≤ k ∧ hasK p k p.length = false
    · rw [if_pos hd, if_pos ⟨by omega, hd.2⟩]; omega
    · rw [if_neg hd, if_neg (fun h => hd ⟨by omega, h.2⟩)]; omega
theorem fr_lv {p : List Int} (hT : isTree p = true) (x : Nat → Int) : ∀ (t j : Nat), p.length = j + t → frI p x j = lvI' p x j
  | 0, j, h => by
    have a : frI p x j = smI (fun _ => 0) p.length := smI_congr fun k hk => if_neg (by omega)
    have b : lvI' p x j = smI (fun _ => 0) p.length := smI_congr fun k hk => if_neg (by omega)
    rw [a, b]
  | t + 1, j, h => by
    have ih := fr_lv hT x t (j + 1) (by omega)
    have h1 := fr_step hT x (j := j) (by omega)
    have h2 := lv_step (p := p) x (j := j) (by omega)
    have h3 := sI_eq hT x (j := j) (by omega)
    by_cases hh : hasK p j p.length = true
    · rw [if_pos hh] at h3
      rw [if_neg (by rw [hh]; exact fun h => Bool.noConfusion h)] at h2
      omega
    · have hf : hasK p j p.length = false := by simpa using hh
      rw [if_neg hh] at h3
      rw [if_pos hf] at h2
      have h4 := kI_none (x := sI p x) hf
      omega
theorem sI_le {p : List Int} (hT : isTree p = true) {x : Nat → Int} (hx : ∀ j, j < p.length → 1 ≤ x j ∧ x j ≤ 16) {j : Nat} (hj : j < p.length) : sI p x j ≤ 192 := by
  have hp : ∀ k, k < p.length → 1 ≤ sI p x k := fun k hk => sI_pos hT (fun m hm => (hx m hm).1) p.length k hk (by omega)
  have h1 := fr_lv hT x (p.length - j) j (by omega)
  have h2 := smI_one (f := fun k => if j ≤ k ∧ p.getD k 0 < (j : Int) then sI p x k else 0) (m := p.length) (j := j) (fun k hk => by
    have := hp k hk
    split <;> omega) hj
  rw [if_pos ⟨Nat.le_refl _, par_lt hT hj⟩] at h2
  have h3 : lvI' p x j ≤ smI (fun _ => 16) p.length := smI_le fun k hk => by
    have := hx k hk
    split <;> omega
  have h4 : ∀ m, smI (fun _ => (16 : Int)) m = 16 * m := fun m => by
    induction m with
    | zero => rfl
    | succ m ih => simp only [smI]; rw [ih]; push_cast; omega
  rw [h4] at h3
  have := isTree_len hT
  have e : frI p x j = smI (fun k => if j ≤ k ∧ p.getD k 0 < (j : Int) then sI p x k else 0) p.length := rfl
  omega
theorem sI_root {p : List Int} (hT : isTree p = true) (x : Nat → Int) : sI p x 0 = smI (fun k => if hasK p k p.length = false then x k else 0) p.length := by
  have hl := isTree_len hT
  have h1 := fr_lv hT x p.length 0 (by omega)
  have e2 : lvI' p x 0 = smI (fun k => if hasK p k p.length = false then x k else 0) p.length := smI_congr fun k hk => by simp
  have hp0 : p.getD 0 0 = -1 := by unfold isTree at hT; simp only [Bool.and_eq_true, decide_eq_true_eq] at hT; exact hT.1.2
  have e1 : frI p x 0 = sI p x 0 := by
    have h3 := smI_ite (c := sI p x 0) (j := 0) p.length
    rw [if_pos (by omega)] at h3
    rw [← h3]
    refine smI_congr fun k hk => ?_
    by_cases hk0 : k = 0
    · subst hk0; rw [if_pos ⟨Nat.le_refl _, by rw [hp0]; omega⟩, if_pos rfl]
    · have hr : 0 ≤ p.getD k 0 := by
        unfold isTree at hT
        simp only [Bool.and_eq_true] at hT
        have := List.all_eq_true.1 hT.2 (k - 1) (List.mem_range.2 (by omega))
        unfold treeAt at this
        rw [inR_t, show k - 1 + 1 = k by omega] at this
        omega
      rw [if_neg (by omega), if_neg hk0]
  rw [← e1, h1, e2]
/-! ### the sums as words -/
theorem kid_hw {p : List Int} {v : List Nat} {y : Nat → Int} {i : Nat} (hv : ∀ k, k < p.length → p.getD k 0 = (i : Int) → v.getD k 0 = hw .f32 (y k) ∧ 0 ≤ y k) (hs : kI p y i p.length ≤ 512) : ∀ m, m ≤ p.length → kidN p v (i : Int) m = hw .f32 (kI p y i m) ∧ 0 ≤ kI p y i m
  | 0, _ => ⟨by show (0 : Nat) = hw .f32 0; decide +kernel, Int.le_refl _⟩
  | m + 1, hm => by
    have ih := kid_hw hv hs m (by omega)
    have hnn : ∀ k, k < p.length → 0 ≤ (fun k => if p.getD k 0 = (i : Int) then y k else 0) k := fun k hk => by
      dsimp only
      by_cases hc : p.getD k 0 = (i : Int)
      · rw [if_pos hc]; exact (hv k hk hc).2
      · rw [if_neg hc]; omega
    have hle := smI_mono (f := fun k => if p.getD k 0 = (i : Int) then y k else 0) (m := m + 1) (n := p.length) hnn hm
    have e : kI p y i (m + 1) = kI p y i m + if p.getD m 0 = (i : Int) then y m else 0 := rfl
    have hle' : kI p y i (m + 1) ≤ 512 := Int.le_trans hle hs
    rw [kidN]
    by_cases hc : p.getD m 0 = (i : Int)
    · have := hv m (by omega) hc
      rw [if_pos (by simp only [icmp]; exact beq_iff_eq.2 hc), ih.1, this.1]
      rw [if_pos hc] at e
      rw [hw_add .f32 (by omega) (by omega) (by omega), e]
      exact ⟨rfl, by omega⟩
    · rw [if_neg (by simp only [icmp]; exact fun h => hc (beq_iff_eq.1 h)), ih.1]
      rw [if_neg hc] at e
      rw [e, Int.add_zero]
      exact ⟨rfl, ih.2⟩
theorem kI_le {p : List Int} (hT : isTree p = true) {x : Nat → Int} (hx : ∀ j, j < p.length → 1 ≤ x j ∧ x j ≤ 16) {i : Nat} (hi : i < p.length) : kI p (sI p x) i p.length ≤ 192 := by
  by_cases hh : hasK p i p.length = true
  · have h1 := sI_eq hT x hi
    rw [if_pos hh] at h1
    have := sI_le hT hx hi
    omega
  · rw [kI_none (by simpa using hh)]; omega
theorem smT_hw {p : List Int} (hT : isTree p = true) {v : List Nat} (hvl : v.length = p.length) {x : Nat → Int} (hx : ∀ j, j < p.length → 1 ≤ x j ∧ x j ≤ 16) (hv : ∀ j, j < p.length → v.getD j 0 = hw .f32 (x j)) :
    ∀ t, t ≤ p.length → (∀ k, k < p.length → p.length ≤ k + t → (smT p v t).getD k 0 = hw .f32 (sI p x k)) ∧ (∀ k, k < p.length → k + t < p.length → (smT p v t).getD k 0 = hw .f32 (x k))
  | 0, _ => ⟨fun k hk h => by omega, fun k hk _ => hv k hk⟩
  | t + 1, ht => by
    obtain ⟨i1, i2⟩ := smT_hw hT hvl hx hv t (by omega)
    have hj : p.length - 1 - t < p.length := by omega
    have hs := sI_eq hT x hj
    have hkid : hasK p (p.length - 1 - t) p.length = true → kidN p (smT p v t) ((p.length - 1 - t : Nat) : Int) p.length = hw .f32 (sI p x (p.length - 1 - t)) := fun hh => by
      rw [if_pos hh] at hs
      have := kid_hw (p := p) (v := smT p v t) (y := sI p x) (i := p.length - 1 - t) (fun k hk hc => by
        have := kid_gt hT hk hc
        exact ⟨i1 k hk (by omega), by have := sI_pos hT (fun m hm => (hx m hm).1) p.length k hk (by omega); omega⟩) (by have := kI_le hT hx hj; omega) p.length (Nat.le_refl _)
      rw [this.1, ← hs]
    refine ⟨fun k hk h => ?_, fun k hk h => ?_⟩
    · unfold smT
      by_cases hh : hasK p (p.length - 1 - t) p.length = true
      · rw [if_pos hh, getD_set' (by rw [smT_len]; omega)]
        by_cases hkj : k = p.length - 1 - t
        · rw [if_pos hkj, hkid hh, hkj]
        · rw [if_neg hkj]; exact i1 k hk (by omega)
      · rw [if_neg hh]
        by_cases hkj : k = p.length - 1 - t
        · rw [if_neg hh] at hs
          rw [hkj, hs]; exact i2 _ hj (by omega)
        · exact i1 k hk (by omega)
    · unfold smT
      by_cases hh : hasK p (p.length - 1 - t) p.length = true
      · rw [if_pos hh, getD_set' (by rw [smT_len]; omega), if_neg (by omega)]; exact i2 k hk (by omega)
      · rw [if_neg hh]; exact i2 k hk (by omega)
end Go.Proofs.Ytjjpjnhjnpplcaa
