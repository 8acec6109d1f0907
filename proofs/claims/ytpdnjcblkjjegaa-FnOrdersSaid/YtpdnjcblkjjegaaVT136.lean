import Derived.Test.YtpdnjcblkjjegaaVT1n
import Derived.Test.YtpdnjcblkjjegaaVT64
import Derived.Test.YtpdnjcblkjjegaaVT68
set_option linter.unusedVariables false
set_option linter.unusedSimpArgs false
set_option maxRecDepth 20000
set_option maxHeartbeats 8000000
namespace Go.Proofs.Ytpdnjcblkjjegaa
open Go.Aw

/-! ### parts of rests: the plain law -/
/-- sums of products: row r of the place k, what is told of the new row -/
def mpS (r xs v : List Nat) (k : Nat) : Nat → Nat
  | 0 => 0
  | n + 1 => fop .add .f32 (mpS r xs v k n) (fop .mul .f32 (fop .mul .f32 (r.getD (k - n) 0) (xs.getD n 0)) (v.getD n 0))
/-- the new row m, from its end on -/
def mpX (g : List Nat) (t : List (List Nat)) (v : List Nat) (m : Nat) : Nat → List Nat
  | 0 => []
  | k + 1 => mpX g t v m k ++ [fop .quo .f32 (fop .sub .f32 (g.getD (m - k) 0) (mpS (t.getD k []) (mpX g t v m k) v k k)) (v.getD k 0)]
def mpQ (xs v : List Nat) : Nat → Nat
  | 0 => 0
  | n + 1 => fop .add .f32 (mpQ xs v n) (fop .mul .f32 (fop .mul .f32 (xs.getD n 0) (xs.getD n 0)) (v.getD n 0))
def mpTV (g : List Nat) : Nat → List (List Nat) × List Nat
  | 0 => ([[0]], [g.getD 0 0])
  | m + 1 => ((mpTV g m).1 ++ [0 :: (mpX g (mpTV g m).1 (mpTV g m).2 (m + 1) (m + 1)).reverse],
      (mpTV g m).2 ++ [fop .sub .f32 (g.getD 0 0) (mpQ (mpX g (mpTV g m).1 (mpTV g m).2 (m + 1) (m + 1)) (mpTV g m).2 (m + 1))])
def mpT (g : List Nat) (m : Nat) : List (List Nat) := (mpTV g m).1
def mpV (g : List Nat) (m : Nat) : List Nat := (mpTV g m).2
def mpR (g : List Nat) (m : Nat) : List Nat := mpX g (mpT g m) (mpV g m) (m + 1) (m + 1)
theorem mpV_0 (g : List Nat) : mpV g 0 = [g.getD 0 0] := rfl
theorem mpT_S (g : List Nat) (m : Nat) : mpT g (m + 1) = mpT g m ++ [0 :: (mpR g m).reverse] := rfl
theorem mpV_S (g : List Nat) (m : Nat) : mpV g (m + 1) = mpV g m ++ [fop .sub .f32 (g.getD 0 0) (mpQ (mpR g m) (mpV g m) (m + 1))] := rfl
theorem mpX_len (g : List Nat) (t : List (List Nat)) (v : List Nat) (m : Nat) : ∀ k, (mpX g t v m k).length = k
  | 0 => rfl
  | k + 1 => by rw [mpX, List.length_append, mpX_len g t v m k]; rfl
theorem mpR_len (g : List Nat) (m : Nat) : (mpR g m).length = m + 1 := mpX_len ..
theorem mpT_len (g : List Nat) : ∀ m, (mpT g m).length = m + 1
  | 0 => rfl
  | m + 1 => by rw [mpT_S, List.length_append, mpT_len g m]; rfl
theorem mpV_len (g : List Nat) : ∀ m, (mpV g m).length = m + 1
  | 0 => rfl
  | m + 1 => by rw [mpV_S, List.length_append, mpV_len g m]; rfl
theorem mpV_pre (g : List Nat) {k m : Nat} (hk : k ≤ m) : ∀ n, (mpV g (m + n)).getD k 0 = (mpV g m).getD k 0
  | 0 => rfl
  | n + 1 => by
    rw [show m + (n + 1) = (m + n) + 1 by omega, mpV_S, ← mpV_pre g hk n]
    simp only [List.getD_eq_getElem?_getD]
    rw [List.getElem?_append_left (by rw [mpV_len]; omega)]
theorem mpV_at (g : List Nat) {k m : Nat} (hk : k ≤ m) : (mpV g m).getD k 0 = (mpV g k).getD k 0 := by
  have := mpV_pre g (k := k) (m := k) (Nat.le_refl _) (m - k)
  rwa [show k + (m - k) = m by omega] at this
theorem mpV_last (g : List Nat) (m : Nat) : (mpV g (m + 1)).getD (m + 1) 0 = fop .sub .f32 (g.getD 0 0) (mpQ (mpR g m) (mpV g m) (m + 1)) := by
  rw [mpV_S]
  simp only [List.getD_eq_getElem?_getD]
  rw [List.getElem?_append_right (by rw [mpV_len]; omega), mpV_len]
  simp
theorem mpT_last (g : List Nat) (m : Nat) : (mpT g (m + 1)).getD (m + 1) [] = 0 :: (mpR g m).reverse := by
  rw [mpT_S]
  simp only [List.getD_eq_getElem?_getD]
  rw [List.getElem?_append_right (by rw [mpT_len]; omega), mpT_len]
  simp
theorem mpT_pre (g : List Nat) {k m : Nat} (hk : k ≤ m) : (mpT g (m + 1)).getD k [] = (mpT g m).getD k [] := by
  rw [mpT_S]
  simp only [List.getD_eq_getElem?_getD]
  rw [List.getElem?_append_left (by rw [mpT_len]; omega)]
theorem mpT_row (g : List Nat) : ∀ {m k : Nat}, k ≤ m → ((mpT g m).getD k []).length = k + 1
  | 0, k, h => by
    obtain rfl : k = 0 := by omega
    rfl
  | m + 1, k, h => by
    by_cases hk : k = m + 1
    · subst hk; rw [mpT_last]; simp [mpR_len]
    · rw [mpT_pre g (by omega)]; exact mpT_row g (by omega)

/-! what is not finite -/
theorem fin_Rq (x : Nat) : fin x = finR .f32 x := by
  have h : fin x = finB .f32 x := rfl
  rw [h, finB_eq]
theorem bad_add_l' {a : Nat} (b : Nat) (h : fin a = false) : fin (fop .add .f32 a b) = false := by rw [fin_Rq] at *; exact bad_add_l b h
theorem bad_add_r' (a : Nat) {b : Nat} (h : fin b = false) : fin (fop .add .f32 a b) = false := by rw [fin_Rq] at *; exact bad_add_r a h
theorem bad_sub_r' (a : Nat) {b : Nat} (h : fin b = false) : fin (fop .sub .f32 a b) = false := by rw [fin_Rq] at *; exact bad_sub_r a h
theorem bad_mul_l' {a : Nat} (b : Nat) (h : fin a = false) : fin (fop .mul .f32 a b) = false := by rw [fin_Rq] at *; exact bad_mul_l b h
theorem bad_mul_r' (a : Nat) {b : Nat} (h : fin b = false) : fin (fop .mul .f32 a b) = false := by rw [fin_Rq] at *; exact bad_mul_r a h
theorem mpQ_bad {xs v : List Nat} {j : Nat} (h : fin (xs.getD j 0) = false ∨ fin (v.getD j 0) = false) : ∀ n, j < n → fin (mpQ xs v n) = false
  | n + 1, hn => by
    rw [mpQ]
    by_cases hj : j = n
    · subst hj
      refine bad_add_r' _ ?_
      rcases h with h | h
      · exact bad_mul_l' _ (bad_mul_l' _ h)
      · exact bad_mul_r' _ h
    · exact bad_add_l' _ (mpQ_bad h n (by omega))
/-- is the row m, and the spread behind it, of numbers? -/
def mpG (g : List Nat) (m : Nat) : Bool := ((mpT g m).getD m []).all fin && fin ((mpV g m).getD m 0)
theorem mpV_bad (g : List Nat) {m : Nat} (h : fin ((mpV g m).getD m 0) = false) : ∀ n, fin ((mpV g (m + n)).getD (m + n) 0) = false
  | 0 => h
  | n + 1 => by
    rw [show m + (n + 1) = (m + n) + 1 by omega, mpV_last]
    refine bad_sub_r' _ (mpQ_bad (j := m + n) (.inr ?_) _ (by omega))
    exact mpV_bad g h n
theorem mpG_bad (g : List Nat) {m : Nat} (h : mpG g (m + 1) = false) : fin ((mpV g (m + 1)).getD (m + 1) 0) = false := by
  unfold mpG at h
  cases hv : fin ((mpV g (m + 1)).getD (m + 1) 0) with
  | false => rfl
  | true =>
    rw [hv, Bool.and_true, mpT_last] at h
    have hr : (mpR g m).all fin = false := by
      simp only [List.all_cons, List.all_reverse] at h
      rw [show fin 0 = true by decide +kernel, Bool.true_and] at h
      exact h
    have : ¬ ∀ x ∈ mpR g m, fin x = true := fun hc => by rw [List.all_eq_true.2 hc] at hr; cases hr
    obtain ⟨x, hx, hb⟩ : ∃ x ∈ mpR g m, fin x = false := Classical.byContradiction fun hn => this fun x hx => by
      cases hf : fin x with
      | true => rfl
      | false => exact absurd ⟨x, hx, hf⟩ hn
    obtain ⟨j, hj, rfl⟩ := List.getElem_of_mem hx
    have hq := mpQ_bad (xs := mpR g m) (v := mpV g m) (j := j) (.inl (by rw [List.getD_eq_getElem?_getD, List.getElem?_eq_getElem hj]; exact hb)) (m + 1) (by rw [mpR_len] at hj; exact hj)
    rw [mpV_last, bad_sub_r' _ hq] at hv; cases hv
def mpGl (a : List Nat) (o : Nat) (A : Nat) : List Nat := (List.range (A + 1)).map fun k => if k ≤ o ∧ k < a.length then fop .quo .f32 (dlF (offL a) k) (fint .f32 (a.length : Nat)) else 0
theorem mpGl_len (a : List Nat) (o A : Nat) : (mpGl a o A).length = A + 1 := by simp [mpGl]
theorem mpGl_get {a : List Nat} {o A k : Nat} (h : k < A + 1) : (mpGl a o A).getD k 0 = if k ≤ o ∧ k < a.length then fop .quo .f32 (dlF (offL a) k) (fint .f32 (a.length : Nat)) else 0 := getD_mapR _ h
/-- no spread is nought ahead of place m -/
def mpZ (g : List Nat) (m : Nat) : Bool := (List.range m).all fun k => !fcmp .eql .f32 ((mpV g m).getD k 0) 0
def mpTm (g : List Nat) (o A : Nat) : List Nat := ((((mpT g A).getD A []).take (o + 1)).drop 1)
def mpE (g : List Nat) (o A : Nat) : OP := if mpZ g A && ((mpTm g o A).all fin && fin ((mpV g A).getD A 0)) then ⟨mpTm g o A, (mpV g A).getD A 0, true⟩ else ⟨[], 0, false⟩
def mpOk (a : List Nat) (o r : Int) : Bool := isSer a && inR o 1 6 && inR r 0 32
def mpF (a : List Nat) (o r : Int) : OP := if mpOk a o r then mpE (mpGl a o.toNat (r + o).toNat) o.toNat (r + o).toNat else ⟨[], 0, false⟩
theorem mpTm_len {g : List Nat} {o A : Nat} (h : o ≤ A) : (mpTm g o A).length = o := by
  unfold mpTm
  rw [List.length_drop, List.length_take, mpT_row g (Nat.le_refl A)]; omega
theorem mpF_len (a : List Nat) (o r : Int) : (mpF a o r).p.length ≤ 6 := by
  unfold mpF
  split
  · rename_i h
    unfold mpOk at h
    simp only [Bool.and_eq_true, inR_t] at h
    unfold mpE
    split
    · simp only []; rw [mpTm_len (by omega)]; omega
    · simp
  · simp
theorem mpE_bad {g : List Nat} {o A m : Nat} (h : mpG g (m + 1) = false) (hm : m + 1 ≤ A) : mpE g o A = ⟨[], 0, false⟩ := by
  have h1 := mpV_bad g (mpG_bad g h) (A - (m + 1))
  rw [show m + 1 + (A - (m + 1)) = A by omega] at h1
  unfold mpE
  rw [h1]; simp
theorem mpE_zero {g : List Nat} {o A k : Nat} (hk : k < A) (h : fcmp .eql .f32 ((mpV g k).getD k 0) 0 = true) : mpE g o A = ⟨[], 0, false⟩ := by
  have : mpZ g A = false := by
    cases hz : mpZ g A with
    | false => rfl
    | true =>
      have := List.all_eq_true.1 hz k (List.mem_range.2 hk)
      rw [mpV_at g (by omega), h] at this; cases this
  unfold mpE
  rw [this]; simp
theorem mpZ_of {g : List Nat} {A : Nat} (h : ∀ k, k < A → fcmp .eql .f32 ((mpV g k).getD k 0) 0 = false) : mpZ g A = true := List.all_eq_true.2 fun k hk => by
  rw [mpV_at g (by have := List.mem_range.1 hk; omega), h k (List.mem_range.1 hk)]; rfl
theorem mpE_good {g : List Nat} {o A : Nat} (hA : o ≤ A) (h : mpG g A = true) (hz : ∀ k, k < A → fcmp .eql .f32 ((mpV g k).getD k 0) 0 = false) : mpE g o A = ⟨mpTm g o A, (mpV g A).getD A 0, true⟩ := by
  unfold mpG at h
  rw [Bool.and_eq_true] at h
  have ht : (mpTm g o A).all fin = true := List.all_eq_true.2 fun x hx => by
    unfold mpTm at hx
    exact List.all_eq_true.1 h.1 x (List.mem_of_mem_take (List.mem_of_mem_drop hx))
  unfold mpE
  rw [mpZ_of hz, ht, h.2]; rfl
/-- a row as far as it is told -/
def mpW (xs : List Nat) (m k : Nat) : List Nat := List.replicate (m + 1 - k) 0 ++ xs.reverse
theorem mpW_len {xs : List Nat} {m k : Nat} (h : xs.length = k) (hk : k ≤ m + 1) : (mpW xs m k).length = m + 1 := by simp [mpW, h]; omega
theorem mpW_get {xs : List Nat} {m k j : Nat} (h : xs.length = k) (hk : k ≤ m + 1) (hj : j < k) : (mpW xs m k).getD (m - j) 0 = xs.getD j 0 := by
  unfold mpW
  simp only [List.getD_eq_getElem?_getD]
  rw [List.getElem?_append_right (by simp; omega), List.length_replicate, List.getElem?_reverse (by omega)]
  congr 2; omega
theorem mpW_set {xs : List Nat} {m k x : Nat} (h : xs.length = k) (hk : k ≤ m) : (mpW xs m k).set (m - k) x = mpW (xs ++ [x]) m (k + 1) := by
  unfold mpW
  rw [List.set_append_left _ _ (by simp; omega), show m + 1 - k = (m - k) + 1 by omega, List.replicate_succ', List.set_append_right _ _ (by simp), List.length_replicate, Nat.sub_self, show m + 1 - (k + 1) = m - k by omega, List.reverse_append]
  simp
theorem mpW_all (xs : List Nat) (m : Nat) : mpW xs m m = 0 :: xs.reverse := by
  unfold mpW
  rw [show m + 1 - m = 1 by omega]; rfl
end Go.Proofs.Ytpdnjcblkjjegaa

