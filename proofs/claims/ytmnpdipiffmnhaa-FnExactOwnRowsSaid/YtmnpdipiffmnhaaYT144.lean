import Derived.Test.YtmnpdipiffmnhaaYT143
import Derived.Test.YtmnpdipiffmnhaaYT64
import Derived.Test.YtmnpdipiffmnhaaYT15
set_option linter.unusedVariables false
set_option linter.unusedSimpArgs false
set_option maxRecDepth 20000
set_option maxHeartbeats 8000000
namespace Go.Proofs.Ytmnpdipiffmnhaa
open Go.Aw

/-! ### rows that are solved: the plain law -/
theorem fin_Rz (x : Nat) : fin x = finR .f32 x := by
  have h : fin x = finB .f32 x := rfl
  rw [h, finB_eq]
theorem bad_sub_r2 (a : Nat) {b : Nat} (h : fin b = false) : fin (fop .sub .f32 a b) = false := by rw [fin_Rz] at *; exact bad_sub_r a h
theorem bad_mul_l2 {a : Nat} (b : Nat) (h : fin a = false) : fin (fop .mul .f32 a b) = false := by rw [fin_Rz] at *; exact bad_mul_l b h
abbrev Mx := Nat → Nat → Nat
/-- products of columns; the last column: products with y -/
def gM (C : List (List Nat)) (y : List Nat) : Mx := fun r c => if c < C.length then dotF (C.getD r []) (C.getD c []) else dotF (C.getD r []) y
/-- the first row from k on, of j, whose number in column k is greatest -/
def gP (M : Mx) (k : Nat) : Nat → Nat
  | 0 => k
  | j + 1 => if fcmp .gtr .f32 (absF (M (k + j) k)) (absF (M (gP M k j) k)) = true then k + j else gP M k j
def gS (M : Mx) (k p : Nat) : Mx := fun r c => if r = k then M p c else if r = p then M k c else M r c
def gE (M : Mx) (k : Nat) : Mx := fun r c => if k < r ∧ k < c then fop .sub .f32 (M r c) (fop .mul .f32 (fop .quo .f32 (M r k) (M k k)) (M k c)) else M r c
def gW (n : Nat) (M : Mx) (k : Nat) : Mx := gS M k (gP M k (n - k))
def gI (n : Nat) (M : Mx) : Nat → Mx
  | 0 => M
  | k + 1 => gE (gW n (gI n M k) k) k
def gRow (n : Nat) (M : Mx) (r : Nat) : List Nat := (List.range (n + 1)).map (M r)
/-- all are numbers -/
def gF (n : Nat) (M : Mx) : Bool := (List.range n).all fun r => (gRow n M r).all fin
/-- the number in the middle is great enough -/
def gV (n : Nat) (M : Mx) (k : Nat) : Bool := fcmp .gtr .f32 (absF (M (gP M k (n - k)) k)) 897988541
def gOk (n : Nat) (M : Mx) : Nat → Bool
  | 0 => gF n M
  | k + 1 => gOk n M k && gV n (gI n M k) k && gF n (gI n M (k + 1))
def gT (M : Mx) (k n : Nat) (xs : List Nat) : Nat → Nat
  | 0 => M k n
  | i + 1 => fop .sub .f32 (gT M k n xs i) (fop .mul .f32 (M k (k + 1 + i)) (xs.getD i 0))
/-- the last t of the terms -/
def gB (n : Nat) (M : Mx) : Nat → List Nat
  | 0 => []
  | t + 1 => fop .quo .f32 (gT M (n - (t + 1)) n (gB n M t) t) (M (n - (t + 1)) (n - (t + 1))) :: gB n M t
theorem gB_len (n : Nat) (M : Mx) : ∀ t, (gB n M t).length = t
  | 0 => rfl
  | t + 1 => by rw [gB, List.length_cons, gB_len n M t]
def fitF (C : List (List Nat)) (y : List Nat) : List Nat × Bool := if gOk C.length (gM C y) C.length then ifAllF (gB C.length (gI C.length (gM C y) C.length) C.length) else ([], false)
theorem fitF_le (C : List (List Nat)) (y : List Nat) : (fitF C y).1.length ≤ C.length := by
  unfold fitF
  split
  · refine Nat.le_trans (ifAllF_le _) ?_
    rw [gB_len]; exact Nat.le_refl _
  · simp
theorem gP_ge (M : Mx) (k : Nat) : ∀ j, k ≤ gP M k j
  | 0 => Nat.le_refl _
  | j + 1 => by
    rw [gP]
    split
    · omega
    · exact gP_ge M k j
theorem gP_lt (M : Mx) (k : Nat) : ∀ j, gP M k j < k + j ∨ gP M k j = k
  | 0 => .inr rfl
  | j + 1 => by
    rw [gP]
    split
    · exact .inl (by omega)
    · rcases gP_lt M k j with h | h
      · exact .inl (by omega)
      · exact .inr h
theorem gtr_self (x : Nat) : fcmp .gtr .f32 x x = false := by
  unfold fcmp
  simp only []
  rw [order_self]
  cases isNan .f32 x <;> rfl
theorem gP_one (M : Mx) (k : Nat) : gP M k 1 = k := by
  rw [gP]
  split <;> rfl
theorem gP_n {M : Mx} {k n : Nat} (hk : k < n) : gP M k (n - k) < n := by
  rcases gP_lt M k (n - k) with h | h <;> omega
/-! numbers -/
theorem gF_at {n : Nat} {M : Mx} (h : gF n M = true) {r c : Nat} (hr : r < n) (hc : c ≤ n) : fin (M r c) = true := by
  have h1 := List.all_eq_true.1 h r (List.mem_range.2 hr)
  exact List.all_eq_true.1 h1 _ (List.mem_map.2 ⟨c, List.mem_range.2 (by omega), rfl⟩)
theorem gF_of {n : Nat} {M : Mx} (h : ∀ r c, r < n → c ≤ n → fin (M r c) = true) : gF n M = true := List.all_eq_true.2 fun r hr => List.all_eq_true.2 fun x hx => by
  obtain ⟨c, hc, rfl⟩ := List.mem_map.1 hx
  exact h r c (List.mem_range.1 hr) (by have := List.mem_range.1 hc; omega)
theorem gF_row {n : Nat} {M : Mx} {r : Nat} (hr : r < n) (h : (gRow n M r).all fin = false) : gF n M = false := by
  cases hf : gF n M with
  | false => rfl
  | true => rw [List.all_eq_true.1 hf r (List.mem_range.2 hr)] at h; cases h
theorem gRow_len (n : Nat) (M : Mx) (r : Nat) : (gRow n M r).length = n + 1 := by simp [gRow]
theorem gRow_get {n : Nat} {M : Mx} {r c : Nat} (h : c ≤ n) : (gRow n M r).getD c 0 = M r c := getD_mapR _ (by omega)
theorem gOk_le {n : Nat} {M : Mx} : ∀ {m k : Nat}, gOk n M (k + m) = true → gOk n M k = true
  | 0, k, h => h
  | m + 1, k, h => by
    rw [show k + (m + 1) = (k + m) + 1 by omega, gOk, Bool.and_eq_true, Bool.and_eq_true] at h
    exact gOk_le h.1.1
theorem gOk_F {n : Nat} {M : Mx} {k : Nat} (h : gOk n M k = true) : gF n (gI n M k) = true := by
  cases k with
  | zero => exact h
  | succ k => rw [gOk, Bool.and_eq_true] at h; exact h.2
theorem fit_no {C : List (List Nat)} {y : List Nat} {k : Nat} (hk : k ≤ C.length) (h : gOk C.length (gM C y) k = false) : fitF C y = ([], false) := by
  unfold fitF
  rw [if_neg]; intro hc
  have := gOk_le (k := k) (m := C.length - k) (by rw [show k + (C.length - k) = C.length by omega]; exact hc)
  rw [this] at h; cases h
theorem fit_yes {C : List (List Nat)} {y : List Nat} (h : gOk C.length (gM C y) C.length = true) : fitF C y = ifAllF (gB C.length (gI C.length (gM C y) C.length) C.length) := by
  unfold fitF; rw [if_pos h]
theorem gS_F {n : Nat} {M : Mx} {k p : Nat} (hk : k < n) (hp : p < n) (h : gF n M = true) : gF n (gS M k p) = true := gF_of fun r c hr hc => by
  unfold gS
  split
  · exact gF_at h hp hc
  · split
    · exact gF_at h hk hc
    · exact gF_at h hr hc
/-- a quotient that is no number spoils the row's last number -/
theorem gE_bad {n : Nat} {M : Mx} {k r : Nat} (hk : k < n) (hkr : k < r) (hr : r < n) (h : fin (fop .quo .f32 (M r k) (M k k)) = false) : gF n (gE M k) = false := by
  cases hf : gF n (gE M k) with
  | false => rfl
  | true =>
    have := gF_at hf hr (Nat.le_refl n)
    unfold gE at this
    rw [if_pos ⟨hkr, hk⟩, bad_sub_r2 _ (bad_mul_l2 _ h)] at this; cases this
end Go.Proofs.Ytmnpdipiffmnhaa
