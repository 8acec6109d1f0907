import Derived.Test.YtpdnjcblkjjegaaVT143
import Derived.Test.YtpdnjcblkjjegaaVT64
import Derived.Test.YtpdnjcblkjjegaaVT26
set_option linter.unusedVariables false
set_option linter.unusedSimpArgs false
set_option maxRecDepth 20000
set_option maxHeartbeats 8000000
namespace Go.Proofs.Ytpdnjcblkjjegaa
open Go.Aw

/-! ### rows that are solved: the plain law -/
theorem fin_Rz (x : Nat) : fin x = finR .f32 x := by
  have h : fin x = finB .f32 x := rfl
  rw [h, finB_eq]
theorem bad_sub_r2 (a : Nat) {b : Nat} (h : fin b = false) : fin (fop .sub .f32 a b) = false := by rw [fin_Rz] at *; exact bad_sub_r a h
theorem bad_mul_l2 {a : Nat} (b : Nat) (h : fin a = false) : fin (fop .mul .f32 a b) = false := by rw [fin_Rz] at *; exact bad_mul_l b h
abbrev Mx := Nat → Nat → Nat
/-- products of columns; the last column: products with y -/
def gM (C : List (List Nat)) (y : List Nat) : Mx := fun r c => if c < C.length then dotF (C.getD r []) (C.getD c []) else dotF (C.getD r []) y
/-- the first row from k on, of j, whose number in column k is greatest -/
def gP (M : Mx) (k : Nat) : Nat → Nat
  | 0 => k
  | j + 1 => if fcmp .gtr .f32 (absF (M (k + j) k)) (absF (M (gP M k j) k)) = true then k + j else gP M k j
def gS (M : Mx) (k p : Nat) : Mx := fun r c => if r = k then M p c else if r = p then M k c else M r c
def gE (M : Mx) (k : Nat) : Mx := fun r c => if k < r ∧ k < c then fop .sub .f32 (M r c) (fop .mul .f32 (fop .quo .f32 (M r k) (M k k)) (M k c)) else M r c
def gW (n : Nat) (M : Mx) (k : Nat) : Mx := gS M k (gP M k (n - k))
def gI (n : Nat) (M : Mx) : Nat → Mx
  | 0 => M
  | k + 1 => gE (gW n (gI n M k) k) k
def gRow (n : Nat) (M : Mx) (r : Nat) : List Nat := (List.range (n + 1)).map (M r)
/-- all are numbers -/
def gF (n : Nat) (M : Mx) : Bool := (List.range n).all fun r => (gRow n M r).all fin
/-- the number in the middle is great enough -/
def gV (n : Nat) (M : Mx) (k : Nat) : Bool := fcmp .gtr .f32 (absF (M (gP M k (n - k)) k)) 897988541
def gOk (n : Nat) (M : Mx) : Nat → Bool
  | 0 => gF n M
  | k + 1 => gOk n M k && gV n (gI n M k) k && gF n (gI n M (k + 1))
def gT (M : Mx) (k n : Nat) (xs : List Nat) : Nat → Nat
  | 0 => M k n
  | i + 1 => fop .sub .f32 (gT M k n xs i) (fop .mul .f32 (M k (k + 1 + i)) (xs.getD i 0))
/-- the last t of the terms -/
def gB (n : Nat) (M : Mx) : Nat → List Nat
  | 0 => []
  | t + 1 => fop .quo .f32 (gT M (n - (t + 1)) n (gB n M t) t) (M (n - (t + 1)) (n - (t + 1))) :: gB n M t
theorem gB_len (n : Nat) (M : Mx) : ∀ t, (gB n M t).length = t
  | 0 => rfl
  | t + 1 => by rw [gB, List.length_cons, gB_len n M t]
def fitF (C : List (List Nat)) (y : List Nat) : List Nat × Bool := if gOk C.length (gM C y) C.length then ifAllF (gB C.length (gI C.length (gM C y) C.length) C.length) else ([], false)
theorem fitF_le (C : List (List Nat)) (y : List Nat) : (fitF C y).1.length ≤ C.length := by
  unfold fitF
  split
  · refine Nat.le_trans (ifAllF_le _) ?_
    rw [gB_len]; exact Nat.le_refl _
  · simp
theorem gP_ge (M : Mx) (k : Nat) : ∀ j, k ≤ gP M k j
  | 0 => Nat.le_refl _
  | j + 1 => by
    rw [gP]
    split
    · omega
    · exact gP_ge M k j
theorem gP_lt (M : Mx) (k : Nat) : ∀ j, gP M k j < k + j ∨ gP M k j = k
  | 0 => .inr rfl
  | j + 1 => by
    rw [gP]
    split
    · exact .inl (by omega)
    · rcases gP_lt M k j with h | h
      · exact .inl (by omega)
      · exact .inr h
theorem gtr_self (x : Nat) : fcmp .gtr .f32 x x = false := by
  unfold fcmp
  simp only []
  rw [order_self]
  cases isNan .f32 x <;> rfl
theorem gP_one (M : Mx) (k : Nat) : gP M k 1 = k := by
  rw [gP]
  split <;> rfl
theorem gP_n {M : Mx} {k n : Nat} (hk : k < n) : gP M k (n - k) < n := by
  rcases gP_lt M k (n - k) with h | h <;> omega
/-! numbers -/
theorem gF_at {n : Nat} {M : Mx} (h : gF n M = true) {r c : Nat} (hr : r < n) (hc : c ≤ n) : fin (M r c) = true := by
  have h1 := List.all_eq_true.1 h r (List.mem_range.2 hr)
  exact List.all_eq_true.1 h1 _ (List.mem_map.2 ⟨c, List.mem_range.2 (by omega), rfl⟩)
theorem gF_of {n : Nat} {M : Mx} (h : ∀ r c, r < n → c ≤ n → fin (M r c) = true) : gF n M = true := List.all_eq_true.2 fun r hr => List.all_eq_true.2 fun x hx => by
  obtain ⟨c, hc, rfl⟩ := List.mem_map.1 hx
  exact h r c (List.mem_range.1 hr) (by have := List.mem_range.1 hc; omega)
theorem gF_row {n : Nat} {M : Mx} {r : Nat} (hr : r < n) (h : (gRow n M r).all fin = false) : gF n M = false := by
  cases hf : gF n M with
  | false => rfl
  | true => rw [List.all_eq_true.1 hf r (List.mem_range.2 hr)] at h; cases h
theorem gRow_len (n : Nat) (M : Mx) (r : Nat) : (gRow n M r).length = n + 1 := by simp [gRow]
theorem gRow_get {n : Nat} {M : Mx} {r c : Nat} (h : c ≤ n) : (gRow n M r).getD c 0 = M r c := getD_mapR _ (by omega)
theorem gOk_le {n : Nat} {M : Mx} : ∀ {m k : Nat}, gOk n M (k + m) = true → gOk n M k = true
  | 0, k, h => h
  | m + 1, k, h => by
    rw [show k + (m + 1) = (k + m) + 1 by omega, gOk, Bool.and_eq_true, Bool.and_eq_true] at h
    exact gOk_le h.1.1
theorem gOk_F {n : Nat} {M : Mx} {k : Nat} (h : gOk n M k = true) : gF n (gI n M k) = true := by
  cases k with
  | zero => exact h
  | succ k => rw [gOk, Bool.and_eq_true] at h; exact h.2
theorem fit_no {C : List (List Nat)} {y : List Nat} {k : Nat} (hk : k ≤ C.length) (h : gOk C.length (gM C y) k = false) : fitF C y = ([], false) := by
  unfold fitF
  rw [if_neg]; intro hc
  have := gOk_le (k := k) (m := C.length - k) (by rw [show k + (C.length - k) = C.length by omega]; exact hc)
  rw [this] at h; cases h
theorem fit_yes {C : List (List Nat)} {y : List Nat} (h : gOk C.length (gM C y) C.length = true) : fitF C y = ifAllF (gB C.length (gI C.length (gM C y) C.length) C.length) := by
  unfold fitF; rw [if_pos h]
theorem gS_F {n : Nat} {M : Mx} {k p : Nat} (hk : k < n) (hp : p < n) (h : gF n M = true) : gF n (gS M k p) = true := gF_of fun r c hr hc => by
  unfold gS
  split
  · exact gF_at h hp hc
  · split
    · exact gF_at h hk hc
    · exact gF_at h hr hc
/-- a quotient that is no number spoils the row's last number -/
theorem gE_bad {n : Nat} {M : Mx} {k r : Nat} (hk : k < n) (hkr : k < r) (hr : r < n) (h : fin (fop .quo .f32 (M r k) (M k k)) = false) : gF n (gE M k) = false := by
  cases hf : gF n (gE M k) with
  | false => rfl
  | true =>
    have := gF_at hf hr (Nat.le_refl n)
    unfold gE at this
    rw [if_pos ⟨hkr, hk⟩, bad_sub_r2 _ (bad_mul_l2 _ h)] at this; cases this
end Go.Proofs.Ytpdnjcblkjjegaa

set_option linter.unusedVariables false
set_option linter.unusedSimpArgs false
set_option maxRecDepth 20000
set_option maxHeartbeats 8000000
namespace Go.Proofs.Ytpdnjcblkjjegaa
open Go.Aw

/-! ### sizes, as they are held against each other -/
theorem gtr_same {a a' b b' : Nat} (h1 : isNan .f32 a = isNan .f32 a') (h2 : isNan .f32 b = isNan .f32 b') (h3 : isNan .f32 a = false → sv .f32 a = sv .f32 a') (h4 : isNan .f32 b = false → sv .f32 b = sv .f32 b') : fcmp .gtr .f32 a b = fcmp .gtr .f32 a' b' := by
  unfold fcmp
  simp only []
  cases ha : isNan .f32 a with
  | true => rw [order_nan_left ha, order_nan_left (by rw [← h1]; exact ha)]
  | false =>
    cases hb : isNan .f32 b with
    | true => rw [order_nan_right hb, order_nan_right (by rw [← h2]; exact hb)]
    | false => rw [order_sv .f32 ha hb, order_sv .f32 (by rw [← h1]; exact ha) (by rw [← h2]; exact hb), h3 ha, h4 hb]
theorem sz3_abs {c : Nat} (hc : F32 c) : isNan .f32 (sz3 c) = isNan .f32 (absF c) ∧ (isNan .f32 (sz3 c) = false → sv .f32 (sz3 c) = sv .f32 (absF c)) := by
  have h2 := hc.2
  rw [absF_eq hc]
  cases hn : isNan .f32 c with
  | true =>
    have e1 : sz3 c = c := by
      unfold sz3 fcmp
      simp only []
      rw [order_nan_left hn]; rfl
    have e2 : absR c = nan0 .f32 := by unfold absR; rw [hn]; rfl
    rw [e1, e2, hn]
    exact ⟨by decide +kernel, fun h => by cases h⟩
  | false =>
    have e2 : absR c = c % 2147483648 := by unfold absR; rw [hn]; rfl
    have ho := order_sv .f32 hn (zero_notnan .f32)
    rw [sv_zero, sv_eq, sw32] at ho
    have hw := word_rung .f32 (c := c) (by rw [sw32]; omega)
    rw [sw32] at hw
    have hlss : fcmp .lss .f32 c 0 = (FloatKind.f32.format.order c 0 == some .lt) := rfl
    cases hs : (c / 2147483648 % 2 == 1) with
    | true =>
      have hf := fneg_lt hc hn
      rw [hs] at ho hw hf
      simp only [Ieee.Format.word, if_true, Bool.false_eq_true, if_false, sw32, Bool.not_true] at hw hf
      simp only [sg1, if_true] at ho
      rcases Nat.eq_zero_or_pos (c % 2147483648) with h | h
      · rw [cmp_eq (by omega)] at ho
        have e1 : sz3 c = c := by unfold sz3; rw [hlss, ho]; rfl
        rw [e1, e2, h, hn]
        refine ⟨(zero_notnan .f32).symm, fun _ => ?_⟩
        rw [sv_zero, sv_eq, sw32, hs, h]; rfl
      · rw [cmp_lt (by omega)] at ho
        have e1 : sz3 c = c % 2147483648 := by unfold sz3; rw [hlss, ho, if_pos (by rfl), hf]
        rw [e1, e2]
        exact ⟨rfl, fun _ => rfl⟩
    | false =>
      rw [hs] at ho hw
      simp only [Ieee.Format.word, Bool.false_eq_true, if_false] at hw
      simp only [sg1, Bool.false_eq_true, if_false] at ho
      have e1 : sz3 c = c := by
        unfold sz3
        rw [hlss, ho]
        rcases Nat.eq_zero_or_pos (c % 2147483648) with h | h
        · rw [cmp_eq (by omega)]; rfl
        · rw [cmp_gt (by omega)]; rfl
      have e3 : absR c = c := by rw [e2]; exact hw.symm
      rw [e1, e3]
      exact ⟨rfl, fun _ => rfl⟩
theorem gtr_sz {a b : Nat} (ha : F32 a) (hb : F32 b) : fcmp .gtr .f32 (sz3 a) (sz3 b) = fcmp .gtr .f32 (absF a) (absF b) :=
  gtr_same (sz3_abs ha).1 (sz3_abs hb).1 (sz3_abs ha).2 (sz3_abs hb).2
theorem gtr_szK {a k : Nat} (ha : F32 a) : fcmp .gtr .f32 (sz3 a) k = fcmp .gtr .f32 (absF a) k := gtr_same (sz3_abs ha).1 rfl (sz3_abs ha).2 fun _ => rfl
theorem l03Size_c (c : Nat) : TCall Try.prog 134 [.f .f32 c] (.t (.f .f32 (sz3 c))) [] := by
  refine tcall_of Try.func134 rfl (by kernel_rfl) (Nat.le_of_ble_eq_true rfl) rfl ?_
  simp only [argsL, argAV, argCs, argS]
  refine V3 ?_
  refine awp_if rfl (fun h => ?_) (fun h => ?_)
  · refine V3 ?_
    refine u_0 ?_
    repeat' (first | exact RetRelL.nil | refine RetRel.nil rfl ?_ | refine RetRelL.cons ?_ ?_ | refine rr_tup ?_ | refine rr_agg ?_ | refine rr_own rfl ?_ | exact RetRel.arg | exact RetRel.argc | refine rr_t ?_)
    simp [sz3, h]
  · refine V3 ?_
    refine u_0 ?_
    repeat' (first | exact RetRelL.nil | refine RetRel.nil rfl ?_ | refine RetRelL.cons ?_ ?_ | refine rr_tup ?_ | refine rr_agg ?_ | refine rr_own rfl ?_ | exact RetRel.arg | exact RetRel.argc | refine rr_t ?_)
    simp [sz3, h]

/-! ### rows laid out flat -/
def flatA (n : Nat) (M : Mx) : List Nat := (List.range (n * n)).map fun q => M (q / n) (q % n)
def colB (n : Nat) (M : Mx) : List Nat := (List.range n).map fun r => M r n
theorem flatA_len (n : Nat) (M : Mx) : (flatA n M).length = n * n := by simp [flatA]
theorem colB_len (n : Nat) (M : Mx) : (colB n M).length = n := by simp [colB]
theorem flat_lt {n r c : Nat} (hr : r < n) (hc : c < n) : r * n + c < n * n := by
  have : (r + 1) * n ≤ n * n := Nat.mul_le_mul_right n hr
  rw [Nat.add_mul, Nat.one_mul] at this; omega
theorem flatA_get {n : Nat} {M : Mx} {r c : Nat} (hr : r < n) (hc : c < n) : (flatA n M).getD (r * n + c) 0 = M r c := by
  unfold flatA
  rw [getD_mapR _ (flat_lt hr hc)]
  have h1 : (r * n + c) / n = r := by rw [Nat.mul_comm, Nat.mul_add_div (by omega), Nat.div_eq_of_lt hc, Nat.add_zero]
  have h2 : (r * n + c) % n = c := by rw [Nat.mul_comm, Nat.mul_add_mod, Nat.mod_eq_of_lt hc]
  rw [h1, h2]
theorem colB_get {n : Nat} {M : Mx} {r : Nat} (hr : r < n) : (colB n M).getD r 0 = M r n := getD_mapR _ hr
def upM (M : Mx) (r c x : Nat) : Mx := fun r' c' => if r' = r ∧ c' = c then x else M r' c'
theorem getD_set2 {l : List Nat} {i j x : Nat} (h : i < l.length) : (l.set i x).getD j 0 = if i = j then x else l.getD j 0 := by
  simp only [List.getD_eq_getElem?_getD, List.getElem?_set]
  by_cases hij : i = j
  · subst hij
    rw [if_pos rfl, if_pos h, if_pos rfl]; rfl
  · rw [if_neg hij, if_neg hij]
theorem list_ext {l m : List Nat} (h : l.length = m.length) (he : ∀ i, i < l.length → l.getD i 0 = m.getD i 0) : l = m := by
  refine List.ext_getElem h fun i h1 h2 => ?_
  have := he i h1
  rw [List.getD_eq_getElem?_getD, List.getD_eq_getElem?_getD, List.getElem?_eq_getElem h1, List.getElem?_eq_getElem h2] at this
  exact this
theorem flatA_set {n : Nat} {M : Mx} {r c x : Nat} (hr : r < n) (hc : c < n) : (flatA n M).set (r * n + c) x = flatA n (upM M r c x) := by
  refine list_ext (by rw [List.length_set, flatA_len, flatA_len]) fun i hi => ?_
  rw [List.length_set, flatA_len] at hi
  have hn : 0 < n := by omega
  have hr' : i / n < n := Nat.div_lt_of_lt_mul hi
  have hc' : i % n < n := Nat.mod_lt _ hn
  have hi' : i = i / n * n + i % n := by rw [Nat.mul_comm]; exact (Nat.div_add_mod i n).symm
  have e1 : (flatA n (upM M r c x)).getD i 0 = upM M r c x (i / n) (i % n) := getD_mapR _ hi
  have e2 : (flatA n M).getD i 0 = M (i / n) (i % n) := getD_mapR _ hi
  rw [e1, getD_set2 (by rw [flatA_len]; exact flat_lt hr hc), e2]
  unfold upM
  by_cases h : r * n + c = i
  · have h1 : i / n = r := by rw [← h, Nat.mul_comm, Nat.mul_add_div hn, Nat.div_eq_of_lt hc, Nat.add_zero]
    have h2 : i % n = c := by rw [← h, Nat.mul_comm, Nat.mul_add_mod, Nat.mod_eq_of_lt hc]
    rw [if_pos h, if_pos ⟨h1, h2⟩]
  · rw [if_neg h, if_neg]
    rintro ⟨h1, h2⟩
    apply h; rw [← h1, ← h2]; exact hi'.symm
theorem colB_set {n : Nat} {M : Mx} {r x : Nat} (hr : r < n) : (colB n M).set r x = colB n (upM M r n x) := by
  refine list_ext (by rw [List.length_set, colB_len, colB_len]) fun i hi => ?_
  rw [List.length_set, colB_len] at hi
  rw [getD_set2 (by rw [colB_len]; exact hr), colB_get hi, colB_get hi]
  unfold upM
  by_cases h : r = i
  · rw [if_pos h, if_pos ⟨h.symm, rfl⟩]
  · rw [if_neg h, if_neg]; rintro ⟨h1, _⟩; exact h h1.symm
theorem flatA_same {n : Nat} {M M' : Mx} (h : ∀ r c, r < n → c < n → M r c = M' r c) : flatA n M = flatA n M' := by
  refine list_ext (by rw [flatA_len, flatA_len]) fun i hi => ?_
  rw [flatA_len] at hi
  have hn : 0 < n := by
    cases n with
    | zero => simp at hi
    | succ n => omega
  have e1 : (flatA n M).getD i 0 = M (i / n) (i % n) := getD_mapR _ hi
  have e2 : (flatA n M').getD i 0 = M' (i / n) (i % n) := getD_mapR _ hi
  rw [e1, e2]
  exact h _ _ (Nat.div_lt_of_lt_mul hi) (Nat.mod_lt _ hn)
theorem colB_same {n : Nat} {M M' : Mx} (h : ∀ r, r < n → M r n = M' r n) : colB n M = colB n M' := by
  refine list_ext (by rw [colB_len, colB_len]) fun i hi => ?_
  rw [colB_len] at hi
  rw [colB_get hi, colB_get hi]; exact h i hi
theorem flat_F (n : Nat) (M : Mx) : ((flatA n M).all fin && (colB n M).all fin) = gF n M := by
  cases hf : gF n M with
  | true =>
    rw [Bool.and_eq_true]
    refine ⟨List.all_eq_true.2 fun x hx => ?_, List.all_eq_true.2 fun x hx => ?_⟩
    · obtain ⟨q, hq, rfl⟩ := List.mem_map.1 hx
      have hq := List.mem_range.1 hq
      have hn : 0 < n := by
        cases n with
        | zero => simp at hq
        | succ n => omega
      exact gF_at hf (Nat.div_lt_of_lt_mul hq) (Nat.le_of_lt (Nat.mod_lt _ hn))
    · obtain ⟨r, hr, rfl⟩ := List.mem_map.1 hx
      exact gF_at hf (List.mem_range.1 hr) (Nat.le_refl _)
  | false =>
    cases h : ((flatA n M).all fin && (colB n M).all fin) with
    | false => rfl
    | true =>
      rw [Bool.and_eq_true] at h
      rw [← hf]
      refine (gF_of fun r c hr hc => ?_).symm
      rcases Nat.lt_or_eq_of_le hc with hc' | rfl
      · rw [← flatA_get (M := M) hr hc']
        refine List.all_eq_true.1 h.1 _ ?_
        rw [List.getD_eq_getElem?_getD, List.getElem?_eq_getElem (by rw [flatA_len]; exact flat_lt hr hc')]
        exact List.getElem_mem _
      · rw [← colB_get (M := M) hr]
        refine List.all_eq_true.1 h.2 _ ?_
        rw [List.getD_eq_getElem?_getD, List.getElem?_eq_getElem (by rw [colB_len]; exact hr)]
        exact List.getElem_mem _
end Go.Proofs.Ytpdnjcblkjjegaa

