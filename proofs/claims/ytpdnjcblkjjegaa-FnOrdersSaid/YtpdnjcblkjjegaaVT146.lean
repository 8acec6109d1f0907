import Derived.Test.YtpdnjcblkjjegaaVT145
set_option linter.unusedVariables false
set_option linter.unusedSimpArgs false
set_option maxRecDepth 20000
set_option maxHeartbeats 16000000
namespace Go.Proofs.Ytpdnjcblkjjegaa
open Go.Aw

/-! ### rows that are solved: the reference's walk -/
theorem q_mulN {P : Program} {o : Oper} {F : List Nat} {ρ : Fr} {η : Hp} {t u : TypeId} {x y : Operand} {a b : Nat} (h : a * b ≤ 4611686018427387904) (ho : o.op = .binOp .mul t x y u)
    (hx : evA ρ x = .t (.v (.int .i64 (a : Nat)))) (hy : evA ρ y = .t (.v (.int .i64 (b : Nat)))) : QRun P o F [] ρ η (.t (.v (.int .i64 ((a * b : Nat) : Int)))) (lkH []) := by
  rw [Int.natCast_mul]
  exact q_mul ho hx hy (by rw [← Int.natCast_mul]; omega)
theorem fE2 {k : FloatKind} {a b : Nat} (h : a = b) : AV.t (.f k a) = AV.t (.f k b) := by rw [h]
def gN (n : Nat) (M : Mx) : Nat → Nat
  | 0 => 0
  | k + 1 => if gOk n M k = true then (if gV n (gI n M k) k = true then k + 1 else k) else gN n M k
def gZ (n : Nat) (M : Mx) : Mx := gI n M (gN n M n)
def solF (n : Nat) (M : Mx) : List Nat × Bool := if gOk n M n = true then (gB n (gI n M n) n, (gB n (gI n M n) n).all fin) else ([], false)
theorem gOk_no {n : Nat} {M : Mx} {k m : Nat} (hk : k ≤ m) (h : gOk n M k = false) : gOk n M m = false := by
  cases hm : gOk n M m with
  | false => rfl
  | true =>
    have := gOk_le (k := k) (m := m - k) (by rw [show k + (m - k) = m by omega]; exact hm)
    rw [this] at h; cases h
theorem gN_stop {n : Nat} {M : Mx} {k : Nat} (h : gOk n M k = false) : ∀ m, gN n M (k + m) = gN n M k
  | 0 => rfl
  | m + 1 => by
    rw [show k + (m + 1) = (k + m) + 1 by omega, gN, gOk_no (show k ≤ k + m by omega) h]
    simp only [Bool.false_eq_true, if_false]
    exact gN_stop h m
theorem gN_v {n : Nat} {M : Mx} {k : Nat} (hk : k < n) (h0 : gOk n M k = true) (h : gV n (gI n M k) k = false) : gN n M n = k ∧ gOk n M n = false := by
  have h1 : gOk n M (k + 1) = false := by rw [gOk, h0, h]; rfl
  have := gN_stop h1 (n - (k + 1))
  rw [show k + 1 + (n - (k + 1)) = n by omega] at this
  rw [this, gN, h0, h]
  exact ⟨rfl, gOk_no (by omega) h1⟩
theorem gN_f {n : Nat} {M : Mx} {k : Nat} (hk : k < n) (h0 : gOk n M k = true) (h : gV n (gI n M k) k = true) (h2 : gF n (gI n M (k + 1)) = false) : gN n M n = k + 1 ∧ gOk n M n = false := by
  have h1 : gOk n M (k + 1) = false := by rw [gOk, h0, h, h2]; rfl
  have := gN_stop h1 (n - (k + 1))
  rw [show k + 1 + (n - (k + 1)) = n by omega] at this
  rw [this, gN, h0, h]
  exact ⟨rfl, gOk_no (by omega) h1⟩
theorem gN_ok {n : Nat} {M : Mx} (h1 : 1 ≤ n) (h : gOk n M n = true) : gN n M n = n := by
  obtain ⟨k, rfl⟩ : ∃ k, n = k + 1 := ⟨n - 1, by omega⟩
  rw [gOk, Bool.and_eq_true, Bool.and_eq_true] at h
  rw [gN, h.1.1, h.1.2]; rfl
theorem solF_no {n : Nat} {M : Mx} (h : gOk n M n = false) : solF n M = ([], false) := by unfold solF; rw [h]; rfl
theorem solF_yes {n : Nat} {M : Mx} (h : gOk n M n = true) : solF n M = (gB n (gI n M n) n, (gB n (gI n M n) n).all fin) := by unfold solF; rw [h]; rfl
def FM (M : Mx) : Prop := ∀ r c, F32 (M r c)
theorem gS_FM {M : Mx} {k p : Nat} (h : FM M) : FM (gS M k p) := fun r c => by
  unfold gS; split
  · exact h _ _
  · split <;> exact h _ _
theorem gE_FM {M : Mx} {k : Nat} (h : FM M) : FM (gE M k) := fun r c => by
  unfold gE; split
  · exact F32_fop _ _ _
  · exact h _ _
theorem gI_FM {n : Nat} {M : Mx} (h : FM M) : ∀ k, FM (gI n M k)
  | 0 => h
  | k + 1 => gE_FM (gS_FM (gI_FM h k))
/-! the parts of a step -/
def gSc (M : Mx) (k p c0 : Nat) : Mx := fun r c => if c < c0 then gS M k p r c else M r c
theorem gSc_up {M : Mx} {k p c0 : Nat} : upM (upM (gSc M k p c0) k c0 (M p c0)) p c0 (M k c0) = gSc M k p (c0 + 1) := by
  funext r c
  unfold upM gSc gS
  by_cases hc : c = c0
  · subst hc
    rw [if_neg (Nat.lt_irrefl c), if_pos (Nat.lt_succ_self c)]
    by_cases h1 : r = p
    · subst h1
      rw [if_pos ⟨rfl, rfl⟩]
      by_cases h2 : r = k
      · subst h2; rw [if_pos rfl]
      · rw [if_neg h2, if_pos rfl]
    · rw [if_neg (fun h => h1 h.1)]
      by_cases h2 : r = k
      · subst h2; rw [if_pos ⟨rfl, rfl⟩, if_pos rfl]
      · rw [if_neg (fun h => h2 h.1), if_neg h2, if_neg h1]
  · rw [if_neg (fun h => hc h.2), if_neg (fun h => hc h.2)]
    by_cases hlt : c < c0
    · rw [if_pos hlt, if_pos (show c < c0 + 1 by omega)]
    · rw [if_neg hlt, if_neg (show ¬ c < c0 + 1 by omega)]
theorem gSc_all (n : Nat) (M : Mx) (k p : Nat) : flatA n (gSc M k p n) = flatA n (gS M k p) := flatA_same fun r c hr hc => by unfold gSc; rw [if_pos hc]
theorem gSc_0 (M : Mx) (k p : Nat) : gSc M k p 0 = M := by funext r c; unfold gSc; rw [if_neg (Nat.not_lt_zero c)]
theorem gS_col {n : Nat} {M : Mx} {k p : Nat} (hk : k < n) (hp : p < n) : ((colB n M).set k (M p n)).set p (M k n) = colB n (gS M k p) := by
  rw [colB_set hk, colB_set hp]
  refine colB_same fun r hr => ?_
  unfold upM gS
  by_cases h1 : r = p
  · subst h1
    rw [if_pos ⟨rfl, rfl⟩]
    by_cases h2 : r = k
    · subst h2; rw [if_pos rfl]
    · rw [if_neg h2, if_pos rfl]
  · rw [if_neg (fun h => h1 h.1)]
    by_cases h2 : r = k
    · subst h2; rw [if_pos ⟨rfl, rfl⟩, if_pos rfl]
    · rw [if_neg (fun h => h2 h.1), if_neg h2, if_neg h1]
def gEr (M : Mx) (k r0 : Nat) : Mx := fun r c => if r < r0 then gE M k r c else M r c
def gErc (M : Mx) (k r0 c0 : Nat) : Mx := fun r c => if r < r0 then gE M k r c else if r = r0 ∧ c < c0 then gE M k r c else M r c
theorem gEr_0 (M : Mx) (k : Nat) : gEr M k (k + 1) = M := by
  funext r c; unfold gEr gE
  split
  · rw [if_neg (by omega)]
  · rfl
theorem gErc_0 (M : Mx) (k r0 : Nat) : gErc M k r0 (k + 1) = gEr M k r0 := by
  funext r c; unfold gErc gEr gE
  by_cases h : r < r0
  · rw [if_pos h, if_pos h]
  · rw [if_neg h, if_neg h]
    by_cases h2 : r = r0 ∧ c < k + 1
    · rw [if_pos h2, if_neg (by omega)]
    · rw [if_neg h2]
theorem gErc_up {M : Mx} {k r0 c0 : Nat} (hk : k < r0) (hc : k < c0) : upM (gErc M k r0 c0) r0 c0 (fop .sub .f32 (M r0 c0) (fop .mul .f32 (fop .quo .f32 (M r0 k) (M k k)) (M k c0))) = gErc M k r0 (c0 + 1) := by
  funext r c
  unfold upM gErc
  by_cases h1 : r < r0
  · rw [if_neg (by omega), if_pos h1, if_pos h1]
  · rw [if_neg h1, if_neg h1]
    by_cases h2 : r = r0 ∧ c = c0
    · obtain ⟨rfl, rfl⟩ := h2
      rw [if_pos ⟨rfl, rfl⟩, if_pos ⟨rfl, Nat.lt_succ_self c⟩]
      unfold gE; rw [if_pos ⟨hk, hc⟩]
    · rw [if_neg h2]
      by_cases h3 : r = r0 ∧ c < c0
      · rw [if_pos h3, if_pos ⟨h3.1, by omega⟩]
      · rw [if_neg h3, if_neg (by omega)]
theorem gErc_all (n : Nat) (M : Mx) (k r0 : Nat) : flatA n (gErc M k r0 n) = flatA n (gEr M k (r0 + 1)) := flatA_same fun r c hr hc => by
  unfold gErc gEr
  by_cases h1 : r < r0
  · rw [if_pos h1, if_pos (by omega)]
  · rw [if_neg h1]
    by_cases h2 : r = r0
    · rw [if_pos ⟨h2, hc⟩, if_pos (by omega)]
    · rw [if_neg (fun h => h2 h.1), if_neg (by omega)]
theorem gEr_col {n : Nat} {M : Mx} {k r0 : Nat} (hr : r0 < n) (hk : k < r0) (hkn : k < n) : (colB n (gEr M k r0)).set r0 (fop .sub .f32 (M r0 n) (fop .mul .f32 (fop .quo .f32 (M r0 k) (M k k)) (M k n))) = colB n (gEr M k (r0 + 1)) := by
  rw [colB_set hr]
  refine colB_same fun r _ => ?_
  unfold upM gEr
  by_cases h1 : r = r0
  · subst h1
    rw [if_pos ⟨rfl, rfl⟩, if_pos (Nat.lt_succ_self r)]
    unfold gE; rw [if_pos ⟨hk, hkn⟩]
  · rw [if_neg (fun h => h1 h.1)]
    by_cases h2 : r < r0
    · rw [if_pos h2, if_pos (by omega)]
    · rw [if_neg h2, if_neg (by omega)]
theorem gEr_all (n : Nat) (M : Mx) (k : Nat) : flatA n (gEr M k n) = flatA n (gE M k) ∧ colB n (gEr M k n) = colB n (gE M k) :=
  ⟨flatA_same fun r c hr hc => by unfold gEr; rw [if_pos hr], colB_same fun r hr => by unfold gEr; rw [if_pos hr]⟩
theorem gErc_k {M : Mx} {k r0 c0 c : Nat} (hk : k < r0) : gErc M k r0 c0 k c = M k c := by unfold gErc gE; rw [if_pos hk, if_neg (by omega)]
theorem gErc_r {M : Mx} {k r0 c0 c : Nat} (hc : c0 ≤ c) : gErc M k r0 c0 r0 c = M r0 c := by unfold gErc; rw [if_neg (Nat.lt_irrefl r0), if_neg (by omega)]
theorem gEr_k {M : Mx} {k r0 c : Nat} (hk : k < r0) : gEr M k r0 k c = M k c := by unfold gEr gE; rw [if_pos hk, if_neg (by omega)]
theorem gEr_r {M : Mx} {k r0 c : Nat} : gEr M k r0 r0 c = M r0 c := by unfold gEr; rw [if_neg (Nat.lt_irrefl r0)]
theorem gSc_r {M : Mx} {k p c0 r c : Nat} (hc : c0 ≤ c) : gSc M k p c0 r c = M r c := by unfold gSc; rw [if_neg (by omega)]
theorem gV_def (n : Nat) (A : Mx) (k : Nat) : gV n A k = fcmp .gtr .f32 (absF (A (gP A k (n - k)) k)) 897988541 := rfl
theorem gZ_def (n : Nat) (M : Mx) : gZ n M = gI n M (gN n M n) := rfl
theorem gB_0 (n : Nat) (M : Mx) : gB n M 0 = [] := rfl
theorem gOk_up {n : Nat} {M : Mx} {k : Nat} (h0 : gOk n M k = true) (h1 : gV n (gI n M k) k = true) (h2 : gF n (gI n M (k + 1)) = true) : gOk n M (k + 1) = true := by rw [gOk, h0, h1, h2]; rfl
theorem gI_0 (n : Nat) (M : Mx) : gI n M 0 = M := rfl
theorem gOk_0 {n : Nat} {M : Mx} (h : gF n M = true) : gOk n M 0 = true := h
theorem gB_S (n : Nat) (M : Mx) (t : Nat) : gB n M (t + 1) = fop .quo .f32 (gT M (n - (t + 1)) n (gB n M t) t) (M (n - (t + 1)) (n - (t + 1))) :: gB n M t := rfl
theorem gT_0 (M : Mx) (k n : Nat) (xs : List Nat) : gT M k n xs 0 = M k n := rfl
theorem gT_S (M : Mx) (k n : Nat) (xs : List Nat) (i : Nat) : gT M k n xs (i + 1) = fop .sub .f32 (gT M k n xs i) (fop .mul .f32 (M k (k + 1 + i)) (xs.getD i 0)) := rfl
theorem gP_S (M : Mx) (k j : Nat) : gP M k (j + 1) = if fcmp .gtr .f32 (absF (M (k + j) k)) (absF (M (gP M k j) k)) = true then k + j else gP M k j := rfl
theorem gI_S (n : Nat) (M : Mx) (k : Nat) : gI n M (k + 1) = gE (gS (gI n M k) k (gP (gI n M k) k (n - k))) k := rfl
theorem gB_set {n : Nat} {xs : List Nat} {t x : Nat} (h : xs.length = t) (ht : t < n) : (List.replicate (n - t) 0 ++ xs).set (n - (t + 1)) x = List.replicate (n - (t + 1)) 0 ++ (x :: xs) := by
  rw [List.set_append_left _ _ (by simp; omega), show n - t = (n - (t + 1)) + 1 by omega, List.replicate_succ', List.set_append_right _ _ (by simp), List.length_replicate, Nat.sub_self]
  simp
theorem gB_at {n : Nat} {xs : List Nat} {t i : Nat} (h : xs.length = t) (ht : t ≤ n) (hi : i < t) : (List.replicate (n - t) 0 ++ xs).getD (n - t + i) 0 = xs.getD i 0 := by
  simp only [List.getD_eq_getElem?_getD]
  rw [List.getElem?_append_right (by simp), List.length_replicate, Nat.add_sub_cancel_left]
attribute [local irreducible] QRun LexD AWp TCall TMut fop fint fcmp fconv flatA colB gI gP gE gS gEr gErc gSc gT gB gOk gF gV gZ gN solF sz3 absF
theorem solve_c (n : Nat) (M : Mx) (h1 : 1 ≤ n) (hn : n ≤ 6) (hM : FM M) (h0 : gF n M = true) :
    TMut Try.prog 128 [.argo 0 900 0 (n * n), .argo 1 901 0 n] [(900, .sl 30 (.fl (flatA n M))), (901, .sl 30 (.fl (colB n M)))]
      (.tup [.own 0 (solF n M).1.length, .t (.v (.bool (solF n M).2))]) [(900, .sl 30 (.fl (flatA n (gZ n M)))), (901, .sl 30 (.fl (colB n (gZ n M))))] [(0, .sl 30 (.fl (solF n M).1))] := by
  have hnn : n * n ≤ 36 := Nat.mul_le_mul hn hn
  have held : ∀ π : Nat → Option Nat, True := fun _ => trivial
  refine tmut_of Try.func128 rfl (by kernel_rfl) (Nat.le_of_ble_eq_true rfl) rfl ?_
  simp only [slotsL]
  refine V1 ?_
  refine awp_loop (X := Nat) (fun k => k ≤ n ∧ gOk n M k = true) (fun k => [(0, .argo 0 900 0 (n * n)), (1, .argo 1 901 0 n), (6, .t (.v (.int .i64 (n : Nat)))), (7, .t (.v (.int .i64 (k : Nat))))])
    (fun k => [(900, .sl 30 (.fl (flatA n (gI n M k)))), (901, .sl 30 (.fl (colB n (gI n M k))))]) (fun k => n - k)
    0 ⟨⟨by omega, gOk_0 h0⟩, fun i => i, ⟨rfl, rfl, rfl, rfl, trivial⟩, ⟨sl_eq (by rw [gI_0]), sl_eq (by rw [gI_0]), trivial⟩, injOn_id _⟩ (fun k hk => ?_)
  obtain ⟨hkn, hok⟩ := hk
  have hK := gI_FM (n := n) hM k
  generalize hA : gI n M k = A at *
  have hal := flatA_len n A
  have hbl := colB_len n A
  refine V1 ?_
  refine awp_if rfl (fun h => ?_) (fun h => ?_)
  · simp only [icmp, decide_eq_true_eq] at h
    have hk : k < n := by omega
    have hkk := flat_lt hk hk
    refine V1 ?_
    -- the greatest
    refine awp_loop (X := Nat) (fun j => 1 ≤ j ∧ j ≤ n - k) (fun j => [(0, .argo 0 900 0 (n * n)), (1, .argo 1 901 0 n), (6, .t (.v (.int .i64 (n : Nat)))), (7, .t (.v (.int .i64 (k : Nat)))), (8, .t (.v (.int .i64 (gP A k j : Nat)))), (9, .t (.v (.int .i64 (k + j : Nat))))])
      (fun j => [(900, .sl 30 (.fl (flatA n (A)))), (901, .sl 30 (.fl (colB n (A))))]) (fun j => n - k - j)
      1 ⟨⟨by omega, by omega⟩, fun i => i, ⟨rfl, rfl, rfl, rfl, iE9' (by rw [gP_one]), iE9' (by omega), trivial⟩, ⟨rfl, rfl, trivial⟩, injOn_id _⟩ (fun j hj => ?_)
    obtain ⟨hj1, hj2⟩ := hj
    have hpn : gP A k j < n := by rcases gP_lt A k j with h' | h' <;> omega
    refine V1 ?_
    refine awp_if rfl (fun h2 => ?_) (fun h2 => ?_)
    · simp only [icmp, decide_eq_true_eq] at h2
      have hjn : k + j < n := by omega
      have hb1 := flat_lt hjn hk
      have hb2 := flat_lt hpn hk
      have g1 := flatA_get (M := A) hjn hk
      have g2 := flatA_get (M := A) hpn hk
      have hps := gP_S A k j
      refine V1 ?_
      (first | (refine w_r (q_mulN (a := k + j) (b := n) (by omega) rfl rfl rfl) (h := ?_)) | (refine y_r (q_mulN (a := k + j) (b := n) (by omega) rfl rfl rfl) (h := ?_)))
      refine V1 ?_
      (first | refine c_q (l03Size_c _) (h := ?_) | refine z_q (l03Size_c _) (h := ?_))
      refine V1 ?_
      (first | (refine w_r (q_mulN (a := gP A k j) (b := n) (by omega) rfl rfl rfl) (h := ?_)) | (refine y_r (q_mulN (a := gP A k j) (b := n) (by omega) rfl rfl rfl) (h := ?_)))
      refine V1 ?_
      (first | refine c_q (l03Size_c _) (h := ?_) | refine z_q (l03Size_c _) (h := ?_))
      refine V1 ?_
      rw [Nat.zero_add, Nat.zero_add, g1, g2, gtr_sz (hK _ _) (hK _ _)]
      refine V1 ?_
      refine awp_if rfl (fun h3 => ?_) (fun h3 => ?_)
      · refine V1 ?_
        exact ⟨j + 1, by omega, ⟨by omega, by omega⟩, fun i => i, ⟨rfl, rfl, rfl, rfl, iE9' (by rw [hps, if_pos h3]), iE9' (by omega), trivial⟩, ⟨rfl, rfl, trivial⟩, injOn_id _⟩
      · refine V1 ?_
        exact ⟨j + 1, by omega, ⟨by omega, by omega⟩, fun i => i, ⟨rfl, rfl, rfl, rfl, iE9' (by rw [hps, if_neg (by rw [h3]; simp)]), iE9' (by omega), trivial⟩, ⟨rfl, rfl, trivial⟩, injOn_id _⟩
    simp only [icmp, decide_eq_false_iff_not] at h2
    obtain rfl : j = n - k := by omega
    have hb2 := flat_lt hpn hk
    have g2 := flatA_get (M := A) hpn hk
    have hV : gV n A k = fcmp .gtr .f32 (absF (A (gP A k (n - k)) k)) 897988541 := gV_def n A k
    have hIS := gI_S n M k
    rw [hA] at hIS
    generalize hp : gP A k (n - k) = p at *
    refine V1 ?_
    (first | (refine w_r (q_mulN (a := p) (b := n) (by omega) rfl rfl rfl) (h := ?_)) | (refine y_r (q_mulN (a := p) (b := n) (by omega) rfl rfl rfl) (h := ?_)))
    refine V1 ?_
    (first | refine c_q (l03Size_c _) (h := ?_) | refine z_q (l03Size_c _) (h := ?_))
    refine V1 ?_
    rw [Nat.zero_add, g2, gtr_szK (hK _ _), ← hV]
    refine V1 ?_
    refine awp_if rfl (fun h3 => ?_) (fun h3 => ?_)
    · simp only [Bool.not_eq_true'] at h3
      obtain ⟨z1, z2⟩ := gN_v hk hok (by rw [hA]; exact h3)
      have hZ : gZ n M = A := by rw [gZ_def, z1, hA]
      rw [solF_no z2, hZ]
      refine V1 ?_
      refine mret_ok tyOk (by first | exact .inr rfl | exact .inl rfl) (piL [(900, 900), (901, 901)]) rfl (by repeat (first | exact .nil | (apply ResAl.cons; first | exact .tmp | exact .cell rfl rfl rfl rfl rfl rfl | exact .cell1 rfl rfl rfl rfl rfl))) ?_ ⟨rfl, rfl, ⟨_, _, rfl, rfl, rfl⟩, trivial⟩ (injO_dec rfl)
        ⟨⟨0, 0, 900, 0, n * n, 0, n * n, rfl, rfl, .inl rfl⟩, ⟨1, 1, 901, 0, n, 0, n, rfl, rfl, .inl rfl⟩, trivial⟩
      repeat' (first | exact RetRelL.nil | refine RetRel.nil rfl ?_ | refine RetRelL.cons ?_ ?_ | refine rr_tup ?_ | refine rr_agg ?_ | refine rr_own rfl ?_ | exact RetRel.arg | exact RetRel.argc | refine rr_t ?_)
      all_goals rfl
    simp only [Bool.not_eq_false'] at h3
    have hVk := h3
    refine V1 ?_
    -- two rows change places
    refine awp_loop (X := Nat) (fun c => c ≤ n) (fun c => [(0, .argo 0 900 0 (n * n)), (1, .argo 1 901 0 n), (6, .t (.v (.int .i64 (n : Nat)))), (7, .t (.v (.int .i64 (k : Nat)))), (8, .t (.v (.int .i64 (p : Nat)))), (10, .t (.v (.int .i64 (c : Nat))))])
      (fun c => [(900, .sl 30 (.fl (flatA n (gSc A k p c)))), (901, .sl 30 (.fl (colB n (A))))]) (fun c => n - c)
      0 ⟨by omega, fun i => i, ⟨rfl, rfl, rfl, rfl, rfl, rfl, trivial⟩, ⟨sl_eq (by rw [gSc_0]), rfl, trivial⟩, injOn_id _⟩ (fun c hc => ?_)
    have hal := flatA_len n (gSc A k p c)
    refine V1 ?_
    refine awp_if rfl (fun h4 => ?_) (fun h4 => ?_)
    · simp only [icmp, decide_eq_true_eq] at h4
      have hcn : c < n := by omega
      have hb1 := flat_lt hk hcn
      have hb3 := flat_lt hpn hcn
      have g3 := flatA_get (M := gSc A k p c) hk hcn
      have g4 := flatA_get (M := gSc A k p c) hpn hcn
      rw [gSc_r (Nat.le_refl c)] at g3 g4
      refine V1 ?_
      (first | (refine w_r (q_mulN (a := k) (b := n) (by omega) rfl rfl rfl) (h := ?_)) | (refine y_r (q_mulN (a := k) (b := n) (by omega) rfl rfl rfl) (h := ?_)))
      refine V1 ?_
      (first | (refine w_r (q_mulN (a := k) (b := n) (by omega) rfl rfl rfl) (h := ?_)) | (refine y_r (q_mulN (a := k) (b := n) (by omega) rfl rfl rfl) (h := ?_)))
      refine V1 ?_
      (first | (refine w_r (q_mulN (a := p) (b := n) (by omega) rfl rfl rfl) (h := ?_)) | (refine y_r (q_mulN (a := p) (b := n) (by omega) rfl rfl rfl) (h := ?_)))
      refine V1 ?_
      rw [Nat.zero_add (k * n + c), Nat.zero_add (p * n + c), g3, g4, flatA_set hk hcn]
      have hal2 := flatA_len n (upM (gSc A k p c) k c (A p c))
      (first | (refine w_r (q_mulN (a := p) (b := n) (by omega) rfl rfl rfl) (h := ?_)) | (refine y_r (q_mulN (a := p) (b := n) (by omega) rfl rfl rfl) (h := ?_)))
      refine V1 ?_
      exact ⟨c + 1, by omega, by omega, fun i => i, ⟨rfl, rfl, rfl, rfl, rfl, iE9' (by omega), trivial⟩, ⟨sl_eq (congrArg T.fl (by rw [Nat.zero_add, flatA_set hpn hcn, gSc_up])), rfl, trivial⟩, injOn_id _⟩
    simp only [icmp, decide_eq_false_iff_not] at h4
    obtain rfl : n = c := by omega
    rw [gSc_all] at hal ⊢
    have gb1 := colB_get (M := A) hk
    have gb2 := colB_get (M := A) hpn
    have hsc := gS_col (M := A) hk hpn
    have hsl : ((colB n A).set (0 + k) ((colB n A).getD (0 + p) 0)).length = n := by rw [List.length_set, colB_len]
    refine V1 ?_
    rw [Nat.zero_add, Nat.zero_add, gb1, gb2, hsc]
    have hB := gS_FM (k := k) (p := p) hK
    generalize hBd : gS A k p = B at *
    have hal := flatA_len n B
    have hbl := colB_len n B
    refine V1 ?_
    -- the rows below
    refine awp_loop (X := Nat) (fun r => k + 1 ≤ r ∧ r ≤ n) (fun r => [(0, .argo 0 900 0 (n * n)), (1, .argo 1 901 0 n), (6, .t (.v (.int .i64 (n : Nat)))), (7, .t (.v (.int .i64 (k : Nat)))), (13, .t (.v (.int .i64 (r : Nat))))])
      (fun r => [(900, .sl 30 (.fl (flatA n (gEr B k r)))), (901, .sl 30 (.fl (colB n (gEr B k r))))]) (fun r => n - r)
      (k + 1) ⟨⟨by omega, by omega⟩, fun i => i, ⟨rfl, rfl, rfl, rfl, iE9' (by omega), trivial⟩, ⟨sl_eq (by rw [gEr_0]), sl_eq (by rw [gEr_0]), trivial⟩, injOn_id _⟩ (fun r hr => ?_)
    obtain ⟨hr1, hr2⟩ := hr
    have hal := flatA_len n (gEr B k r)
    have hbl := colB_len n (gEr B k r)
    refine V1 ?_
    refine awp_if rfl (fun h4 => ?_) (fun h4 => ?_)
    · simp only [icmp, decide_eq_true_eq] at h4
      have hrn : r < n := by omega
      have hkr : k < r := by omega
      have hb1 := flat_lt hrn hk
      have g1 := flatA_get (M := gEr B k r) hrn hk
      have g2 := flatA_get (M := gEr B k r) hk hk
      rw [gEr_r] at g1
      rw [gEr_k hkr] at g2
      refine V1 ?_
      (first | (refine w_r (q_mulN (a := r) (b := n) (by omega) rfl rfl rfl) (h := ?_)) | (refine y_r (q_mulN (a := r) (b := n) (by omega) rfl rfl rfl) (h := ?_)))
      refine V1 ?_
      (first | (refine w_r (q_mulN (a := k) (b := n) (by omega) rfl rfl rfl) (h := ?_)) | (refine y_r (q_mulN (a := k) (b := n) (by omega) rfl rfl rfl) (h := ?_)))
      refine V1 ?_
      rw [Nat.zero_add (r * n + k), Nat.zero_add (k * n + k), g1, g2]
      refine V1 ?_
      refine awp_loop (X := Nat) (fun c => k + 1 ≤ c ∧ c ≤ n) (fun c => [(0, .argo 0 900 0 (n * n)), (1, .argo 1 901 0 n), (6, .t (.v (.int .i64 (n : Nat)))), (7, .t (.v (.int .i64 (k : Nat)))), (13, .t (.v (.int .i64 (r : Nat)))), (14, .t (.f .f32 (fop .quo .f32 (B r k) (B k k)))), (15, .t (.v (.int .i64 (c : Nat))))])
        (fun c => [(900, .sl 30 (.fl (flatA n (gErc B k r c)))), (901, .sl 30 (.fl (colB n (gEr B k r))))]) (fun c => n - c)
        (k + 1) ⟨⟨by omega, by omega⟩, fun i => i, ⟨rfl, rfl, rfl, rfl, rfl, rfl, iE9' (by omega), trivial⟩, ⟨sl_eq (by rw [gErc_0]), rfl, trivial⟩, injOn_id _⟩ (fun c hc => ?_)
      obtain ⟨hc1, hc2⟩ := hc
      have hal := flatA_len n (gErc B k r c)
      refine V1 ?_
      refine awp_if rfl (fun h5 => ?_) (fun h5 => ?_)
      · simp only [icmp, decide_eq_true_eq] at h5
        have hcn : c < n := by omega
        have hb1 := flat_lt hrn hcn
        have hb2 := flat_lt hk hcn
        have g1 := flatA_get (M := gErc B k r c) hrn hcn
        have g2 := flatA_get (M := gErc B k r c) hk hcn
        rw [gErc_r (Nat.le_refl c)] at g1
        rw [gErc_k hkr] at g2
        refine V1 ?_
        (first | (refine w_r (q_mulN (a := r) (b := n) (by omega) rfl rfl rfl) (h := ?_)) | (refine y_r (q_mulN (a := r) (b := n) (by omega) rfl rfl rfl) (h := ?_)))
        refine V1 ?_
        (first | (refine w_r (q_mulN (a := r) (b := n) (by omega) rfl rfl rfl) (h := ?_)) | (refine y_r (q_mulN (a := r) (b := n) (by omega) rfl rfl rfl) (h := ?_)))
        refine V1 ?_
        (first | (refine w_r (q_mulN (a := k) (b := n) (by omega) rfl rfl rfl) (h := ?_)) | (refine y_r (q_mulN (a := k) (b := n) (by omega) rfl rfl rfl) (h := ?_)))
        refine V1 ?_
        exact ⟨c + 1, by omega, ⟨by omega, by omega⟩, fun i => i, ⟨rfl, rfl, rfl, rfl, rfl, rfl, iE9' (by omega), trivial⟩, ⟨sl_eq (congrArg T.fl (by rw [Nat.zero_add, Nat.zero_add, g1, g2, flatA_set hrn hcn, gErc_up hkr (by omega)])), rfl, trivial⟩, injOn_id _⟩
      simp only [icmp, decide_eq_false_iff_not] at h5
      obtain rfl : n = c := by omega
      rw [gErc_all]
      have gb1 := colB_get (M := gEr B k r) hrn
      have gb2 := colB_get (M := gEr B k r) hk
      rw [gEr_r] at gb1
      rw [gEr_k hkr] at gb2
      refine V1 ?_
      exact ⟨r + 1, by omega, ⟨by omega, by omega⟩, fun i => i, ⟨rfl, rfl, rfl, rfl, iE9' (by omega), trivial⟩, ⟨rfl, sl_eq (congrArg T.fl (by rw [Nat.zero_add, Nat.zero_add, gb1, gb2, gEr_col hrn hkr hk])), trivial⟩, injOn_id _⟩
    simp only [icmp, decide_eq_false_iff_not] at h4
    obtain rfl : n = r := by omega
    rw [(gEr_all n B k).1, (gEr_all n B k).2]
    have hE := gE_FM (k := k) hB
    generalize hEd : gE B k = E at *
    have hal := flatA_len n E
    have hbl := colB_len n E
    have hFE := flat_F n E
    refine V1 ?_
    (first | (refine c_q (l02Finite_c (flatA n E) (by omega)) (h := ?_)) | (refine z_q (l02Finite_c (flatA n E) (by omega)) (h := ?_)))
    refine V1 ?_
    have hbad : gF n E = false → gZ n M = E ∧ gOk n M n = false := fun hf => by
      obtain ⟨z1, z2⟩ := gN_f hk hok (by rw [hA]; exact hVk) (by rw [hIS]; exact hf)
      exact ⟨by rw [gZ_def, z1, hIS], z2⟩
    refine lex_if rfl rfl rfl (fun h5 => ?_) (fun h5 => ?_)
    · simp only [Bool.not_eq_true'] at h5
      rw [h5, Bool.false_and] at hFE
      obtain ⟨z1, z2⟩ := hbad hFE.symm
      refine V1 ?_
      refine awp_ifT rfl rfl ?_
      refine V1 ?_
      rw [solF_no z2, z1]
      refine mret_ok tyOk (by first | exact .inr rfl | exact .inl rfl) (piL [(900, 900), (901, 901)]) rfl (by repeat (first | exact .nil | (apply ResAl.cons; first | exact .tmp | exact .cell rfl rfl rfl rfl rfl rfl | exact .cell1 rfl rfl rfl rfl rfl))) ?_ ⟨rfl, rfl, ⟨_, _, rfl, rfl, rfl⟩, trivial⟩ (injO_dec rfl)
        ⟨⟨0, 0, 900, 0, n * n, 0, n * n, rfl, rfl, .inl rfl⟩, ⟨1, 1, 901, 0, n, 0, n, rfl, rfl, .inl rfl⟩, trivial⟩
      repeat' (first | exact RetRelL.nil | refine RetRel.nil rfl ?_ | refine RetRelL.cons ?_ ?_ | refine rr_tup ?_ | refine rr_agg ?_ | refine rr_own rfl ?_ | exact RetRel.arg | exact RetRel.argc | refine rr_t ?_)
      all_goals rfl
    simp only [Bool.not_eq_false'] at h5
    rw [h5, Bool.true_and] at hFE
    refine V1 ?_
    (first | (refine c_q (l02Finite_c (colB n E) (by omega)) (h := ?_)) | (refine z_q (l02Finite_c (colB n E) (by omega)) (h := ?_)))
    refine V1 ?_
    refine awp_if rfl (fun h6 => ?_) (fun h6 => ?_)
    · simp only [Bool.not_eq_true'] at h6
      rw [h6] at hFE
      obtain ⟨z1, z2⟩ := hbad hFE.symm
      refine V1 ?_
      rw [solF_no z2, z1]
      refine mret_ok tyOk (by first | exact .inr rfl | exact .inl rfl) (piL [(900, 900), (901, 901)]) rfl (by repeat (first | exact .nil | (apply ResAl.cons; first | exact .tmp | exact .cell rfl rfl rfl rfl rfl rfl | exact .cell1 rfl rfl rfl rfl rfl))) ?_ ⟨rfl, rfl, ⟨_, _, rfl, rfl, rfl⟩, trivial⟩ (injO_dec rfl)
        ⟨⟨0, 0, 900, 0, n * n, 0, n * n, rfl, rfl, .inl rfl⟩, ⟨1, 1, 901, 0, n, 0, n, rfl, rfl, .inl rfl⟩, trivial⟩
      repeat' (first | exact RetRelL.nil | refine RetRel.nil rfl ?_ | refine RetRelL.cons ?_ ?_ | refine rr_tup ?_ | refine rr_agg ?_ | refine rr_own rfl ?_ | exact RetRel.arg | exact RetRel.argc | refine rr_t ?_)
      all_goals rfl
    simp only [Bool.not_eq_false'] at h6
    rw [h6] at hFE
    refine V1 ?_
    exact ⟨k + 1, by omega, ⟨by omega, gOk_up hok (by rw [hA]; exact hVk) (by rw [hIS]; exact hFE.symm)⟩, fun i => i, ⟨rfl, rfl, rfl, iE9' (by omega), trivial⟩, ⟨sl_eq (by rw [hIS]), sl_eq (by rw [hIS]), trivial⟩, injOn_id _⟩
  simp only [icmp, decide_eq_false_iff_not] at h
  obtain rfl : n = k := by omega
  have hZ : gZ n M = A := by rw [gZ_def, gN_ok h1 hok, hA]
  rw [solF_yes hok, hZ, hA]
  clear hZ hok hM h0
  refine V1 ?_
  refine w_rs (q_make n tyOk rfl rfl rfl rfl rfl rfl rfl rfl rfl rfl rfl (by simp only []; omega) (by omega)) (h := ?_)
  refine V1 ?_
  refine awp_loop (X := Nat) (fun t => t ≤ n) (fun t => [(0, .argo 0 900 0 (n * n)), (1, .argo 1 901 0 n), (6, .t (.v (.int .i64 (n : Nat)))), (16, .own 197 0 n), (17, .t (.v (.int .i64 ((n : Int) - 1 - (t : Nat)))))])
    (fun t => [(900, .sl 30 (.fl (flatA n (A)))), (901, .sl 30 (.fl (colB n (A)))), (197, .sl 30 (.fl (List.replicate (n - t) 0 ++ gB n A t)))]) (fun t => n - t)
    0 ⟨by omega, fun i => i, ⟨rfl, rfl, rfl, rfl, iE9' (by omega), trivial⟩, ⟨rfl, rfl, sl_eq (by rw [gB_0, List.append_nil]; rfl), trivial⟩, injOn_id _⟩ (fun t ht => ?_)
  have hbt := gB_len n A t
  have hxl : (List.replicate (n - t) 0 ++ gB n A t).length = n := by rw [List.length_append, List.length_replicate, hbt]; omega
  refine V1 ?_
  refine awp_if rfl (fun h2 => ?_) (fun h2 => ?_)
  · simp only [icmp, decide_eq_true_eq] at h2
    have htn : t < n := by omega
    have hke : ((n : Int) - 1 - (t : Nat)) = ((n - (t + 1) : Nat) : Int) := by omega
    have hbs := gB_S n A t
    have hst := gB_set (x := fop .quo .f32 (gT A (n - (t + 1)) n (gB n A t) t) (A (n - (t + 1)) (n - (t + 1)))) hbt htn
    have hat := fun i (hi : i < t) => gB_at (xs := gB n A t) hbt (by omega : t ≤ n) hi
    rw [hke]
    generalize hkd : n - (t + 1) = k at *
    have hk : k < n := by omega
    have gb := colB_get (M := A) hk
    refine V1 ?_
    rw [Nat.zero_add, gb]
    refine V1 ?_
    refine awp_loop (X := Nat) (fun i => i ≤ t) (fun i => [(0, .argo 0 900 0 (n * n)), (1, .argo 1 901 0 n), (6, .t (.v (.int .i64 (n : Nat)))), (16, .own 197 0 n), (17, .t (.v (.int .i64 (k : Nat)))), (18, .t (.f .f32 (gT A k n (gB n A t) i))), (19, .t (.v (.int .i64 (k + 1 + i : Nat))))])
      (fun i => [(900, .sl 30 (.fl (flatA n (A)))), (901, .sl 30 (.fl (colB n (A)))), (197, .sl 30 (.fl (List.replicate (n - t) 0 ++ gB n A t)))]) (fun i => t - i)
      0 ⟨by omega, fun i => i, ⟨rfl, rfl, rfl, rfl, rfl, fE2 (gT_0 _ _ _ _).symm, iE9' (by omega), trivial⟩, ⟨rfl, rfl, rfl, trivial⟩, injOn_id _⟩ (fun i hi => ?_)
    refine V1 ?_
    refine awp_if rfl (fun h3 => ?_) (fun h3 => ?_)
    · simp only [icmp, decide_eq_true_eq] at h3
      have hit : i < t := by omega
      have hkc : k + 1 + i < n := by omega
      have hb := flat_lt hk hkc
      have g1 := flatA_get (M := A) hk hkc
      have g2 := hat i hit
      rw [show n - t + i = k + 1 + i by omega] at g2
      refine V1 ?_
      (first | (refine w_r (q_mulN (a := k) (b := n) (by omega) rfl rfl rfl) (h := ?_)) | (refine y_r (q_mulN (a := k) (b := n) (by omega) rfl rfl rfl) (h := ?_)))
      refine V1 ?_
      exact ⟨i + 1, by omega, by omega, fun i => i, ⟨rfl, rfl, rfl, rfl, rfl, fE2 (by rw [Nat.zero_add, Nat.zero_add, g1, g2, gT_S]), iE9' (by omega), trivial⟩, ⟨rfl, rfl, rfl, trivial⟩, injOn_id _⟩
    simp only [icmp, decide_eq_false_iff_not] at h3
    obtain rfl : i = t := by omega
    have hb := flat_lt hk hk
    have g1 := flatA_get (M := A) hk hk
    refine V1 ?_
    (first | (refine w_r (q_mulN (a := k) (b := n) (by omega) rfl rfl rfl) (h := ?_)) | (refine y_r (q_mulN (a := k) (b := n) (by omega) rfl rfl rfl) (h := ?_)))
    refine V1 ?_
    exact ⟨i + 1, by omega, by omega, fun i => i, ⟨rfl, rfl, rfl, rfl, iE9' (by omega), trivial⟩, ⟨rfl, rfl, sl_eq (congrArg T.fl (by rw [Nat.zero_add, Nat.zero_add, g1, hst, ← hbs, hkd])), trivial⟩, injOn_id _⟩
  simp only [icmp, decide_eq_false_iff_not] at h2
  obtain rfl : n = t := by omega
  have hx0 : List.replicate (n - n) 0 ++ gB n A n = gB n A n := by rw [Nat.sub_self]; rfl
  rw [hx0]
  refine V1 ?_
  (first | (refine c_q (l02Finite_c (gB n A n) (by omega)) (h := ?_)) | (refine z_q (l02Finite_c (gB n A n) (by omega)) (h := ?_)))
  refine V1 ?_
  refine mret_ok tyOk (by first | exact .inr rfl | exact .inl rfl) (piL [(0, 197), (900, 900), (901, 901)]) rfl (by repeat (first | exact .nil | (apply ResAl.cons; first | exact .tmp | exact .cell rfl rfl rfl rfl rfl rfl | exact .cell1 rfl rfl rfl rfl rfl))) ?_ ⟨rfl, rfl, rfl, trivial⟩ (injO_dec rfl)
    ⟨⟨0, 0, 900, 0, n * n, 0, n * n, rfl, rfl, .inl rfl⟩, ⟨1, 1, 901, 0, n, 0, n, rfl, rfl, .inl rfl⟩, trivial⟩
  repeat' (first | exact RetRelL.nil | refine RetRel.nil rfl ?_ | refine RetRelL.cons ?_ ?_ | refine rr_tup ?_ | refine rr_agg ?_ | refine rr_own rfl ?_ | exact RetRel.arg | exact RetRel.argc | refine rr_t ?_)
  all_goals first | rfl | exact hbt.symm
end Go.Proofs.Ytpdnjcblkjjegaa

