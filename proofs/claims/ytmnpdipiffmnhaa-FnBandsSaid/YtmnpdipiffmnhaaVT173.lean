import Derived.Test.YtmnpdipiffmnhaaVT154
set_option linter.unusedVariables false
set_option linter.unusedSimpArgs false
set_option maxRecDepth 20000
set_option maxHeartbeats 8000000
namespace Go.Proofs.Ytmnpdipiffmnhaa
open Go.Aw

/-! ### bands of ways ahead: the program's, its parts -/
theorem bnNext_c (x : Nat) (hx : x < 4294967296) : TCall Try.prog 137 [.v (.int .i64 (x : Nat))] (.t (.v (.int .i64 ((sdN x : Nat) : Int)))) [] := by
  rw [← sdN_int]
  refine tcall_of Try.func137 rfl (by kernel_rfl) (Nat.le_of_ble_eq_true rfl) rfl ?_
  simp only [argsL, argAV, argCs, argS]
  repeat (first | (refine w_q (h := ?_)) | (refine w_s (h := ?_)) | (refine w_t (h := ?_)) | (refine w_k (h := ?_)) | (refine y_q (h := ?_)) | (refine y_s (h := ?_)) | (refine y_t (h := ?_)) | (refine y_k (h := ?_)) | (refine lex_nil (by kernel_rfl) ?_) | (refine awp_sq ?_) | (refine awp_rg ?_) | (refine awp_rd (by kernel_rfl) (by kernel_rfl) ?_) | (refine awp_block ?_) | (refine awp_exit ?_) | (refine awp_ret ?_) | (refine awp_skip ?_))
  (first | (refine w_r (q_mul rfl rfl rfl (by omega)) (h := ?_)) | (refine y_r (q_mul rfl rfl rfl (by omega)) (h := ?_)))
  repeat (first | (refine w_q (h := ?_)) | (refine w_s (h := ?_)) | (refine w_t (h := ?_)) | (refine w_k (h := ?_)) | (refine y_q (h := ?_)) | (refine y_s (h := ?_)) | (refine y_t (h := ?_)) | (refine y_k (h := ?_)) | (refine lex_nil (by kernel_rfl) ?_) | (refine awp_sq ?_) | (refine awp_rg ?_) | (refine awp_rd (by kernel_rfl) (by kernel_rfl) ?_) | (refine awp_block ?_) | (refine awp_exit ?_) | (refine awp_ret ?_) | (refine awp_skip ?_))
  (first | (refine w_r (q_rem rfl rfl rfl (by omega) (by omega)) (h := ?_)) | (refine y_r (q_rem rfl rfl rfl (by omega) (by omega)) (h := ?_)))
  repeat (first | (refine w_q (h := ?_)) | (refine w_s (h := ?_)) | (refine w_t (h := ?_)) | (refine w_k (h := ?_)) | (refine y_q (h := ?_)) | (refine y_s (h := ?_)) | (refine y_t (h := ?_)) | (refine y_k (h := ?_)) | (refine lex_nil (by kernel_rfl) ?_) | (refine awp_sq ?_) | (refine awp_rg ?_) | (refine awp_rd (by kernel_rfl) (by kernel_rfl) ?_) | (refine awp_block ?_) | (refine awp_exit ?_) | (refine awp_ret ?_) | (refine awp_skip ?_))
  (refine ret_ok tyOk (by first | exact .inr rfl | exact .inl rfl) pi0 rfl (by first | exact .cons (by first | exact .tmp | exact .cell rfl rfl rfl rfl rfl rfl | exact .cell1 rfl rfl rfl rfl rfl) .nil | exact .cons (by first | exact .tmp | exact .cell rfl rfl rfl rfl rfl rfl | exact .cell1 rfl rfl rfl rfl rfl) (.cons (by first | exact .tmp | exact .cell rfl rfl rfl rfl rfl rfl | exact .cell1 rfl rfl rfl rfl rfl) .nil) | exact .cons (by first | exact .tmp | exact .cell rfl rfl rfl rfl rfl rfl | exact .cell1 rfl rfl rfl rfl rfl) (.cons (by first | exact .tmp | exact .cell rfl rfl rfl rfl rfl rfl | exact .cell1 rfl rfl rfl rfl rfl) (.cons (by first | exact .tmp | exact .cell rfl rfl rfl rfl rfl rfl | exact .cell1 rfl rfl rfl rfl rfl) .nil)) | exact .cons (by first | exact .tmp | exact .cell rfl rfl rfl rfl rfl rfl | exact .cell1 rfl rfl rfl rfl rfl) (.cons (by first | exact .tmp | exact .cell rfl rfl rfl rfl rfl rfl | exact .cell1 rfl rfl rfl rfl rfl) (.cons (by first | exact .tmp | exact .cell rfl rfl rfl rfl rfl rfl | exact .cell1 rfl rfl rfl rfl rfl) (.cons (by first | exact .tmp | exact .cell rfl rfl rfl rfl rfl rfl | exact .cell1 rfl rfl rfl rfl rfl) .nil)))) ?_ trivial (injO_0 _); (repeat' (first | exact RetRelL.nil | (refine RetRel.nil rfl ?_) | refine RetRelL.cons ?_ ?_ | refine rr_tup ?_ | refine rr_agg ?_ | refine rr_own rfl ?_ | exact RetRel.arg | exact RetRel.argc | refine rr_t ?_)); all_goals rfl)
theorem bnDraw_c (x : Nat) (m : List Nat) (hx : x < 4294967296) (hm : m.length ≤ 96) : TCall Try.prog 139 [.v (.int .i64 (x : Nat)), .v (.int .i64 (m.length : Nat))] (.t (.v (.int .i64 ((miA m x : Nat) : Int)))) [] := by
  rw [← miA_int]
  have hmul : (x : Int) * (m.length : Int) ≤ 9223372036854775807 := by
    have e := Nat.mul_le_mul (Nat.le_of_lt hx) hm
    have e2 : ((x * m.length : Nat) : Int) = (x : Int) * (m.length : Int) := Int.natCast_mul _ _
    rw [← e2]; omega
  have hnn : 0 ≤ (x : Int) * (m.length : Int) := by
    have e2 : ((x * m.length : Nat) : Int) = (x : Int) * (m.length : Int) := Int.natCast_mul _ _
    rw [← e2]; omega
  refine tcall_of Try.func139 rfl (by kernel_rfl) (Nat.le_of_ble_eq_true rfl) rfl ?_
  simp only [argsL, argAV, argCs, argS]
  repeat (first | (refine w_q (h := ?_)) | (refine w_s (h := ?_)) | (refine w_t (h := ?_)) | (refine w_k (h := ?_)) | (refine y_q (h := ?_)) | (refine y_s (h := ?_)) | (refine y_t (h := ?_)) | (refine y_k (h := ?_)) | (refine lex_nil (by kernel_rfl) ?_) | (refine awp_sq ?_) | (refine awp_rg ?_) | (refine awp_rd (by kernel_rfl) (by kernel_rfl) ?_) | (refine awp_block ?_) | (refine awp_exit ?_) | (refine awp_ret ?_) | (refine awp_skip ?_))
  (first | (refine w_r (q_mul rfl rfl rfl ⟨by omega, hmul⟩) (h := ?_)) | (refine y_r (q_mul rfl rfl rfl ⟨by omega, hmul⟩) (h := ?_)))
  repeat (first | (refine w_q (h := ?_)) | (refine w_s (h := ?_)) | (refine w_t (h := ?_)) | (refine w_k (h := ?_)) | (refine y_q (h := ?_)) | (refine y_s (h := ?_)) | (refine y_t (h := ?_)) | (refine y_k (h := ?_)) | (refine lex_nil (by kernel_rfl) ?_) | (refine awp_sq ?_) | (refine awp_rg ?_) | (refine awp_rd (by kernel_rfl) (by kernel_rfl) ?_) | (refine awp_block ?_) | (refine awp_exit ?_) | (refine awp_ret ?_) | (refine awp_skip ?_))
  (first | (refine w_r (q_quo rfl rfl rfl hnn hmul (by omega)) (h := ?_)) | (refine y_r (q_quo rfl rfl rfl hnn hmul (by omega)) (h := ?_)))
  repeat (first | (refine w_q (h := ?_)) | (refine w_s (h := ?_)) | (refine w_t (h := ?_)) | (refine w_k (h := ?_)) | (refine y_q (h := ?_)) | (refine y_s (h := ?_)) | (refine y_t (h := ?_)) | (refine y_k (h := ?_)) | (refine lex_nil (by kernel_rfl) ?_) | (refine awp_sq ?_) | (refine awp_rg ?_) | (refine awp_rd (by kernel_rfl) (by kernel_rfl) ?_) | (refine awp_block ?_) | (refine awp_exit ?_) | (refine awp_ret ?_) | (refine awp_skip ?_))
  (refine ret_ok tyOk (by first | exact .inr rfl | exact .inl rfl) pi0 rfl (by first | exact .cons (by first | exact .tmp | exact .cell rfl rfl rfl rfl rfl rfl | exact .cell1 rfl rfl rfl rfl rfl) .nil | exact .cons (by first | exact .tmp | exact .cell rfl rfl rfl rfl rfl rfl | exact .cell1 rfl rfl rfl rfl rfl) (.cons (by first | exact .tmp | exact .cell rfl rfl rfl rfl rfl rfl | exact .cell1 rfl rfl rfl rfl rfl) .nil) | exact .cons (by first | exact .tmp | exact .cell rfl rfl rfl rfl rfl rfl | exact .cell1 rfl rfl rfl rfl rfl) (.cons (by first | exact .tmp | exact .cell rfl rfl rfl rfl rfl rfl | exact .cell1 rfl rfl rfl rfl rfl) (.cons (by first | exact .tmp | exact .cell rfl rfl rfl rfl rfl rfl | exact .cell1 rfl rfl rfl rfl rfl) .nil)) | exact .cons (by first | exact .tmp | exact .cell rfl rfl rfl rfl rfl rfl | exact .cell1 rfl rfl rfl rfl rfl) (.cons (by first | exact .tmp | exact .cell rfl rfl rfl rfl rfl rfl | exact .cell1 rfl rfl rfl rfl rfl) (.cons (by first | exact .tmp | exact .cell rfl rfl rfl rfl rfl rfl | exact .cell1 rfl rfl rfl rfl rfl) (.cons (by first | exact .tmp | exact .cell rfl rfl rfl rfl rfl rfl | exact .cell1 rfl rfl rfl rfl rfl) .nil)))) ?_ trivial (injO_0 _); (repeat' (first | exact RetRelL.nil | (refine RetRel.nil rfl ?_) | refine RetRelL.cons ?_ ?_ | refine rr_tup ?_ | refine rr_agg ?_ | refine rr_own rfl ?_ | exact RetRel.arg | exact RetRel.argc | refine rr_t ?_)); all_goals rfl)
theorem bnGuess_c (s : ST) (h : SH) (hv : validS s = true) (hh : validH h = true) : TCall Try.prog 138 [Tst s, Tsh h] (.tup [.t (.f .f32 (numF (gsF s h)).1), .t (.v (.bool (numF (gsF s h)).2))]) [] := by
  have hvt := validS_at hv
  have hl := validS_len hv
  refine tcall_of Try.func138 rfl (by kernel_rfl) (Nat.le_of_ble_eq_true rfl) rfl ?_
  simp only [argsL, argAV, argCs, argS]
  repeat (first | (refine w_q (h := ?_)) | (refine w_s (h := ?_)) | (refine w_t (h := ?_)) | (refine w_k (h := ?_)) | (refine y_q (h := ?_)) | (refine y_s (h := ?_)) | (refine y_t (h := ?_)) | (refine y_k (h := ?_)) | (refine lex_nil (by kernel_rfl) ?_) | (refine awp_sq ?_) | (refine awp_rg ?_) | (refine awp_rd (by kernel_rfl) (by kernel_rfl) ?_) | (refine awp_block ?_) | (refine awp_exit ?_) | (refine awp_ret ?_) | (refine awp_skip ?_))
  (first | (refine c_q (validState_c s (by omega)) (h := ?_)) | (refine z_q (validState_c s (by omega)) (h := ?_)))
  rw [hv]
  repeat (first | (refine w_q (h := ?_)) | (refine w_s (h := ?_)) | (refine w_t (h := ?_)) | (refine w_k (h := ?_)) | (refine y_q (h := ?_)) | (refine y_s (h := ?_)) | (refine y_t (h := ?_)) | (refine y_k (h := ?_)) | (refine lex_nil (by kernel_rfl) ?_) | (refine awp_sq ?_) | (refine awp_rg ?_) | (refine awp_rd (by kernel_rfl) (by kernel_rfl) ?_) | (refine awp_block ?_) | (refine awp_exit ?_) | (refine awp_ret ?_) | (refine awp_skip ?_))
  (first | (refine c_q (validShares_c h) (h := ?_)) | (refine z_q (validShares_c h) (h := ?_)))
  rw [hh]
  repeat (first | (refine w_q (h := ?_)) | (refine w_s (h := ?_)) | (refine w_t (h := ?_)) | (refine w_k (h := ?_)) | (refine y_q (h := ?_)) | (refine y_s (h := ?_)) | (refine y_t (h := ?_)) | (refine y_k (h := ?_)) | (refine lex_nil (by kernel_rfl) ?_) | (refine awp_sq ?_) | (refine awp_rg ?_) | (refine awp_rd (by kernel_rfl) (by kernel_rfl) ?_) | (refine awp_block ?_) | (refine awp_exit ?_) | (refine awp_ret ?_) | (refine awp_skip ?_))
  refine awp_ifF rfl rfl ?_
  repeat (first | (refine w_q (h := ?_)) | (refine w_s (h := ?_)) | (refine w_t (h := ?_)) | (refine w_k (h := ?_)) | (refine y_q (h := ?_)) | (refine y_s (h := ?_)) | (refine y_t (h := ?_)) | (refine y_k (h := ?_)) | (refine lex_nil (by kernel_rfl) ?_) | (refine awp_sq ?_) | (refine awp_rg ?_) | (refine awp_rd (by kernel_rfl) (by kernel_rfl) ?_) | (refine awp_block ?_) | (refine awp_exit ?_) | (refine awp_ret ?_) | (refine awp_skip ?_))
  (first | (refine c_q (guess_c s h hvt.1 hl) (h := ?_)) | (refine z_q (guess_c s h hvt.1 hl) (h := ?_)))
  repeat (first | (refine w_q (h := ?_)) | (refine w_s (h := ?_)) | (refine w_t (h := ?_)) | (refine w_k (h := ?_)) | (refine y_q (h := ?_)) | (refine y_s (h := ?_)) | (refine y_t (h := ?_)) | (refine y_k (h := ?_)) | (refine lex_nil (by kernel_rfl) ?_) | (refine awp_sq ?_) | (refine awp_rg ?_) | (refine awp_rd (by kernel_rfl) (by kernel_rfl) ?_) | (refine awp_block ?_) | (refine awp_exit ?_) | (refine awp_ret ?_) | (refine awp_skip ?_))
  (first | (refine c_q (ifFinite_c _) (h := ?_)) | (refine z_q (ifFinite_c _) (h := ?_)))
  repeat (first | (refine w_q (h := ?_)) | (refine w_s (h := ?_)) | (refine w_t (h := ?_)) | (refine w_k (h := ?_)) | (refine y_q (h := ?_)) | (refine y_s (h := ?_)) | (refine y_t (h := ?_)) | (refine y_k (h := ?_)) | (refine lex_nil (by kernel_rfl) ?_) | (refine awp_sq ?_) | (refine awp_rg ?_) | (refine awp_rd (by kernel_rfl) (by kernel_rfl) ?_) | (refine awp_block ?_) | (refine awp_exit ?_) | (refine awp_ret ?_) | (refine awp_skip ?_))
  (refine ret_ok tyOk (by first | exact .inr rfl | exact .inl rfl) pi0 rfl (by first | exact .cons (by first | exact .tmp | exact .cell rfl rfl rfl rfl rfl rfl | exact .cell1 rfl rfl rfl rfl rfl) .nil | exact .cons (by first | exact .tmp | exact .cell rfl rfl rfl rfl rfl rfl | exact .cell1 rfl rfl rfl rfl rfl) (.cons (by first | exact .tmp | exact .cell rfl rfl rfl rfl rfl rfl | exact .cell1 rfl rfl rfl rfl rfl) .nil) | exact .cons (by first | exact .tmp | exact .cell rfl rfl rfl rfl rfl rfl | exact .cell1 rfl rfl rfl rfl rfl) (.cons (by first | exact .tmp | exact .cell rfl rfl rfl rfl rfl rfl | exact .cell1 rfl rfl rfl rfl rfl) (.cons (by first | exact .tmp | exact .cell rfl rfl rfl rfl rfl rfl | exact .cell1 rfl rfl rfl rfl rfl) .nil)) | exact .cons (by first | exact .tmp | exact .cell rfl rfl rfl rfl rfl rfl | exact .cell1 rfl rfl rfl rfl rfl) (.cons (by first | exact .tmp | exact .cell rfl rfl rfl rfl rfl rfl | exact .cell1 rfl rfl rfl rfl rfl) (.cons (by first | exact .tmp | exact .cell rfl rfl rfl rfl rfl rfl | exact .cell1 rfl rfl rfl rfl rfl) (.cons (by first | exact .tmp | exact .cell rfl rfl rfl rfl rfl rfl | exact .cell1 rfl rfl rfl rfl rfl) .nil)))) ?_ trivial (injO_0 _); (repeat' (first | exact RetRelL.nil | (refine RetRel.nil rfl ?_) | refine RetRelL.cons ?_ ?_ | refine rr_tup ?_ | refine rr_agg ?_ | refine rr_own rfl ?_ | exact RetRel.arg | exact RetRel.argc | refine rr_t ?_)); all_goals rfl)
/-! rows of lengths of their own -/
def cW (n f : Nat → Nat) (t : Nat) : AV := if n t = 0 then .t (.v (.slice none 0 0)) else .own (f t) 0 (n t)
def WX (C : Nat) (n f : Nat → Nat) : List AV := (List.range C).map (cW n f)
theorem WX_len (C : Nat) (n f : Nat → Nat) : (WX C n f).length = C := by simp [WX]
theorem WX_get {C t : Nat} {n f : Nat → Nat} (h : t < C) : (WX C n f)[t]? = some (cW n f t) := by simp [WX, h]
theorem WX_good {C : Nat} {n f : Nat → Nat} {vis : List Nat} (h : ∀ t, t < C → 0 < n t → bigN ≤ f t ∨ f t ∈ vis) : GoodN vis (WX C n f) := fun v hv j hj => by
  obtain ⟨t, ht, rfl⟩ := List.mem_map.1 hv
  unfold cW at hj
  split at hj
  · simp [AV.ids] at hj
  · simp only [AV.ids, List.mem_singleton] at hj
    subst hj
    exact h t (List.mem_range.1 ht) (by omega)
theorem WX_bto {C e i : Nat} {n n' f f' : Nat → Nat} {π : Nat → Nat} {η η' : Hp} {vis vis' : List Nat} (h1 : η (π i) = some (.nest e (WX C n f) vis noRem)) (hg : ∀ t, t < C → 0 < n t → bigN ≤ f t ∨ f t ∈ vis) (hn : ∀ t, t < C → n t = n' t) (h : ∀ t, t < C → 0 < n t → f t = π (f' t)) :
    BTo π η η' i (.nest e (WX C n' f') vis' noRem) := by
  refine .inl ⟨_, _, h1, WX_good hg, by rw [WX_len, WX_len], fun k v hv => ?_⟩
  have hk : k < C := by have := (List.getElem?_eq_some_iff.1 hv).1; rwa [WX_len] at this
  rw [WX_get hk] at hv; cases hv
  refine ⟨_, WX_get hk, .inl ?_⟩
  unfold cW
  rw [hn k hk]
  by_cases h0 : n' k = 0
  · rw [if_pos h0, if_pos h0]; rfl
  · rw [if_neg h0, if_neg h0, h k hk (by rw [hn k hk]; omega)]; rfl
theorem WX_set {C k a q : Nat} {n f : Nat → Nat} (hk : k < C) : (WX C n f).set k (.own a 0 (q + 1)) = WX C (up n k (q + 1)) (up f k a) := by
  unfold WX
  refine List.ext_getElem (by simp) fun i h1 h2 => ?_
  simp only [List.length_set, List.length_map, List.length_range] at h1
  rw [List.getElem_set]
  by_cases h : k = i
  · subst h; simp [cW, up_eq]
  · simp [h, cW, up_ne (Ne.symm h)]
def nW (d k : Nat) : Nat → Nat := fun t => if t < k then d + 1 else d
theorem nW_lt {d k t : Nat} (h : t < k) : nW d k t = d + 1 := by simp [nW, h]
theorem nW_ge {d k t : Nat} (h : ¬ t < k) : nW d k t = d := by simp [nW, h]
theorem nW_up (d k t : Nat) : up (nW d k) k (d + 1) t = nW d (k + 1) t := by
  by_cases h : t = k
  · subst h; rw [up_eq, nW_lt (by omega)]
  · rw [up_ne h]
    by_cases h2 : t < k
    · rw [nW_lt h2, nW_lt (by omega)]
    · rw [nW_ge h2, nW_ge (by omega)]
theorem WX_all {C D : Nat} (hD : 1 ≤ D) : WX C (nW D 0) (hid 26) = HX C D (hid 26) := by
  unfold WX HX
  refine List.map_congr_left fun t _ => ?_
  unfold cW
  rw [nW_ge (by omega), if_neg (by omega)]
theorem own_unJ (i a J n : Nat) (hJ : Nat.blt J bigN = true) : AV.own J 0 n = ren (one (hid 26 i) a) (.own J 0 n) := by
  show _ = AV.own (one (hid 26 i) a J) 0 n
  rw [one_ne (Ne.symm (hid_nei J hJ i))]
/-- rows there are -/
def pW (d k : Nat) : Nat → Bool := fun t => decide (0 < nW d k t)
theorem good_hid0 {C : Nat} {n : Nat → Nat} {vis : List Nat} (t : Nat) (_ : t < C) (_ : 0 < n t) : bigN ≤ hid 26 t ∨ hid 26 t ∈ vis := .inl (hid_big 26 t)
theorem good_upJ {k a C : Nat} {n : Nat → Nat} (t : Nat) (_ : t < C) (_ : 0 < n t) : bigN ≤ up (hid 26) k a t ∨ up (hid 26) k a t ∈ [a] := by
  unfold up; split
  · exact .inr (by simp)
  · exact .inl (hid_big 26 t)
end Go.Proofs.Ytmnpdipiffmnhaa

