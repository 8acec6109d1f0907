import Derived.Test.YtmnpdipiffmnhaaYT129
import Derived.Test.YtmnpdipiffmnhaaYT58
import Derived.Test.YtmnpdipiffmnhaaYT111
import Derived.Test.YtmnpdipiffmnhaaYT28
set_option linter.unusedVariables false
set_option linter.unusedSimpArgs false
set_option maxRecDepth 20000
set_option maxHeartbeats 8000000
namespace Go.Proofs.Ytmnpdipiffmnhaa
open Go.Aw

/-! ### small terms are calm -/
theorem absF_rvC {c : Nat} {M : Rat} (h : Bd c M) : Fnt .f32 (absF c) ∧ rv .f32 (absF c) ≤ M := by
  have hn := h.1.notnan
  rw [absF_eq (F32_Fnt h.1)]
  unfold absR
  rw [hn]
  simp only [Bool.false_eq_true, if_false]
  obtain ⟨s, r, hc, hr, hv⟩ := h.1.ex
  have hw := word_parts .f32 s (r := r) (by have := inf_sw .f32; omega)
  have e : c % 2147483648 = r := by have := hw.1; rw [sw32] at this; rw [hc]; exact this
  rw [e]
  have hF := Fn_word .f32 false hr
  rw [word_f] at hF
  have hv2 := rv_word .f32 false hr
  rw [word_f] at hv2
  simp only [Bool.false_eq_true, if_false] at hv2
  refine ⟨hF, ?_⟩
  rw [hv2]
  have h2 := h.2
  rw [hv] at h2
  cases s
  · simp only [Bool.false_eq_true, if_false] at h2; exact h2.1
  · simp only [if_true] at h2; grind
def cmV (l : List Nat) (k i : Nat) : Nat := fop .quo .f32 (fop .add .f32 (l.getD i 0) (fop .mul .f32 (l.getD k 0) (l.getD (k - 1 - i) 0))) (fop .sub .f32 1065353216 (fop .mul .f32 (l.getD k 0) (l.getD k 0)))
def cmN (l : List Nat) (k : Nat) : List Nat := (List.range k).map (cmV l k)
theorem cmN_len (l : List Nat) (k : Nat) : (cmN l k).length = k := by simp [cmN]
theorem cmN_get {l : List Nat} {k i : Nat} (h : i < k) : (cmN l k).getD i 0 = cmV l k i := getD_mapR _ h
def cmL (a : List Nat) : Nat → List Nat
  | 0 => a
  | t + 1 => cmN (cmL a t) (a.length - t - 1)
theorem cmL_len (a : List Nat) : ∀ t, t ≤ a.length → (cmL a t).length = a.length - t
  | 0, _ => rfl
  | t + 1, h => by
    show (cmN _ _).length = _
    rw [cmN_len]; omega
theorem cmV_bd {x y : Nat} (hx : Bd x (3 / 8)) (hy : Bd y (3 / 8)) : Bd (fop .quo .f32 (fop .add .f32 x (fop .mul .f32 y x)) (fop .sub .f32 1065353216 (fop .mul .f32 y y))) (7 / 10) := by
  have hok : ∀ M : Rat, 1 / 1000 ≤ M → M ≤ 1000 → okM M := fun M a b => by unfold okM; constructor <;> grind
  have m1 := mulB (L := 15 / 100) hy hx (hok _ (by decide +kernel) (by decide +kernel)) (by decide +kernel)
  have m2 := mulB (L := 15 / 100) hy hy (hok _ (by decide +kernel) (by decide +kernel)) (by decide +kernel)
  have a1 := addB (L := 53 / 100) hx m1 (hok _ (by decide +kernel) (by decide +kernel)) (by decide +kernel)
  have k1 := k1_rv
  generalize fop .add .f32 x (fop .mul .f32 y x) = u at *
  generalize fop .mul .f32 y y = v at *
  have b2 := m2.2
  obtain ⟨e, p1, p2, p3, p4⟩ := sub32 (M := 2) k1.1 m2.1 (by grind) (by grind) (hok _ (by grind) (by grind))
  have hw : 84 / 100 ≤ rv .f32 (fop .sub .f32 1065353216 v) := by grind
  generalize fop .sub .f32 1065353216 v = w at *
  have b1 := a1.2
  have hz : rv .f32 u / rv .f32 w * rv .f32 w = rv .f32 u := Rat.div_mul_cancel (by grind)
  generalize rv .f32 u / rv .f32 w = z at *
  have hz1 : z ≤ 65 / 100 := by
    rcases Rat.le_total (a := z) (b := 65 / 100) with h | h
    · exact h
    · have q := Rat.mul_nonneg (show 0 ≤ z - 65 / 100 by grind) (show 0 ≤ rv .f32 w - 84 / 100 by grind)
      have e : (z - 65 / 100) * (rv .f32 w - 84 / 100) = z * rv .f32 w - 84 / 100 * z - 65 / 100 * rv .f32 w + 546 / 1000 := by grind
      rw [e, hz] at q
      grind
  have hz2 : -(65 / 100) ≤ z := by
    rcases Rat.le_total (a := -(65 / 100)) (b := z) with h | h
    · exact h
    · have q := Rat.mul_nonneg (show 0 ≤ -z - 65 / 100 by grind) (show 0 ≤ rv .f32 w - 84 / 100 by grind)
      have e : (-z - 65 / 100) * (rv .f32 w - 84 / 100) = -(z * rv .f32 w) + 84 / 100 * z - 65 / 100 * rv .f32 w + 546 / 1000 := by grind
      rw [e, hz] at q
      grind
  obtain ⟨e9, x1, x2, x3, x4⟩ := quo32 (z := z) (M := 65 / 100) a1.1 p4 (by grind) hz hz1 (by grind) (hok _ (by grind) (by grind))
  exact ⟨x4, by grind, by grind⟩
/-- the terms that are looked at are less than 1 -/
theorem cm_lss {a : List Nat} (ha : ∀ i, i < a.length → Bd (a.getD i 0) (3 / 8)) (hl : a.length ≤ 2) {t : Nat} (ht : t < a.length) : fcmp .lss .f32 (absF ((cmL a t).getD (a.length - t - 1) 0)) 1065353216 = true := by
  have hb : Bd ((cmL a t).getD (a.length - t - 1) 0) (7 / 10) := by
    have h' : t = 0 ∨ (t = 1 ∧ a.length = 2) := by omega
    rcases h' with rfl | ⟨rfl, h2⟩
    · exact (ha _ (by omega)).mono (by decide +kernel)
    · show Bd ((cmN a (a.length - 0 - 1)).getD (a.length - 1 - 1) 0) _
      rw [h2, show 2 - 1 - 1 = 0 by rfl, show 2 - 0 - 1 = 1 by rfl, cmN_get (by omega)]
      show Bd (fop .quo .f32 (fop .add .f32 (a.getD 0 0) (fop .mul .f32 (a.getD 1 0) (a.getD (1 - 1 - 0) 0))) (fop .sub .f32 1065353216 (fop .mul .f32 (a.getD 1 0) (a.getD 1 0)))) _
      exact cmV_bd (ha 0 (by omega)) (ha 1 (by omega))
  have h1 := absF_rvC hb
  rw [lss_rv h1.1 k1_rv.1, k1_rv.2]
  exact decide_eq_true (by have := h1.2; grind)
attribute [local irreducible] QRun LexD AWp TCall TMut fop fint fcmp fconv hw fmx dvD absF cmL
theorem isCalm_c {a : List Nat} (ha : ∀ i, i < a.length → Bd (a.getD i 0) (3 / 8)) (hl : a.length ≤ 2) : TCall Try.prog 40 [.fl a] (.tup [.t (.v (.bool true)), .t (.v (.bool true))]) [] := by
  have tT := areTerms_c a (by omega)
  have hT : isTerms a = true := by
    unfold isTerms
    rw [decide_eq_true (show a.length ≤ 6 by omega)]
    refine List.all_eq_true.2 fun c hc => ?_
    obtain ⟨i, hi, rfl⟩ := List.getElem_of_mem hc
    have := finB_Fn (ha i hi).1
    rw [List.getD_eq_getElem?_getD, List.getElem?_eq_getElem hi] at this
    exact this
  rw [hT] at tT
  have hL := cmL_len a
  have hL0 : cmL a 0 = a := by unfold cmL; rfl
  have hLs : ∀ t, cmL a (t + 1) = cmN (cmL a t) (a.length - t - 1) := fun t => by rw [cmL]
  refine tcall_of Try.func40 rfl (by kernel_rfl) (Nat.le_of_ble_eq_true rfl) rfl ?_
  simp only [argsL, argAV, argCs, argS]
  repeat (first | (refine x_q (h := ?_)) | (refine xd_q (h := ?_)) | (refine w_q (h := ?_)) | (refine w_s (h := ?_)) | (refine w_t (h := ?_)) | (refine w_k (h := ?_)) | (refine y_q (h := ?_)) | (refine y_s (h := ?_)) | (refine y_t (h := ?_)) | (refine y_k (h := ?_)) | (refine lex_nil (by kernel_rfl) ?_) | (refine awp_sq ?_) | (refine awp_rg ?_) | (refine awp_rd (by kernel_rfl) (by kernel_rfl) ?_) | (refine awp_block ?_) | (refine awp_exit ?_) | (refine awp_ret ?_) | (refine awp_skip ?_))
  (first | (refine c_q (tT) (h := ?_)) | (refine z_q (tT) (h := ?_)))
  repeat (first | (refine x_q (h := ?_)) | (refine xd_q (h := ?_)) | (refine w_q (h := ?_)) | (refine w_s (h := ?_)) | (refine w_t (h := ?_)) | (refine w_k (h := ?_)) | (refine y_q (h := ?_)) | (refine y_s (h := ?_)) | (refine y_t (h := ?_)) | (refine y_k (h := ?_)) | (refine lex_nil (by kernel_rfl) ?_) | (refine awp_sq ?_) | (refine awp_rg ?_) | (refine awp_rd (by kernel_rfl) (by kernel_rfl) ?_) | (refine awp_block ?_) | (refine awp_exit ?_) | (refine awp_ret ?_) | (refine awp_skip ?_))
  refine awp_ifF rfl rfl ?_
  repeat (first | (refine x_q (h := ?_)) | (refine xd_q (h := ?_)) | (refine w_q (h := ?_)) | (refine w_s (h := ?_)) | (refine w_t (h := ?_)) | (refine w_k (h := ?_)) | (refine y_q (h := ?_)) | (refine y_s (h := ?_)) | (refine y_t (h := ?_)) | (refine y_k (h := ?_)) | (refine lex_nil (by kernel_rfl) ?_) | (refine awp_sq ?_) | (refine awp_rg ?_) | (refine awp_rd (by kernel_rfl) (by kernel_rfl) ?_) | (refine awp_block ?_) | (refine awp_exit ?_) | (refine awp_ret ?_) | (refine awp_skip ?_))
  (first | (refine c_s (cloneF_c a (by omega)) (h := ?_)) | (refine z_s (cloneF_c a (by omega)) (h := ?_)))
  repeat (first | (refine x_q (h := ?_)) | (refine xd_q (h := ?_)) | (refine w_q (h := ?_)) | (refine w_s (h := ?_)) | (refine w_t (h := ?_)) | (refine w_k (h := ?_)) | (refine y_q (h := ?_)) | (refine y_s (h := ?_)) | (refine y_t (h := ?_)) | (refine y_k (h := ?_)) | (refine lex_nil (by kernel_rfl) ?_) | (refine awp_sq ?_) | (refine awp_rg ?_) | (refine awp_rd (by kernel_rfl) (by kernel_rfl) ?_) | (refine awp_block ?_) | (refine awp_exit ?_) | (refine awp_ret ?_) | (refine awp_skip ?_))
  refine awp_loop (X := Nat) (fun t => t ≤ a.length) (fun t => [(4, .own 13 0 (a.length - t))])
    (fun t => [(13, .sl 30 (.fl (cmL a t)))]) (fun t => a.length - t)
    0 ⟨by omega, fun i => i, ⟨rfl, trivial⟩, ⟨sl_eq (congrArg T.fl hL0.symm), trivial⟩, injOn_id _⟩ (fun t ht => ?_)
  have hlt := hL t ht
  rcases Nat.lt_or_ge t a.length with h | h
  · have hc := cm_lss ha hl h
    obtain ⟨k, hk⟩ : ∃ k, k = a.length - t - 1 := ⟨_, rfl⟩
    have hk1 : a.length - t = k + 1 := by omega
    have hs : cmL a (t + 1) = cmN (cmL a t) k := by rw [hLs, hk]
    rw [← hk] at hc
    rw [hk1] at hlt ⊢
    have hN := cmN_len (cmL a t) k
    have hNg : ∀ i, i < k → (cmN (cmL a t) k).getD i 0 = cmV (cmL a t) k i := fun i hi => cmN_get hi
    have hV : ∀ i, cmV (cmL a t) k i = fop .quo .f32 (fop .add .f32 ((cmL a t).getD i 0) (fop .mul .f32 ((cmL a t).getD k 0) ((cmL a t).getD (k - 1 - i) 0))) (fop .sub .f32 1065353216 (fop .mul .f32 ((cmL a t).getD k 0) ((cmL a t).getD k 0))) := fun i => rfl
    generalize cmN (cmL a t) k = nx at *
    generalize cmL a t = l at *
    have kk : ((k + 1 : Nat) : Int) - 1 = (k : Int) := by omega
    repeat (first | (refine x_q (h := ?_)) | (refine xd_q (h := ?_)) | (refine w_q (h := ?_)) | (refine w_s (h := ?_)) | (refine w_t (h := ?_)) | (refine w_k (h := ?_)) | (refine y_q (h := ?_)) | (refine y_s (h := ?_)) | (refine y_t (h := ?_)) | (refine y_k (h := ?_)) | (refine lex_nil (by kernel_rfl) ?_) | (refine awp_sq ?_) | (refine awp_rg ?_) | (refine awp_rd (by kernel_rfl) (by kernel_rfl) ?_) | (refine awp_block ?_) | (refine awp_exit ?_) | (refine awp_ret ?_) | (refine awp_skip ?_))
    refine awp_ifT rfl (by simp only [icmp]; exact decide_eq_true (by omega)) ?_
    repeat (first | (refine x_q (h := ?_)) | (refine xd_q (h := ?_)) | (refine w_q (h := ?_)) | (refine w_s (h := ?_)) | (refine w_t (h := ?_)) | (refine w_k (h := ?_)) | (refine y_q (h := ?_)) | (refine y_s (h := ?_)) | (refine y_t (h := ?_)) | (refine y_k (h := ?_)) | (refine lex_nil (by kernel_rfl) ?_) | (refine awp_sq ?_) | (refine awp_rg ?_) | (refine awp_rd (by kernel_rfl) (by kernel_rfl) ?_) | (refine awp_block ?_) | (refine awp_exit ?_) | (refine awp_ret ?_) | (refine awp_skip ?_))
    rw [kk]
    repeat (first | (refine x_q (h := ?_)) | (refine xd_q (h := ?_)) | (refine w_q (h := ?_)) | (refine w_s (h := ?_)) | (refine w_t (h := ?_)) | (refine w_k (h := ?_)) | (refine y_q (h := ?_)) | (refine y_s (h := ?_)) | (refine y_t (h := ?_)) | (refine y_k (h := ?_)) | (refine lex_nil (by kernel_rfl) ?_) | (refine awp_sq ?_) | (refine awp_rg ?_) | (refine awp_rd (by kernel_rfl) (by kernel_rfl) ?_) | (refine awp_block ?_) | (refine awp_exit ?_) | (refine awp_ret ?_) | (refine awp_skip ?_))
    have e0 : l.getD (0 + k) 0 = l.getD k 0 := by rw [Nat.zero_add]
    rw [e0]
    (first | (refine c_q (absolute_c (l.getD k 0)) (h := ?_)) | (refine z_q (absolute_c (l.getD k 0)) (h := ?_)))
    have hc' : fcmp .lss .f32 (absF (l.getD k 0)) 1065353216 = true := hc
    generalize l.getD k 0 = x at *
    repeat (first | (refine x_q (h := ?_)) | (refine xd_q (h := ?_)) | (refine w_q (h := ?_)) | (refine w_s (h := ?_)) | (refine w_t (h := ?_)) | (refine w_k (h := ?_)) | (refine y_q (h := ?_)) | (refine y_s (h := ?_)) | (refine y_t (h := ?_)) | (refine y_k (h := ?_)) | (refine lex_nil (by kernel_rfl) ?_) | (refine awp_sq ?_) | (refine awp_rg ?_) | (refine awp_rd (by kernel_rfl) (by kernel_rfl) ?_) | (refine awp_block ?_) | (refine awp_exit ?_) | (refine awp_ret ?_) | (refine awp_skip ?_))
    rw [hc']
    repeat (first | (refine x_q (h := ?_)) | (refine xd_q (h := ?_)) | (refine w_q (h := ?_)) | (refine w_s (h := ?_)) | (refine w_t (h := ?_)) | (refine w_k (h := ?_)) | (refine y_q (h := ?_)) | (refine y_s (h := ?_)) | (refine y_t (h := ?_)) | (refine y_k (h := ?_)) | (refine lex_nil (by kernel_rfl) ?_) | (refine awp_sq ?_) | (refine awp_rg ?_) | (refine awp_rd (by kernel_rfl) (by kernel_rfl) ?_) | (refine awp_block ?_) | (refine awp_exit ?_) | (refine awp_ret ?_) | (refine awp_skip ?_))
    refine awp_ifF rfl rfl ?_
    repeat (first | (refine x_q (h := ?_)) | (refine xd_q (h := ?_)) | (refine w_q (h := ?_)) | (refine w_s (h := ?_)) | (refine w_t (h := ?_)) | (refine w_k (h := ?_)) | (refine y_q (h := ?_)) | (refine y_s (h := ?_)) | (refine y_t (h := ?_)) | (refine y_k (h := ?_)) | (refine lex_nil (by kernel_rfl) ?_) | (refine awp_sq ?_) | (refine awp_rg ?_) | (refine awp_rd (by kernel_rfl) (by kernel_rfl) ?_) | (refine awp_block ?_) | (refine awp_exit ?_) | (refine awp_ret ?_) | (refine awp_skip ?_))
    refine awp_loop (X := Nat) (fun i => i ≤ k) (fun i => [(4, .own 13 0 (k + 1)), (5, .t (.v (.int .i64 k))), (6, .t (.f .f32 x)), (7, .own 28 0 i), (29, .t (.v (.int .i64 k))), (30, .t (.v (.int .i64 i)))])
      (fun i => [(28, .sl 30 (.fl (nx.take i))), (13, .sl 30 (.fl l))]) (fun i => k - i)
      0 ⟨by omega, fun i => i, ⟨rfl, rfl, rfl, rfl, rfl, rfl, trivial⟩, ⟨rfl, rfl, trivial⟩, injOn_id _⟩ (fun i hi => ?_)
    have hz : (nx.take i).length = i := by simp [hN]; omega
    repeat (first | (refine x_q (h := ?_)) | (refine xd_q (h := ?_)) | (refine w_q (h := ?_)) | (refine w_s (h := ?_)) | (refine w_t (h := ?_)) | (refine w_k (h := ?_)) | (refine y_q (h := ?_)) | (refine y_s (h := ?_)) | (refine y_t (h := ?_)) | (refine y_k (h := ?_)) | (refine lex_nil (by kernel_rfl) ?_) | (refine awp_sq ?_) | (refine awp_rg ?_) | (refine awp_rd (by kernel_rfl) (by kernel_rfl) ?_) | (refine awp_block ?_) | (refine awp_exit ?_) | (refine awp_ret ?_) | (refine awp_skip ?_))
    refine awp_if rfl (fun h2 => ?_) (fun h2 => ?_)
    · simp only [icmp, decide_eq_true_eq] at h2
      have ki : ((k : Nat) : Int) - 1 - (i : Int) = ((k - 1 - i : Nat) : Int) := by omega
      have hv := hV i
      repeat (first | (refine x_q (h := ?_)) | (refine xd_q (h := ?_)) | (refine w_q (h := ?_)) | (refine w_s (h := ?_)) | (refine w_t (h := ?_)) | (refine w_k (h := ?_)) | (refine y_q (h := ?_)) | (refine y_s (h := ?_)) | (refine y_t (h := ?_)) | (refine y_k (h := ?_)) | (refine lex_nil (by kernel_rfl) ?_) | (refine awp_sq ?_) | (refine awp_rg ?_) | (refine awp_rd (by kernel_rfl) (by kernel_rfl) ?_) | (refine awp_block ?_) | (refine awp_exit ?_) | (refine awp_ret ?_) | (refine awp_skip ?_))
      (first | (refine a_s (hn := by exact hz) (h := ?_)) | (refine b_s (hn := by exact hz) (h := ?_)))
      repeat (first | (refine x_q (h := ?_)) | (refine xd_q (h := ?_)) | (refine w_q (h := ?_)) | (refine w_s (h := ?_)) | (refine w_t (h := ?_)) | (refine w_k (h := ?_)) | (refine y_q (h := ?_)) | (refine y_s (h := ?_)) | (refine y_t (h := ?_)) | (refine y_k (h := ?_)) | (refine lex_nil (by kernel_rfl) ?_) | (refine awp_sq ?_) | (refine awp_rg ?_) | (refine awp_rd (by kernel_rfl) (by kernel_rfl) ?_) | (refine awp_block ?_) | (refine awp_exit ?_) | (refine awp_ret ?_) | (refine awp_skip ?_))
      exact ⟨i + 1, by omega, by omega, fun i => i, ⟨rfl, rfl, rfl, own_eq (by simp only [T.app, T.len, List.length_append, hz]; rfl), rfl, rfl, trivial⟩, ⟨sl_eq (congrArg T.fl (take_snoc (by omega) (by rw [Nat.zero_add, Nat.zero_add, hNg i (by omega)]; exact hv))), rfl, trivial⟩, injOn_id _⟩
    simp only [icmp, decide_eq_false_iff_not] at h2
    obtain rfl : i = k := by omega
    rw [List.take_of_length_le (by omega : nx.length ≤ i)]
    repeat (first | (refine x_q (h := ?_)) | (refine xd_q (h := ?_)) | (refine w_q (h := ?_)) | (refine w_s (h := ?_)) | (refine w_t (h := ?_)) | (refine w_k (h := ?_)) | (refine y_q (h := ?_)) | (refine y_s (h := ?_)) | (refine y_t (h := ?_)) | (refine y_k (h := ?_)) | (refine lex_nil (by kernel_rfl) ?_) | (refine awp_sq ?_) | (refine awp_rg ?_) | (refine awp_rd (by kernel_rfl) (by kernel_rfl) ?_) | (refine awp_block ?_) | (refine awp_exit ?_) | (refine awp_ret ?_) | (refine awp_skip ?_))
    exact ⟨t + 1, by omega, by omega, fun i => bif Nat.beq i 13 then 28 else i, ⟨own_eq (by omega), trivial⟩, ⟨sl_eq (congrArg T.fl hs.symm), trivial⟩, injOn_dec rfl⟩
  · obtain rfl : t = a.length := by omega
    rw [Nat.sub_self] at hlt ⊢
    repeat (first | (refine x_q (h := ?_)) | (refine xd_q (h := ?_)) | (refine w_q (h := ?_)) | (refine w_s (h := ?_)) | (refine w_t (h := ?_)) | (refine w_k (h := ?_)) | (refine y_q (h := ?_)) | (refine y_s (h := ?_)) | (refine y_t (h := ?_)) | (refine y_k (h := ?_)) | (refine lex_nil (by kernel_rfl) ?_) | (refine awp_sq ?_) | (refine awp_rg ?_) | (refine awp_rd (by kernel_rfl) (by kernel_rfl) ?_) | (refine awp_block ?_) | (refine awp_exit ?_) | (refine awp_ret ?_) | (refine awp_skip ?_))
    refine awp_ifF rfl rfl ?_
    repeat (first | (refine x_q (h := ?_)) | (refine xd_q (h := ?_)) | (refine w_q (h := ?_)) | (refine w_s (h := ?_)) | (refine w_t (h := ?_)) | (refine w_k (h := ?_)) | (refine y_q (h := ?_)) | (refine y_s (h := ?_)) | (refine y_t (h := ?_)) | (refine y_k (h := ?_)) | (refine lex_nil (by kernel_rfl) ?_) | (refine awp_sq ?_) | (refine awp_rg ?_) | (refine awp_rd (by kernel_rfl) (by kernel_rfl) ?_) | (refine awp_block ?_) | (refine awp_exit ?_) | (refine awp_ret ?_) | (refine awp_skip ?_))
    (refine ret_ok tyOk (by first | exact .inr rfl | exact .inl rfl) pi0 rfl (by first | exact .cons (by first | exact .tmp | exact .cell rfl rfl rfl rfl rfl rfl | exact .cell1 rfl rfl rfl rfl rfl) .nil | exact .cons (by first | exact .tmp | exact .cell rfl rfl rfl rfl rfl rfl | exact .cell1 rfl rfl rfl rfl rfl) (.cons (by first | exact .tmp | exact .cell rfl rfl rfl rfl rfl rfl | exact .cell1 rfl rfl rfl rfl rfl) .nil) | exact .cons (by first | exact .tmp | exact .cell rfl rfl rfl rfl rfl rfl | exact .cell1 rfl rfl rfl rfl rfl) (.cons (by first | exact .tmp | exact .cell rfl rfl rfl rfl rfl rfl | exact .cell1 rfl rfl rfl rfl rfl) (.cons (by first | exact .tmp | exact .cell rfl rfl rfl rfl rfl rfl | exact .cell1 rfl rfl rfl rfl rfl) .nil)) | exact .cons (by first | exact .tmp | exact .cell rfl rfl rfl rfl rfl rfl | exact .cell1 rfl rfl rfl rfl rfl) (.cons (by first | exact .tmp | exact .cell rfl rfl rfl rfl rfl rfl | exact .cell1 rfl rfl rfl rfl rfl) (.cons (by first | exact .tmp | exact .cell rfl rfl rfl rfl rfl rfl | exact .cell1 rfl rfl rfl rfl rfl) (.cons (by first | exact .tmp | exact .cell rfl rfl rfl rfl rfl rfl | exact .cell1 rfl rfl rfl rfl rfl) .nil)))) ?_ trivial (injO_0 _); (repeat' (first | exact RetRelL.nil | (refine RetRel.nil rfl ?_) | refine RetRelL.cons ?_ ?_ | refine rr_tup ?_ | refine rr_agg ?_ | refine rr_own rfl ?_ | exact RetRel.arg | exact RetRel.argc | refine rr_t ?_)); all_goals rfl)
theorem isCalm_w {l : List Nat} (hl : l.length = 1) (hT : isTerms l = true) (hc : fcmp .lss .f32 (absF (l.getD 0 0)) 1065353216 = false) : TCall Try.prog 40 [.fl l] (.tup [.t (.v (.bool false)), .t (.v (.bool true))]) [] := by
  have tT := areTerms_c l (by omega)
  rw [hT] at tT
  have k1 : ((1 : Nat) : Int) - 1 = ((0 : Nat) : Int) := rfl
  refine tcall_of Try.func40 rfl (by kernel_rfl) (Nat.le_of_ble_eq_true rfl) rfl ?_
  simp only [argsL, argAV, argCs, argS]
  repeat (first | (refine x_q (h := ?_)) | (refine xd_q (h := ?_)) | (refine w_q (h := ?_)) | (refine w_s (h := ?_)) | (refine w_t (h := ?_)) | (refine w_k (h := ?_)) | (refine y_q (h := ?_)) | (refine y_s (h := ?_)) | (refine y_t (h := ?_)) | (refine y_k (h := ?_)) | (refine lex_nil (by kernel_rfl) ?_) | (refine awp_sq ?_) | (refine awp_rg ?_) | (refine awp_rd (by kernel_rfl) (by kernel_rfl) ?_) | (refine awp_block ?_) | (refine awp_exit ?_) | (refine awp_ret ?_) | (refine awp_skip ?_))
  (first | (refine c_q (tT) (h := ?_)) | (refine z_q (tT) (h := ?_)))
  repeat (first | (refine x_q (h := ?_)) | (refine xd_q (h := ?_)) | (refine w_q (h := ?_)) | (refine w_s (h := ?_)) | (refine w_t (h := ?_)) | (refine w_k (h := ?_)) | (refine y_q (h := ?_)) | (refine y_s (h := ?_)) | (refine y_t (h := ?_)) | (refine y_k (h := ?_)) | (refine lex_nil (by kernel_rfl) ?_) | (refine awp_sq ?_) | (refine awp_rg ?_) | (refine awp_rd (by kernel_rfl) (by kernel_rfl) ?_) | (refine awp_block ?_) | (refine awp_exit ?_) | (refine awp_ret ?_) | (refine awp_skip ?_))
  refine awp_ifF rfl rfl ?_
  repeat (first | (refine x_q (h := ?_)) | (refine xd_q (h := ?_)) | (refine w_q (h := ?_)) | (refine w_s (h := ?_)) | (refine w_t (h := ?_)) | (refine w_k (h := ?_)) | (refine y_q (h := ?_)) | (refine y_s (h := ?_)) | (refine y_t (h := ?_)) | (refine y_k (h := ?_)) | (refine lex_nil (by kernel_rfl) ?_) | (refine awp_sq ?_) | (refine awp_rg ?_) | (refine awp_rd (by kernel_rfl) (by kernel_rfl) ?_) | (refine awp_block ?_) | (refine awp_exit ?_) | (refine awp_ret ?_) | (refine awp_skip ?_))
  (first | (refine c_s (cloneF_c l (by omega)) (h := ?_)) | (refine z_s (cloneF_c l (by omega)) (h := ?_)))
  repeat (first | (refine x_q (h := ?_)) | (refine xd_q (h := ?_)) | (refine w_q (h := ?_)) | (refine w_s (h := ?_)) | (refine w_t (h := ?_)) | (refine w_k (h := ?_)) | (refine y_q (h := ?_)) | (refine y_s (h := ?_)) | (refine y_t (h := ?_)) | (refine y_k (h := ?_)) | (refine lex_nil (by kernel_rfl) ?_) | (refine awp_sq ?_) | (refine awp_rg ?_) | (refine awp_rd (by kernel_rfl) (by kernel_rfl) ?_) | (refine awp_block ?_) | (refine awp_exit ?_) | (refine awp_ret ?_) | (refine awp_skip ?_))
  refine awp_loop (X := Nat) (fun t => t ≤ 0) (fun t => [(4, .own 13 0 1)])
    (fun t => [(13, .sl 30 (.fl l))]) (fun t => 0)
    0 ⟨by omega, fun i => i, ⟨own_eq hl, trivial⟩, ⟨rfl, trivial⟩, injOn_id _⟩ (fun t ht => ?_)
  repeat (first | (refine x_q (h := ?_)) | (refine xd_q (h := ?_)) | (refine w_q (h := ?_)) | (refine w_s (h := ?_)) | (refine w_t (h := ?_)) | (refine w_k (h := ?_)) | (refine y_q (h := ?_)) | (refine y_s (h := ?_)) | (refine y_t (h := ?_)) | (refine y_k (h := ?_)) | (refine lex_nil (by kernel_rfl) ?_) | (refine awp_sq ?_) | (refine awp_rg ?_) | (refine awp_rd (by kernel_rfl) (by kernel_rfl) ?_) | (refine awp_block ?_) | (refine awp_exit ?_) | (refine awp_ret ?_) | (refine awp_skip ?_))
  refine awp_ifT rfl rfl ?_
  repeat (first | (refine x_q (h := ?_)) | (refine xd_q (h := ?_)) | (refine w_q (h := ?_)) | (refine w_s (h := ?_)) | (refine w_t (h := ?_)) | (refine w_k (h := ?_)) | (refine y_q (h := ?_)) | (refine y_s (h := ?_)) | (refine y_t (h := ?_)) | (refine y_k (h := ?_)) | (refine lex_nil (by kernel_rfl) ?_) | (refine awp_sq ?_) | (refine awp_rg ?_) | (refine awp_rd (by kernel_rfl) (by kernel_rfl) ?_) | (refine awp_block ?_) | (refine awp_exit ?_) | (refine awp_ret ?_) | (refine awp_skip ?_))
  rw [k1]
  repeat (first | (refine x_q (h := ?_)) | (refine xd_q (h := ?_)) | (refine w_q (h := ?_)) | (refine w_s (h := ?_)) | (refine w_t (h := ?_)) | (refine w_k (h := ?_)) | (refine y_q (h := ?_)) | (refine y_s (h := ?_)) | (refine y_t (h := ?_)) | (refine y_k (h := ?_)) | (refine lex_nil (by kernel_rfl) ?_) | (refine awp_sq ?_) | (refine awp_rg ?_) | (refine awp_rd (by kernel_rfl) (by kernel_rfl) ?_) | (refine awp_block ?_) | (refine awp_exit ?_) | (refine awp_ret ?_) | (refine awp_skip ?_))
  have e0 : l.getD (0 + 0) 0 = l.getD 0 0 := rfl
  rw [e0]
  (first | (refine c_q (absolute_c (l.getD 0 0)) (h := ?_)) | (refine z_q (absolute_c (l.getD 0 0)) (h := ?_)))
  repeat (first | (refine x_q (h := ?_)) | (refine xd_q (h := ?_)) | (refine w_q (h := ?_)) | (refine w_s (h := ?_)) | (refine w_t (h := ?_)) | (refine w_k (h := ?_)) | (refine y_q (h := ?_)) | (refine y_s (h := ?_)) | (refine y_t (h := ?_)) | (refine y_k (h := ?_)) | (refine lex_nil (by kernel_rfl) ?_) | (refine awp_sq ?_) | (refine awp_rg ?_) | (refine awp_rd (by kernel_rfl) (by kernel_rfl) ?_) | (refine awp_block ?_) | (refine awp_exit ?_) | (refine awp_ret ?_) | (refine awp_skip ?_))
  rw [hc]
  repeat (first | (refine x_q (h := ?_)) | (refine xd_q (h := ?_)) | (refine w_q (h := ?_)) | (refine w_s (h := ?_)) | (refine w_t (h := ?_)) | (refine w_k (h := ?_)) | (refine y_q (h := ?_)) | (refine y_s (h := ?_)) | (refine y_t (h := ?_)) | (refine y_k (h := ?_)) | (refine lex_nil (by kernel_rfl) ?_) | (refine awp_sq ?_) | (refine awp_rg ?_) | (refine awp_rd (by kernel_rfl) (by kernel_rfl) ?_) | (refine awp_block ?_) | (refine awp_exit ?_) | (refine awp_ret ?_) | (refine awp_skip ?_))
  refine awp_ifT rfl rfl ?_
  repeat (first | (refine x_q (h := ?_)) | (refine xd_q (h := ?_)) | (refine w_q (h := ?_)) | (refine w_s (h := ?_)) | (refine w_t (h := ?_)) | (refine w_k (h := ?_)) | (refine y_q (h := ?_)) | (refine y_s (h := ?_)) | (refine y_t (h := ?_)) | (refine y_k (h := ?_)) | (refine lex_nil (by kernel_rfl) ?_) | (refine awp_sq ?_) | (refine awp_rg ?_) | (refine awp_rd (by kernel_rfl) (by kernel_rfl) ?_) | (refine awp_block ?_) | (refine awp_exit ?_) | (refine awp_ret ?_) | (refine awp_skip ?_))
  (refine ret_ok tyOk (by first | exact .inr rfl | exact .inl rfl) pi0 rfl (by first | exact .cons (by first | exact .tmp | exact .cell rfl rfl rfl rfl rfl rfl | exact .cell1 rfl rfl rfl rfl rfl) .nil | exact .cons (by first | exact .tmp | exact .cell rfl rfl rfl rfl rfl rfl | exact .cell1 rfl rfl rfl rfl rfl) (.cons (by first | exact .tmp | exact .cell rfl rfl rfl rfl rfl rfl | exact .cell1 rfl rfl rfl rfl rfl) .nil) | exact .cons (by first | exact .tmp | exact .cell rfl rfl rfl rfl rfl rfl | exact .cell1 rfl rfl rfl rfl rfl) (.cons (by first | exact .tmp | exact .cell rfl rfl rfl rfl rfl rfl | exact .cell1 rfl rfl rfl rfl rfl) (.cons (by first | exact .tmp | exact .cell rfl rfl rfl rfl rfl rfl | exact .cell1 rfl rfl rfl rfl rfl) .nil)) | exact .cons (by first | exact .tmp | exact .cell rfl rfl rfl rfl rfl rfl | exact .cell1 rfl rfl rfl rfl rfl) (.cons (by first | exact .tmp | exact .cell rfl rfl rfl rfl rfl rfl | exact .cell1 rfl rfl rfl rfl rfl) (.cons (by first | exact .tmp | exact .cell rfl rfl rfl rfl rfl rfl | exact .cell1 rfl rfl rfl rfl rfl) (.cons (by first | exact .tmp | exact .cell rfl rfl rfl rfl rfl rfl | exact .cell1 rfl rfl rfl rfl rfl) .nil)))) ?_ trivial (injO_0 _); (repeat' (first | exact RetRelL.nil | (refine RetRel.nil rfl ?_) | refine RetRelL.cons ?_ ?_ | refine rr_tup ?_ | refine rr_agg ?_ | refine rr_own rfl ?_ | exact RetRel.arg | exact RetRel.argc | refine rr_t ?_)); all_goals rfl)
theorem wild_15 : isTerms [1069547520] = true ∧ fcmp .lss .f32 (absF (([1069547520] : List Nat).getD 0 0)) 1065353216 = false := by unfold absF; decide +kernel
end Go.Proofs.Ytmnpdipiffmnhaa
