import Derived.Test.YtmnpdipiffmnhaaYT128
import Derived.Test.YtmnpdipiffmnhaaYT122
set_option linter.unusedVariables false
set_option linter.unusedSimpArgs false
set_option maxRecDepth 20000
set_option maxHeartbeats 8000000
namespace Go.Proofs.Ytmnpdipiffmnhaa
open Go.Aw

/-! ### the power of small terms -/
theorem mulB {a b : Nat} {M N L : Rat} (ha : Bd a M) (hb : Bd b N) (hM : okM (M * N)) (hL : (M * N) * (1001 / 1000) ≤ L) : Bd (fop .mul .f32 a b) L := by
  have h1 := ha.2; have h2 := hb.2; have hM1 := hM.1
  have hp := mul_bd (x := rv .f32 a) (y := rv .f32 b) (M := M) (N := N) h1.1 h1.2 h2.1 h2.2
  obtain ⟨e, p1, p3, p4, p5⟩ := mul32 (M := M * N) ha.1 hb.1 hp.1 hp.2 hM
  exact ⟨p5, by rw [p1]; grind, by rw [p1]; grind⟩
theorem unW_bd {c : Nat} (h : unW c = true) : Bd c (1001 / 1000) := by
  simp only [unW, Bool.and_eq_true, decide_eq_true_eq] at h
  exact ⟨⟨h.1.1.1, h.1.1.2⟩, h.1.2, h.2⟩
theorem ph_at {j : Nat} (h : j ≤ 32) : phOk (xW j) = true ∧ Bd (fconv .f64 .f32 (phRe (xW j))) (1001 / 1000) ∧ Bd (fconv .f64 .f32 (phIm (xW j))) (1001 / 1000) := by
  have := List.all_eq_true.1 ph_tab j (List.mem_range.2 (by omega))
  simp only [Bool.and_eq_true] at this
  exact ⟨this.1.1, unW_bd this.1.2, unW_bd this.2⟩
theorem turn_at {k i : Nat} (hk : k ≤ 16) (hi : i < 2) : fop .mul .f32 (turnW k) (fint .f32 ((i : Int) + 1)) = turnW (k * (i + 1)) ∧ fin (turnW k) = true := by
  have := List.all_eq_true.1 turn_tab k (List.mem_range.2 (by omega))
  simp only [Bool.and_eq_true, decide_eq_true_eq] at this
  have hi' : i = 0 ∨ i = 1 := by omega
  rcases hi' with rfl | rfl
  · refine ⟨?_, this.2⟩
    rw [show k * (0 + 1) = k by omega]
    exact this.1.1
  · refine ⟨?_, this.2⟩
    rw [show k * (1 + 1) = 2 * k by omega]
    exact this.1.2
def cxS (a : List Nat) (k : Nat) : Nat → Nat × Nat
  | 0 => (0, 0)
  | i + 1 => (fop .add .f32 (cxS a k i).1 (fop .mul .f32 (fconv .f64 .f32 (phRe (xW (k * (i + 1))))) (a.getD i 0)), fop .add .f32 (cxS a k i).2 (fop .mul .f32 (fconv .f64 .f32 (phIm (xW (k * (i + 1))))) (a.getD i 0)))
theorem cxS_bd {a : List Nat} {k : Nat} (hk : k ≤ 16) (ha : ∀ i, i < a.length → Bd (a.getD i 0) (3 / 8)) (hl : a.length ≤ 2) : ∀ i, i ≤ a.length → Bd (cxS a k i).1 ((i : Rat) * (2 / 5)) ∧ Bd (cxS a k i).2 ((i : Rat) * (2 / 5))
  | 0, _ => by
    have h0 : Bd 0 (((0 : Nat) : Rat) * (2 / 5)) := ⟨f0_32.1, by rw [f0_32.2]; decide +kernel, by rw [f0_32.2]; decide +kernel⟩
    exact ⟨h0, h0⟩
  | i + 1, h => by
    obtain ⟨h1, h2⟩ := cxS_bd hk ha hl i (by omega)
    have hx := ha i (by omega)
    have hj : k * (i + 1) ≤ 32 := by
      have : i = 0 ∨ i = 1 := by omega
      rcases this with rfl | rfl <;> omega
    obtain ⟨_, p1, p2⟩ := ph_at hj
    have m1 := mulB (L := 38 / 100) p1 hx (by unfold okM; constructor <;> decide +kernel) (by decide +kernel)
    have m2 := mulB (L := 38 / 100) p2 hx (by unfold okM; constructor <;> decide +kernel) (by decide +kernel)
    have hi : i = 0 ∨ i = 1 := by omega
    rcases hi with rfl | rfl
    · exact ⟨addB h1 m1 (by unfold okM; constructor <;> decide +kernel) (by decide +kernel), addB h2 m2 (by unfold okM; constructor <;> decide +kernel) (by decide +kernel)⟩
    · exact ⟨addB h1 m1 (by unfold okM; constructor <;> decide +kernel) (by decide +kernel), addB h2 m2 (by unfold okM; constructor <;> decide +kernel) (by decide +kernel)⟩
/-- what the power is of -/
structure PwI (re im : Nat) : Prop where
  c1 : okConst .f32 re = true
  c2 : okConst .f32 im = true
  d1 : Fnt .f32 (fop .sub .f32 1065353216 re)
  d2 : Fnt .f32 (fop .sub .f32 0 im)
  ok : fconvOk .f64 .f32 (powW (fop .sub .f32 1065353216 re) (fop .sub .f32 0 im)) = true
  gt : fcmp .gtr .f32 (fconv .f64 .f32 (powW (fop .sub .f32 1065353216 re) (fop .sub .f32 0 im))) 0 = true
  fq : fin (fop .quo .f32 1056964608 (fconv .f64 .f32 (powW (fop .sub .f32 1065353216 re) (fop .sub .f32 0 im)))) = true
  gq : fcmp .gtr .f32 (fop .quo .f32 1056964608 (fconv .f64 .f32 (powW (fop .sub .f32 1065353216 re) (fop .sub .f32 0 im)))) 0 = true
theorem quo_rng {z y : Rat} (h : z * y = 1 / 2) (h1 : 2 / 100 ≤ y) (h2 : y ≤ 11) : z ≤ 25 ∧ 1 / 24 ≤ z := by
  constructor
  · rcases Rat.le_total (a := z) (b := 25) with g | g
    · exact g
    · have a := Rat.mul_nonneg (show 0 ≤ z - 25 by grind) (show 0 ≤ y - 2 / 100 by grind)
      have e : (z - 25) * (y - 2 / 100) = z * y - 2 / 100 * z - 25 * y + 1 / 2 := by grind
      rw [e, h] at a
      grind
  · rcases Rat.le_total (a := 1 / 24) (b := z) with g | g
    · exact g
    · have a := Rat.mul_nonneg (show 0 ≤ 1 / 24 - z by grind) (show 0 ≤ y by grind)
      have e : (1 / 24 - z) * y = 1 / 24 * y - z * y := by grind
      rw [e, h] at a
      grind
theorem pw_aux {p q : Nat} (hp : Bd p 2) (hpl : 19 / 100 ≤ rv .f32 p) (hq : Bd q 1) : fconvOk .f64 .f32 (powW p q) = true ∧ fcmp .gtr .f32 (fconv .f64 .f32 (powW p q)) 0 = true ∧ fin (fop .quo .f32 1056964608 (fconv .f64 .f32 (powW p q))) = true ∧ fcmp .gtr .f32 (fop .quo .f32 1056964608 (fconv .f64 .f32 (powW p q))) 0 = true := by
  have k0 := f0_32
  have hok : ∀ M : Rat, 1 / 1000 ≤ M → M ≤ 1000 → okM M := fun M a b => by unfold okM; constructor <;> grind
  obtain ⟨e3, r1, r2, r3, r4⟩ := wide_e (M := 2) hp (hok _ (by grind) (by grind))
  obtain ⟨e4, s1, s2, s3, s4⟩ := wide_e (M := 1) hq (hok _ (by grind) (by grind))
  have hp2 := hp.2; have hq2 := hq.2
  have hP : 18 / 100 ≤ rv .f64 (fconv .f32 .f64 p) ∧ rv .f64 (fconv .f32 .f64 p) ≤ 21 / 10 := by constructor <;> grind
  have hQ : -(11 / 10) ≤ rv .f64 (fconv .f32 .f64 q) ∧ rv .f64 (fconv .f32 .f64 q) ≤ 11 / 10 := by constructor <;> grind
  unfold powW at *
  generalize fconv .f32 .f64 p = P at *
  generalize fconv .f32 .f64 q = Q at *
  have z1 := mul_bd (x := rv .f64 P) (y := rv .f64 P) (M := 21 / 10) (N := 21 / 10) hP.2 (by grind) hP.2 (by grind)
  have z2 := mul_bd (x := rv .f64 Q) (y := rv .f64 Q) (M := 11 / 10) (N := 11 / 10) hQ.2 (by grind) hQ.2 (by grind)
  have z3 := Rat.mul_nonneg (show 0 ≤ rv .f64 P - 18 / 100 by grind) (show 0 ≤ rv .f64 P - 18 / 100 by grind)
  have z4 := sq_nn (rv .f64 Q)
  have z5 : 324 / 10000 ≤ rv .f64 P * rv .f64 P := by
    have e : (rv .f64 P - 18 / 100) * (rv .f64 P - 18 / 100) = rv .f64 P * rv .f64 P - 36 / 100 * rv .f64 P + 324 / 10000 := by grind
    rw [e] at z3
    have := hP.1
    clear z1 z2 z4 hQ r1 s1
    grind
  clear z3
  obtain ⟨e5, t1, t2, t3, t4⟩ := mul64 (M := 5) r4 r4 (by grind) (by grind) (hok _ (by grind) (by grind))
  obtain ⟨e6, u1, u2, u3, u4⟩ := mul64 (M := 5) s4 s4 (by grind) (by grind) (hok _ (by grind) (by grind))
  obtain ⟨e7, v1, v2, v3, v4⟩ := add64 (M := 10) t4 u4 (by grind) (by grind) (hok _ (by grind) (by grind))
  generalize fop .add .f64 (fop .mul .f64 P P) (fop .mul .f64 Q Q) = W at *
  have hW : Bd64 W 10 ∧ 3 / 100 ≤ rv .f64 W := by
    rw [t1, u1] at v1
    clear t1 u1
    generalize rv .f64 P * rv .f64 P = A at *
    generalize rv .f64 Q * rv .f64 Q = B at *
    clear r1 s1 hP hQ hp2 hq2 hpl hp hq
    have y1 := z1.1; have y2 := z2.1; have y3 := z1.2; have y4 := z2.2
    refine ⟨⟨v4, ?_, ?_⟩, ?_⟩
    · rw [v1]; clear z1 z2; grind
    · rw [v1]; clear z1 z2; grind
    · rw [v1]; clear z1 z2; grind
  have hnb := narrow_bd2 hW.1 (by grind)
  obtain ⟨e8, w1, w2, w3, w4⟩ := thin_e (M := 10) hW.1 (hok _ (by grind) (by grind))
  have hW2 := hW.1.2
  have hC : 2 / 100 ≤ rv .f32 (fconv .f64 .f32 W) ∧ rv .f32 (fconv .f64 .f32 W) ≤ 11 := by constructor <;> grind
  generalize hc : fconv .f64 .f32 W = c at *
  have hh := half32c
  have hz : (1 / 2) / rv .f32 c * rv .f32 c = 1 / 2 := Rat.div_mul_cancel (by grind)
  generalize (1 / 2) / rv .f32 c = z at *
  obtain ⟨hz1, hz2⟩ := quo_rng hz hC.1 hC.2
  obtain ⟨e9, x1, x2, x3, x4⟩ := quo32 (z := z) (M := 25) hh.1 w4 (by grind) (by rw [hh.2]; exact hz) hz1 (by grind) (hok _ (by grind) (by grind))
  refine ⟨hnb, ?_, finB_Fn x4, ?_⟩
  · rw [gtr_rv w4 k0.1, k0.2]; exact decide_eq_true (by grind)
  · rw [gtr_rv x4 k0.1, k0.2]; exact decide_eq_true (by grind)
theorem pwI_of {re im : Nat} (h1 : Bd re (4 / 5)) (h2 : Bd im (4 / 5)) : PwI re im := by
  have b1 := h1.2; have b2 := h2.2
  have k1 := k1_rv
  have k0 := f0_32
  have hok : ∀ M : Rat, 1 / 1000 ≤ M → M ≤ 1000 → okM M := fun M a b => by unfold okM; constructor <;> grind
  obtain ⟨e1, p1, p2, p3, p4⟩ := sub32 (M := 2) k1.1 h1.1 (by grind) (by grind) (hok _ (by grind) (by grind))
  obtain ⟨e2, q1, q2, q3, q4⟩ := sub32 (M := 1) k0.1 h2.1 (by grind) (by grind) (hok _ (by grind) (by grind))
  have hp : Bd (fop .sub .f32 1065353216 re) 2 := ⟨p4, by grind, by grind⟩
  have hq : Bd (fop .sub .f32 0 im) 1 := ⟨q4, by grind, by grind⟩
  have hpl : 19 / 100 ≤ rv .f32 (fop .sub .f32 1065353216 re) := by grind
  obtain ⟨a1, a2, a3, a4⟩ := pw_aux hp hpl hq
  exact ⟨okConst_Fn h1.1, okConst_Fn h2.1, hp.1, hq.1, a1, a2, a3, a4⟩
attribute [local irreducible] QRun LexD AWp TCall TMut fop fint fcmp fconv hw fmx dvD phRe phIm powW
def pwW (a : List Nat) (k : Nat) : Nat := fop .quo .f32 1056964608 (fconv .f64 .f32 (powW (fop .sub .f32 1065353216 (cxS a k a.length).1) (fop .sub .f32 0 (cxS a k a.length).2)))
theorem pastPower_c {a : List Nat} {k : Nat} (hk : k ≤ 16) (ha : ∀ i, i < a.length → Bd (a.getD i 0) (3 / 8)) (hl : a.length ≤ 2) :
    TCall Try.prog 41 [.fl a, .f .f32 1056964608, .f .f32 (turnW k)] (.tup [.t (.f .f32 (pwW a k)), .t (.v (.bool true))]) [] ∧ fcmp .gtr .f32 (pwW a k) 0 = true := by
  have hB := cxS_bd hk ha hl
  have h1 := (hB a.length (by omega)).1
  have h2 := (hB a.length (by omega)).2
  have hn : (a.length : Rat) * (2 / 5) ≤ 4 / 5 := by
    have := (nat_cast_le hl).1
    have e : ((2 : Nat) : Rat) = 2 := rfl
    grind
  have hP := pwI_of (h1.mono hn) (h2.mono hn)
  refine ⟨?_, hP.gq⟩
  have tT := areTerms_c a (by omega)
  have hT : isTerms a = true := by
    unfold isTerms
    rw [decide_eq_true (show a.length ≤ 6 by omega)]
    refine List.all_eq_true.2 fun c hc => ?_
    obtain ⟨i, hi, rfl⟩ := List.getElem_of_mem hc
    have := finB_Fn (ha i hi).1
    rw [List.getD_eq_getElem?_getD, List.getElem?_eq_getElem hi] at this
    exact this
  rw [hT] at tT
  have tL := areNotLess_c [1056964608] (Nat.le_of_ble_eq_true rfl)
  rw [show ([1056964608] : List Nat).all least = true by decide +kernel] at tL
  have tF := isFinite_c (turnW k)
  rw [(turn_at hk (i := 0) (by omega)).2] at tF
  refine tcall_of Try.func41 rfl (by kernel_rfl) (Nat.le_of_ble_eq_true rfl) rfl ?_
  simp only [argsL, argAV, argCs, argS]
  repeat (first | (refine x_q (h := ?_)) | (refine xd_q (h := ?_)) | (refine w_q (h := ?_)) | (refine w_s (h := ?_)) | (refine w_t (h := ?_)) | (refine w_k (h := ?_)) | (refine y_q (h := ?_)) | (refine y_s (h := ?_)) | (refine y_t (h := ?_)) | (refine y_k (h := ?_)) | (refine lex_nil (by kernel_rfl) ?_) | (refine awp_sq ?_) | (refine awp_rg ?_) | (refine awp_rd (by kernel_rfl) (by kernel_rfl) ?_) | (refine awp_block ?_) | (refine awp_exit ?_) | (refine awp_ret ?_) | (refine awp_skip ?_))
  (first | (refine c_q (tT) (h := ?_)) | (refine z_q (tT) (h := ?_)))
  repeat (first | (refine x_q (h := ?_)) | (refine xd_q (h := ?_)) | (refine w_q (h := ?_)) | (refine w_s (h := ?_)) | (refine w_t (h := ?_)) | (refine w_k (h := ?_)) | (refine y_q (h := ?_)) | (refine y_s (h := ?_)) | (refine y_t (h := ?_)) | (refine y_k (h := ?_)) | (refine lex_nil (by kernel_rfl) ?_) | (refine awp_sq ?_) | (refine awp_rg ?_) | (refine awp_rd (by kernel_rfl) (by kernel_rfl) ?_) | (refine awp_block ?_) | (refine awp_exit ?_) | (refine awp_ret ?_) | (refine awp_skip ?_))
  (first | (refine c_q (tL) (h := ?_)) | (refine z_q (tL) (h := ?_)))
  repeat (first | (refine x_q (h := ?_)) | (refine xd_q (h := ?_)) | (refine w_q (h := ?_)) | (refine w_s (h := ?_)) | (refine w_t (h := ?_)) | (refine w_k (h := ?_)) | (refine y_q (h := ?_)) | (refine y_s (h := ?_)) | (refine y_t (h := ?_)) | (refine y_k (h := ?_)) | (refine lex_nil (by kernel_rfl) ?_) | (refine awp_sq ?_) | (refine awp_rg ?_) | (refine awp_rd (by kernel_rfl) (by kernel_rfl) ?_) | (refine awp_block ?_) | (refine awp_exit ?_) | (refine awp_ret ?_) | (refine awp_skip ?_))
  (first | (refine c_q (tF) (h := ?_)) | (refine z_q (tF) (h := ?_)))
  repeat (first | (refine x_q (h := ?_)) | (refine xd_q (h := ?_)) | (refine w_q (h := ?_)) | (refine w_s (h := ?_)) | (refine w_t (h := ?_)) | (refine w_k (h := ?_)) | (refine y_q (h := ?_)) | (refine y_s (h := ?_)) | (refine y_t (h := ?_)) | (refine y_k (h := ?_)) | (refine lex_nil (by kernel_rfl) ?_) | (refine awp_sq ?_) | (refine awp_rg ?_) | (refine awp_rd (by kernel_rfl) (by kernel_rfl) ?_) | (refine awp_block ?_) | (refine awp_exit ?_) | (refine awp_ret ?_) | (refine awp_skip ?_))
  refine awp_ifF rfl rfl ?_
  repeat (first | (refine x_q (h := ?_)) | (refine xd_q (h := ?_)) | (refine w_q (h := ?_)) | (refine w_s (h := ?_)) | (refine w_t (h := ?_)) | (refine w_k (h := ?_)) | (refine y_q (h := ?_)) | (refine y_s (h := ?_)) | (refine y_t (h := ?_)) | (refine y_k (h := ?_)) | (refine lex_nil (by kernel_rfl) ?_) | (refine awp_sq ?_) | (refine awp_rg ?_) | (refine awp_rd (by kernel_rfl) (by kernel_rfl) ?_) | (refine awp_block ?_) | (refine awp_exit ?_) | (refine awp_ret ?_) | (refine awp_skip ?_))
  refine awp_loop (X := Nat) (fun i => i ≤ a.length) (fun i => [(1, .t (.f .f32 1056964608)), (2, .t (.f .f32 (turnW k))), (8, .t (Cx (cxS a k i).1 (cxS a k i).2)), (26, .arg 0 (.fl a)), (27, .t (.v (.int .i64 a.length))), (28, .t (.v (.int .i64 i)))])
    (fun _ => []) (fun i => a.length - i)
    0 ⟨by omega, fun i => i, ⟨rfl, rfl, rfl, rfl, rfl, rfl, trivial⟩, trivial, injOn_id _⟩ (fun i hi => ?_)
  repeat (first | (refine x_q (h := ?_)) | (refine xd_q (h := ?_)) | (refine w_q (h := ?_)) | (refine w_s (h := ?_)) | (refine w_t (h := ?_)) | (refine w_k (h := ?_)) | (refine y_q (h := ?_)) | (refine y_s (h := ?_)) | (refine y_t (h := ?_)) | (refine y_k (h := ?_)) | (refine lex_nil (by kernel_rfl) ?_) | (refine awp_sq ?_) | (refine awp_rg ?_) | (refine awp_rd (by kernel_rfl) (by kernel_rfl) ?_) | (refine awp_block ?_) | (refine awp_exit ?_) | (refine awp_ret ?_) | (refine awp_skip ?_))
  refine awp_if rfl (fun h => ?_) (fun h => ?_)
  · simp only [icmp, decide_eq_true_eq] at h
    have hi' : i < a.length := by omega
    have ht := (turn_at hk (i := i) (by omega)).1
    have hj : k * (i + 1) ≤ 32 := by
      have : i = 0 ∨ i = 1 := by omega
      rcases this with rfl | rfl <;> omega
    obtain ⟨o1, o2, o3⟩ := ph_at hj
    have tP : TCall Try.prog 116 [.f .f64 (fneg .f64 (fconv .f32 .f64 (turnW (k * (i + 1)))))] (.t (Cx (fconv .f64 .f32 (phRe (xW (k * (i + 1))))) (fconv .f64 .f32 (phIm (xW (k * (i + 1))))))) [] := phasor_c o1 o2.1.notnan o3.1.notnan
    have hb := hB i (by omega)
    have hb1 := hB (i + 1) (by omega)
    have e1 : (cxS a k (i + 1)).1 = fop .add .f32 (cxS a k i).1 (fop .mul .f32 (fconv .f64 .f32 (phRe (xW (k * (i + 1))))) (a.getD i 0)) := rfl
    have e2 : (cxS a k (i + 1)).2 = fop .add .f32 (cxS a k i).2 (fop .mul .f32 (fconv .f64 .f32 (phIm (xW (k * (i + 1))))) (a.getD i 0)) := rfl
    have hx := ha i hi'
    have m1 := mulB (L := 38 / 100) o2 hx (by unfold okM; constructor <;> decide +kernel) (by decide +kernel)
    have m2 := mulB (L := 38 / 100) o3 hx (by unfold okM; constructor <;> decide +kernel) (by decide +kernel)
    have tS := scaleC_c (y := a.getD i 0) (okConst_Fn o2.1) (okConst_Fn o3.1) m1.1.notnan m2.1.notnan
    have tA := plusC_c (okConst_Fn hb.1.1) (okConst_Fn hb.2.1) (okConst_Fn m1.1) (okConst_Fn m2.1) (by rw [← e1]; exact hb1.1.1.notnan) (by rw [← e2]; exact hb1.2.1.notnan)
    rw [← e1, ← e2] at tA
    generalize fop .mul .f32 (fconv .f64 .f32 (phRe (xW (k * (i + 1))))) (a.getD i 0) = u1 at *
    generalize fop .mul .f32 (fconv .f64 .f32 (phIm (xW (k * (i + 1))))) (a.getD i 0) = u2 at *
    generalize fconv .f64 .f32 (phRe (xW (k * (i + 1)))) = v1 at *
    generalize fconv .f64 .f32 (phIm (xW (k * (i + 1)))) = v2 at *
    repeat (first | (refine x_q (h := ?_)) | (refine xd_q (h := ?_)) | (refine w_q (h := ?_)) | (refine w_s (h := ?_)) | (refine w_t (h := ?_)) | (refine w_k (h := ?_)) | (refine y_q (h := ?_)) | (refine y_s (h := ?_)) | (refine y_t (h := ?_)) | (refine y_k (h := ?_)) | (refine lex_nil (by kernel_rfl) ?_) | (refine awp_sq ?_) | (refine awp_rg ?_) | (refine awp_rd (by kernel_rfl) (by kernel_rfl) ?_) | (refine awp_block ?_) | (refine awp_exit ?_) | (refine awp_ret ?_) | (refine awp_skip ?_))
    rw [ht]
    repeat (first | (refine x_q (h := ?_)) | (refine xd_q (h := ?_)) | (refine w_q (h := ?_)) | (refine w_s (h := ?_)) | (refine w_t (h := ?_)) | (refine w_k (h := ?_)) | (refine y_q (h := ?_)) | (refine y_s (h := ?_)) | (refine y_t (h := ?_)) | (refine y_k (h := ?_)) | (refine lex_nil (by kernel_rfl) ?_) | (refine awp_sq ?_) | (refine awp_rg ?_) | (refine awp_rd (by kernel_rfl) (by kernel_rfl) ?_) | (refine awp_block ?_) | (refine awp_exit ?_) | (refine awp_ret ?_) | (refine awp_skip ?_))
    (first | (refine c_q (tP) (h := ?_)) | (refine z_q (tP) (h := ?_)))
    repeat (first | (refine x_q (h := ?_)) | (refine xd_q (h := ?_)) | (refine w_q (h := ?_)) | (refine w_s (h := ?_)) | (refine w_t (h := ?_)) | (refine w_k (h := ?_)) | (refine y_q (h := ?_)) | (refine y_s (h := ?_)) | (refine y_t (h := ?_)) | (refine y_k (h := ?_)) | (refine lex_nil (by kernel_rfl) ?_) | (refine awp_sq ?_) | (refine awp_rg ?_) | (refine awp_rd (by kernel_rfl) (by kernel_rfl) ?_) | (refine awp_block ?_) | (refine awp_exit ?_) | (refine awp_ret ?_) | (refine awp_skip ?_))
    (first | (refine c_q (tS) (h := ?_)) | (refine z_q (tS) (h := ?_)))
    repeat (first | (refine x_q (h := ?_)) | (refine xd_q (h := ?_)) | (refine w_q (h := ?_)) | (refine w_s (h := ?_)) | (refine w_t (h := ?_)) | (refine w_k (h := ?_)) | (refine y_q (h := ?_)) | (refine y_s (h := ?_)) | (refine y_t (h := ?_)) | (refine y_k (h := ?_)) | (refine lex_nil (by kernel_rfl) ?_) | (refine awp_sq ?_) | (refine awp_rg ?_) | (refine awp_rd (by kernel_rfl) (by kernel_rfl) ?_) | (refine awp_block ?_) | (refine awp_exit ?_) | (refine awp_ret ?_) | (refine awp_skip ?_))
    (first | (refine c_q (tA) (h := ?_)) | (refine z_q (tA) (h := ?_)))
    repeat (first | (refine x_q (h := ?_)) | (refine xd_q (h := ?_)) | (refine w_q (h := ?_)) | (refine w_s (h := ?_)) | (refine w_t (h := ?_)) | (refine w_k (h := ?_)) | (refine y_q (h := ?_)) | (refine y_s (h := ?_)) | (refine y_t (h := ?_)) | (refine y_k (h := ?_)) | (refine lex_nil (by kernel_rfl) ?_) | (refine awp_sq ?_) | (refine awp_rg ?_) | (refine awp_rd (by kernel_rfl) (by kernel_rfl) ?_) | (refine awp_block ?_) | (refine awp_exit ?_) | (refine awp_ret ?_) | (refine awp_skip ?_))
    exact ⟨i + 1, by omega, by omega, fun i => i, ⟨rfl, rfl, rfl, rfl, rfl, rfl, trivial⟩, trivial, injOn_id _⟩
  simp only [icmp, decide_eq_false_iff_not] at h
  obtain rfl : i = a.length := by omega
  have tW := powerOf_c (okConst_Fn hP.d1) (okConst_Fn hP.d2) hP.ok
  have hpw : pwW a k = fop .quo .f32 1056964608 (fconv .f64 .f32 (powW (fop .sub .f32 1065353216 (cxS a k a.length).1) (fop .sub .f32 0 (cxS a k a.length).2))) := rfl
  have tN := ifFinite_c (pwW a k)
  rw [show numF (pwW a k) = (pwW a k, true) by unfold numF; rw [if_pos (show fin (pwW a k) = true from hP.fq)]] at tN
  have g1 := hP.gt
  have d1 := hP.d1.notnan
  have d2 := hP.d2.notnan
  have c1 := hP.c1
  have c2 := hP.c2
  rw [hpw] at tN ⊢
  clear hP hpw
  generalize (cxS a k a.length).1 = re at *
  generalize (cxS a k a.length).2 = im at *
  repeat (first | (refine x_q (h := ?_)) | (refine xd_q (h := ?_)) | (refine w_q (h := ?_)) | (refine w_s (h := ?_)) | (refine w_t (h := ?_)) | (refine w_k (h := ?_)) | (refine y_q (h := ?_)) | (refine y_s (h := ?_)) | (refine y_t (h := ?_)) | (refine y_k (h := ?_)) | (refine lex_nil (by kernel_rfl) ?_) | (refine awp_sq ?_) | (refine awp_rg ?_) | (refine awp_rd (by kernel_rfl) (by kernel_rfl) ?_) | (refine awp_block ?_) | (refine awp_exit ?_) | (refine awp_ret ?_) | (refine awp_skip ?_))
  (first | (refine w_r (q_real rfl rfl c1) (h := ?_)) | (refine y_r (q_real rfl rfl c1) (h := ?_)))
  repeat (first | (refine x_q (h := ?_)) | (refine xd_q (h := ?_)) | (refine w_q (h := ?_)) | (refine w_s (h := ?_)) | (refine w_t (h := ?_)) | (refine w_k (h := ?_)) | (refine y_q (h := ?_)) | (refine y_s (h := ?_)) | (refine y_t (h := ?_)) | (refine y_k (h := ?_)) | (refine lex_nil (by kernel_rfl) ?_) | (refine awp_sq ?_) | (refine awp_rg ?_) | (refine awp_rd (by kernel_rfl) (by kernel_rfl) ?_) | (refine awp_block ?_) | (refine awp_exit ?_) | (refine awp_ret ?_) | (refine awp_skip ?_))
  (first | (refine w_r (q_imag rfl rfl c2) (h := ?_)) | (refine y_r (q_imag rfl rfl c2) (h := ?_)))
  repeat (first | (refine x_q (h := ?_)) | (refine xd_q (h := ?_)) | (refine w_q (h := ?_)) | (refine w_s (h := ?_)) | (refine w_t (h := ?_)) | (refine w_k (h := ?_)) | (refine y_q (h := ?_)) | (refine y_s (h := ?_)) | (refine y_t (h := ?_)) | (refine y_k (h := ?_)) | (refine lex_nil (by kernel_rfl) ?_) | (refine awp_sq ?_) | (refine awp_rg ?_) | (refine awp_rd (by kernel_rfl) (by kernel_rfl) ?_) | (refine awp_block ?_) | (refine awp_exit ?_) | (refine awp_ret ?_) | (refine awp_skip ?_))
  (first | (refine w_r (q_cplx rfl rfl rfl d1 d2) (h := ?_)) | (refine y_r (q_cplx rfl rfl rfl d1 d2) (h := ?_)))
  repeat (first | (refine x_q (h := ?_)) | (refine xd_q (h := ?_)) | (refine w_q (h := ?_)) | (refine w_s (h := ?_)) | (refine w_t (h := ?_)) | (refine w_k (h := ?_)) | (refine y_q (h := ?_)) | (refine y_s (h := ?_)) | (refine y_t (h := ?_)) | (refine y_k (h := ?_)) | (refine lex_nil (by kernel_rfl) ?_) | (refine awp_sq ?_) | (refine awp_rg ?_) | (refine awp_rd (by kernel_rfl) (by kernel_rfl) ?_) | (refine awp_block ?_) | (refine awp_exit ?_) | (refine awp_ret ?_) | (refine awp_skip ?_))
  (first | (refine c_q (tW) (h := ?_)) | (refine z_q (tW) (h := ?_)))
  repeat (first | (refine x_q (h := ?_)) | (refine xd_q (h := ?_)) | (refine w_q (h := ?_)) | (refine w_s (h := ?_)) | (refine w_t (h := ?_)) | (refine w_k (h := ?_)) | (refine y_q (h := ?_)) | (refine y_s (h := ?_)) | (refine y_t (h := ?_)) | (refine y_k (h := ?_)) | (refine lex_nil (by kernel_rfl) ?_) | (refine awp_sq ?_) | (refine awp_rg ?_) | (refine awp_rd (by kernel_rfl) (by kernel_rfl) ?_) | (refine awp_block ?_) | (refine awp_exit ?_) | (refine awp_ret ?_) | (refine awp_skip ?_))
  rw [g1]
  repeat (first | (refine x_q (h := ?_)) | (refine xd_q (h := ?_)) | (refine w_q (h := ?_)) | (refine w_s (h := ?_)) | (refine w_t (h := ?_)) | (refine w_k (h := ?_)) | (refine y_q (h := ?_)) | (refine y_s (h := ?_)) | (refine y_t (h := ?_)) | (refine y_k (h := ?_)) | (refine lex_nil (by kernel_rfl) ?_) | (refine awp_sq ?_) | (refine awp_rg ?_) | (refine awp_rd (by kernel_rfl) (by kernel_rfl) ?_) | (refine awp_block ?_) | (refine awp_exit ?_) | (refine awp_ret ?_) | (refine awp_skip ?_))
  refine awp_ifF rfl rfl ?_
  repeat (first | (refine x_q (h := ?_)) | (refine xd_q (h := ?_)) | (refine w_q (h := ?_)) | (refine w_s (h := ?_)) | (refine w_t (h := ?_)) | (refine w_k (h := ?_)) | (refine y_q (h := ?_)) | (refine y_s (h := ?_)) | (refine y_t (h := ?_)) | (refine y_k (h := ?_)) | (refine lex_nil (by kernel_rfl) ?_) | (refine awp_sq ?_) | (refine awp_rg ?_) | (refine awp_rd (by kernel_rfl) (by kernel_rfl) ?_) | (refine awp_block ?_) | (refine awp_exit ?_) | (refine awp_ret ?_) | (refine awp_skip ?_))
  (first | (refine c_q (tN) (h := ?_)) | (refine z_q (tN) (h := ?_)))
  repeat (first | (refine x_q (h := ?_)) | (refine xd_q (h := ?_)) | (refine w_q (h := ?_)) | (refine w_s (h := ?_)) | (refine w_t (h := ?_)) | (refine w_k (h := ?_)) | (refine y_q (h := ?_)) | (refine y_s (h := ?_)) | (refine y_t (h := ?_)) | (refine y_k (h := ?_)) | (refine lex_nil (by kernel_rfl) ?_) | (refine awp_sq ?_) | (refine awp_rg ?_) | (refine awp_rd (by kernel_rfl) (by kernel_rfl) ?_) | (refine awp_block ?_) | (refine awp_exit ?_) | (refine awp_ret ?_) | (refine awp_skip ?_))
  (refine ret_ok tyOk (by first | exact .inr rfl | exact .inl rfl) pi0 rfl (by first | exact .cons (by first | exact .tmp | exact .cell rfl rfl rfl rfl rfl rfl | exact .cell1 rfl rfl rfl rfl rfl) .nil | exact .cons (by first | exact .tmp | exact .cell rfl rfl rfl rfl rfl rfl | exact .cell1 rfl rfl rfl rfl rfl) (.cons (by first | exact .tmp | exact .cell rfl rfl rfl rfl rfl rfl | exact .cell1 rfl rfl rfl rfl rfl) .nil) | exact .cons (by first | exact .tmp | exact .cell rfl rfl rfl rfl rfl rfl | exact .cell1 rfl rfl rfl rfl rfl) (.cons (by first | exact .tmp | exact .cell rfl rfl rfl rfl rfl rfl | exact .cell1 rfl rfl rfl rfl rfl) (.cons (by first | exact .tmp | exact .cell rfl rfl rfl rfl rfl rfl | exact .cell1 rfl rfl rfl rfl rfl) .nil)) | exact .cons (by first | exact .tmp | exact .cell rfl rfl rfl rfl rfl rfl | exact .cell1 rfl rfl rfl rfl rfl) (.cons (by first | exact .tmp | exact .cell rfl rfl rfl rfl rfl rfl | exact .cell1 rfl rfl rfl rfl rfl) (.cons (by first | exact .tmp | exact .cell rfl rfl rfl rfl rfl rfl | exact .cell1 rfl rfl rfl rfl rfl) (.cons (by first | exact .tmp | exact .cell rfl rfl rfl rfl rfl rfl | exact .cell1 rfl rfl rfl rfl rfl) .nil)))) ?_ trivial (injO_0 _); (repeat' (first | exact RetRelL.nil | (refine RetRel.nil rfl ?_) | refine RetRelL.cons ?_ ?_ | refine rr_tup ?_ | refine rr_agg ?_ | refine rr_own rfl ?_ | exact RetRel.arg | exact RetRel.argc | refine rr_t ?_)); all_goals rfl)
end Go.Proofs.Ytmnpdipiffmnhaa
