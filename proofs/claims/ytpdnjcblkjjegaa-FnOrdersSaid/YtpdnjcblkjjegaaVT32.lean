import Derived.Test.YtpdnjcblkjjegaaVT28
import Derived.Test.YtpdnjcblkjjegaaVAwD
set_option linter.unusedVariables false
set_option linter.unusedSimpArgs false
set_option maxRecDepth 20000
set_option maxHeartbeats 8000000
namespace Go.Proofs.Ytpdnjcblkjjegaa
open Go.Aw
attribute [local irreducible] QRun LexD AWp TCall TMut

theorem fEq {k : FloatKind} {a b : Nat} (h : a = b) : AV.t (.f k a) = AV.t (.f k b) := by rw [h]
theorem iEq {k : IntKind} {a b : Int} (h : a = b) : AV.t (.v (.int k a)) = AV.t (.v (.int k b)) := by rw [h]
theorem lgQ0 (u : Nat) : lgQ u 0 = 0 := rfl
theorem lgQS (u n : Nat) : lgQ u (n + 1) = fop .add .f64 (fop .quo .f64 4607182418800017408 (fint .f64 (25 - 2 * (n : Int)))) (fop .mul .f64 u (lgQ u n)) := rfl
theorem fint0 : fint .f64 ((0 : Nat) : Int) = 0 := by decide +kernel
theorem fint25 : fint .f64 (25 - 2 * ((0 : Nat) : Int)) = 4627730092099895296 := by decide +kernel

def logF (c : Nat) : Nat := if fcmp .eql .f32 c 0 then fconv .f64 .f32 18442240474082181120 else if fcmp .lss .f32 c 0 || fcmp .neq .f32 c c then fconv .f64 .f32 (nan0 .f64) else if !fin c then c else fconv .f64 .f32 (lgW (fconv .f32 .f64 c))
def logY (y : Nat) : Nat := if fcmp .neq .f64 y y || fcmp .lss .f64 y 0 then nan0 .f64 else if fcmp .eql .f64 y 0 then 18442240474082181120 else if fcmp .gtr .f64 y 9218868437227405311 then y else lgW y
theorem canNan : canon .f64 9221120237041090561 = nan0 .f64 := by decide +kernel
theorem canNI : canon .f64 18442240474082181120 = 18442240474082181120 := by decide +kernel
theorem log_pos {c : Nat} (h : F32 c) (h0 : fcmp .eql .f32 c 0 = false) (h1 : fcmp .lss .f32 c 0 = false) (h2 : fcmp .neq .f32 c c = false) (h3 : fin c = true) :
    874 * 4503599627370496 ≤ fconv .f32 .f64 c ∧ fconv .f32 .f64 c ≤ 1151 * 4503599627370496 := by
  have hn : isNan .f32 c = false := by rw [← neq_self]; exact h2
  rw [fin_R] at h3
  have hr := of_decide_eq_true h3
  rw [sw32, inf32] at hr
  have ho : FloatKind.f32.format.order c 0 = some (compare (sv .f32 c) 0) := by rw [order_sv .f32 hn (zero_notnan _), sv_zero]
  have hz : c % 2147483648 ≠ 0 := fun hz => by
    have : sv .f32 c = 0 := by unfold sv; rw [sw32, hz]; simp
    rw [this] at ho
    unfold fcmp at h0
    rw [ho] at h0
    exact absurd h0 (by decide)
  obtain ⟨r, e, r1, r2⟩ := widen_mid hz hr
  have hs : (c / 2147483648 % 2 == 1) = false := by
    cases hs : (c / 2147483648 % 2 == 1) with
    | false => rfl
    | true =>
      have : sv .f32 c < 0 := by unfold sv; rw [sw32, hs]; simp; omega
      unfold fcmp at h1
      rw [ho, cmp_lt this] at h1
      exact absurd h1 (by decide)
  rw [hs, word_f] at e
  rw [e]
  exact ⟨r1, r2⟩
theorem logY1 {y : Nat} (h : (fcmp .neq .f64 y y || fcmp .lss .f64 y 0) = true) : logY y = nan0 .f64 := by unfold logY; rw [if_pos h]
theorem logY2 {y : Nat} (h : (fcmp .neq .f64 y y || fcmp .lss .f64 y 0) = false) (h2 : fcmp .eql .f64 y 0 = true) : logY y = 18442240474082181120 := by unfold logY; rw [if_neg (by rw [h]; exact Bool.false_ne_true), if_pos h2]
theorem logY3 {y : Nat} (h : (fcmp .neq .f64 y y || fcmp .lss .f64 y 0) = false) (h2 : fcmp .eql .f64 y 0 = false) (h3 : fcmp .gtr .f64 y 9218868437227405311 = true) : logY y = y := by
  unfold logY; rw [if_neg (by rw [h]; exact Bool.false_ne_true), if_neg (by rw [h2]; exact Bool.false_ne_true), if_pos h3]
theorem logY4 {y : Nat} (h : (fcmp .neq .f64 y y || fcmp .lss .f64 y 0) = false) (h2 : fcmp .eql .f64 y 0 = false) (h3 : fcmp .gtr .f64 y 9218868437227405311 = false) : logY y = lgW y := by
  unfold logY; rw [if_neg (by rw [h]; exact Bool.false_ne_true), if_neg (by rw [h2]; exact Bool.false_ne_true), if_neg (by rw [h3]; exact Bool.false_ne_true)]
theorem logF1 {c : Nat} (h : fcmp .eql .f32 c 0 = true) : logF c = fconv .f64 .f32 18442240474082181120 := by unfold logF; rw [if_pos h]
theorem logF2 {c : Nat} (h : fcmp .eql .f32 c 0 = false) (h2 : (fcmp .lss .f32 c 0 || fcmp .neq .f32 c c) = true) : logF c = fconv .f64 .f32 (nan0 .f64) := by unfold logF; rw [if_neg (by rw [h]; exact Bool.false_ne_true), if_pos h2]
theorem logF3 {c : Nat} (h : fcmp .eql .f32 c 0 = false) (h2 : (fcmp .lss .f32 c 0 || fcmp .neq .f32 c c) = false) (h3 : fin c = false) : logF c = c := by
  unfold logF; rw [if_neg (by rw [h]; exact Bool.false_ne_true), if_neg (by rw [h2]; exact Bool.false_ne_true), if_pos (by rw [h3]; rfl)]
theorem logF4 {c : Nat} (h : fcmp .eql .f32 c 0 = false) (h2 : (fcmp .lss .f32 c 0 || fcmp .neq .f32 c c) = false) (h3 : fin c = true) : logF c = fconv .f64 .f32 (lgW (fconv .f32 .f64 c)) := by
  unfold logF; rw [if_neg (by rw [h]; exact Bool.false_ne_true), if_neg (by rw [h2]; exact Bool.false_ne_true), if_neg (by rw [h3]; exact Bool.false_ne_true)]
theorem lcN : fconvOk .f64 .f32 (nan0 .f64) = true := by decide +kernel
theorem lcI : fconvOk .f64 .f32 18442240474082181120 = true := by decide +kernel
theorem logc1 : fconvOk .f64 .f32 (logY (fconv .f32 .f64 (nan0 .f32))) = true ∧ fconv .f64 .f32 (logY (fconv .f32 .f64 (nan0 .f32))) = logF (nan0 .f32) := by
  have e : fconv .f32 .f64 (nan0 .f32) = nan0 .f64 := by decide +kernel
  rw [e, logY1 (by decide +kernel), logF2 (by decide +kernel) (by decide +kernel)]
  exact ⟨lcN, rfl⟩
theorem logc2 : fconvOk .f64 .f32 (logY (fconv .f32 .f64 0)) = true ∧ fconv .f64 .f32 (logY (fconv .f32 .f64 0)) = logF 0 := by
  have e : fconv .f32 .f64 0 = 0 := by decide +kernel
  rw [e, logY2 (by decide +kernel) (by decide +kernel), logF1 (by decide +kernel)]
  exact ⟨lcI, rfl⟩
theorem logc3 : fconvOk .f64 .f32 (logY (fconv .f32 .f64 2147483648)) = true ∧ fconv .f64 .f32 (logY (fconv .f32 .f64 2147483648)) = logF 2147483648 := by
  have e : fconv .f32 .f64 2147483648 = 9223372036854775808 := by decide +kernel
  rw [e, logY2 (by decide +kernel) (by decide +kernel), logF1 (by decide +kernel)]
  exact ⟨lcI, rfl⟩
theorem logc4 : fconvOk .f64 .f32 (logY (fconv .f32 .f64 2139095040)) = true ∧ fconv .f64 .f32 (logY (fconv .f32 .f64 2139095040)) = logF 2139095040 := by
  have e : fconv .f32 .f64 2139095040 = 9218868437227405312 := by decide +kernel
  rw [e, logY3 (by decide +kernel) (by decide +kernel) (by decide +kernel), logF3 (by decide +kernel) (by decide +kernel) (by decide +kernel)]
  exact ⟨by decide +kernel, by decide +kernel⟩
theorem logc5 : fconvOk .f64 .f32 (logY (fconv .f32 .f64 4286578688)) = true ∧ fconv .f64 .f32 (logY (fconv .f32 .f64 4286578688)) = logF 4286578688 := by
  have e : fconv .f32 .f64 4286578688 = 18442240474082181120 := by decide +kernel
  rw [e, logY1 (by decide +kernel), logF2 (by decide +kernel) (by decide +kernel)]
  exact ⟨lcN, rfl⟩
theorem log_eq {c : Nat} (h : F32 c) : fconvOk .f64 .f32 (logY (fconv .f32 .f64 c)) = true ∧ fconv .f64 .f32 (logY (fconv .f32 .f64 c)) = logF c := by
  have hF := h
  obtain ⟨h1, h2⟩ := h
  cases hn : isNan .f32 c with
  | true =>
    have : c = nan0 .f32 := by rw [← h1, canon_nan hn]
    subst this
    exact logc1
  | false =>
    have hr : c % 2147483648 ≤ 2139095040 := by
      rw [isNan_rung, sw32, inf32] at hn
      have := of_decide_eq_false hn
      omega
    by_cases h0 : c % 2147483648 = 0
    · have : c = 0 ∨ c = 2147483648 := by omega
      rcases this with rfl | rfl
      · exact logc2
      · exact logc3
    by_cases hi : c % 2147483648 = 2139095040
    · have : c = 2139095040 ∨ c = 4286578688 := by omega
      rcases this with rfl | rfl
      · exact logc4
      · exact logc5
    have ho : FloatKind.f32.format.order c 0 = some (compare (sv .f32 c) 0) := by rw [order_sv .f32 hn (zero_notnan _), sv_zero]
    obtain ⟨r, e, r1, r2⟩ := widen_mid h0 (by omega)
    rcases Nat.lt_or_ge c 2147483648 with hp | hp
    · have hs : (c / 2147483648 % 2 == 1) = false := by rw [Nat.div_eq_of_lt hp]; rfl
      have hsv : 0 < sv .f32 c := by unfold sv; rw [sw32, hs]; simp; omega
      rw [hs, word_f] at e
      have a1 : fcmp .eql .f32 c 0 = false := by unfold fcmp; rw [ho, cmp_gt hsv]; rfl
      have a2 : fcmp .lss .f32 c 0 = false := by unfold fcmp; rw [ho, cmp_gt hsv]; rfl
      have a3 : fcmp .neq .f32 c c = false := by rw [neq_self]; exact hn
      have a4 : fin c = true := by rw [fin_R]; exact decide_eq_true (by rw [sw32, inf32]; omega)
      have hor : ∀ b : Nat, b < 9218868437227405312 → FloatKind.f64.format.order r b = some (compare (r : Int) (b : Int)) := fun b hb => ord_pos (by omega) hb
      have b1 : fcmp .neq .f64 r r = false := by rw [neq_self]; exact pos_notnan (by omega)
      have b2 : fcmp .lss .f64 r 0 = false := by unfold fcmp; rw [hor 0 (by omega), cmp_gt (by omega)]; rfl
      have b3 : fcmp .eql .f64 r 0 = false := by unfold fcmp; rw [hor 0 (by omega), cmp_gt (by omega)]; rfl
      have b4 : fcmp .gtr .f64 r 9218868437227405311 = false := by unfold fcmp; rw [hor _ (by omega), cmp_lt (by omega)]; rfl
      have hy : logY (fconv .f32 .f64 c) = lgW (fconv .f32 .f64 c) := by
        rw [e]; exact logY4 (by rw [b1, b2]; rfl) b3 b4
      rw [hy]
      refine ⟨by rw [e]; exact lgW_ok r1 r2, ?_⟩
      exact (logF4 a1 (by rw [a2, a3]; rfl) a4).symm
    · have hs : (c / 2147483648 % 2 == 1) = true := by
        have : c / 2147483648 = 1 := by omega
        rw [this]; rfl
      have hsv : sv .f32 c < 0 := by unfold sv; rw [sw32, hs]; simp; omega
      rw [hs] at e
      have a1 : fcmp .eql .f32 c 0 = false := by unfold fcmp; rw [ho, cmp_lt hsv]; rfl
      have a2 : fcmp .lss .f32 c 0 = true := by unfold fcmp; rw [ho, cmp_lt hsv]; rfl
      have hw := word_parts .f64 true (r := r) (by rw [sw64]; omega)
      have hyn : isNan .f64 (FloatKind.f64.format.word true r) = false := by rw [isNan_rung, hw.1, inf64]; exact decide_eq_false (by omega)
      have hysv : sv .f64 (FloatKind.f64.format.word true r) < 0 := by unfold sv; rw [hw.1, hw.2.1]; simp; omega
      have b2 : fcmp .lss .f64 (FloatKind.f64.format.word true r) 0 = true := by unfold fcmp; rw [order_sv .f64 hyn (zero_notnan _), sv_zero, cmp_lt hysv]; rfl
      have hy : logY (fconv .f32 .f64 c) = nan0 .f64 := by rw [e]; exact logY1 (by rw [b2, Bool.or_true])
      rw [hy]
      exact ⟨lcN, (logF2 a1 (by rw [a2]; rfl)).symm⟩

theorem logFacts {y : Nat} (h1 : 874 * 4503599627370496 ≤ y) (h2 : y ≤ 1151 * 4503599627370496) :
    lgN1 y ≤ 129 ∧ (∀ n, n < lgN1 y → 4609434218613702656 ≤ y - n * 4503599627370496) ∧ (∀ n, n = lgN1 y → ¬ 4609434218613702656 ≤ y - n * 4503599627370496) ∧
    lgN2 (lgY1 y) ≤ 150 ∧ (∀ n, n < lgN2 (lgY1 y) → lgY1 y + n * 4503599627370496 < 4604930618986332160) ∧ (∀ n, n = lgN2 (lgY1 y) → ¬ lgY1 y + n * 4503599627370496 < 4604930618986332160) ∧
    (∀ n, n ≤ lgN2 (lgY1 y) → lgY1 y + n * 4503599627370496 < 4609434218613702656) ∧ 874 * 4503599627370496 ≤ lgY1 y := by
  obtain ⟨a1, a2, a3, a4, a5⟩ := lgN1_spec h2
  have hy1 : 874 * 4503599627370496 ≤ lgY1 y := by
    unfold lgY1
    rcases a5 with h | h
    · rw [h, Nat.zero_mul, Nat.sub_zero]; exact h1
    · exact Nat.le_trans (by decide) h
  obtain ⟨b1, b2, b3, b4⟩ := lgN2_spec (y := lgY1 y) hy1 (by unfold lgY1; exact a3)
  exact ⟨a1, fun n hn => (a2 n hn).1, fun n hn => by rw [hn]; exact Nat.not_le.2 a3, b1, b2, fun n hn => by rw [hn]; exact Nat.not_lt.2 b3,
    fun n hn => Nat.lt_of_le_of_lt (Nat.add_le_add_left (Nat.mul_le_mul_right _ hn) _) b4, hy1⟩
theorem log_range {c : Nat} (h : F32 c) (k1 : (fcmp .neq .f64 (fconv .f32 .f64 c) (fconv .f32 .f64 c) || fcmp .lss .f64 (fconv .f32 .f64 c) 0) = false) (k2 : fcmp .eql .f64 (fconv .f32 .f64 c) 0 = false) (k3 : fcmp .gtr .f64 (fconv .f32 .f64 c) 9218868437227405311 = false) :
    874 * 4503599627370496 ≤ fconv .f32 .f64 c ∧ fconv .f32 .f64 c ≤ 1151 * 4503599627370496 := by
  obtain ⟨h1, h2⟩ := h
  cases hn : isNan .f32 c with
  | true =>
    have : c = nan0 .f32 := by rw [← h1, canon_nan hn]
    subst this
    have e : fconv .f32 .f64 (nan0 .f32) = nan0 .f64 := by decide +kernel
    rw [e] at k1
    exact absurd k1 (by decide +kernel)
  | false =>
    have hr : c % 2147483648 ≤ 2139095040 := by
      rw [isNan_rung, sw32, inf32] at hn
      have := of_decide_eq_false hn
      omega
    by_cases h0 : c % 2147483648 = 0
    · have : c = 0 ∨ c = 2147483648 := by omega
      rcases this with rfl | rfl
      · have e : fconv .f32 .f64 0 = 0 := by decide +kernel
        rw [e] at k2; exact absurd k2 (by decide +kernel)
      · have e : fconv .f32 .f64 2147483648 = 9223372036854775808 := by decide +kernel
        rw [e] at k2; exact absurd k2 (by decide +kernel)
    by_cases hi : c % 2147483648 = 2139095040
    · have : c = 2139095040 ∨ c = 4286578688 := by omega
      rcases this with rfl | rfl
      · have e : fconv .f32 .f64 2139095040 = 9218868437227405312 := by decide +kernel
        rw [e] at k3; exact absurd k3 (by decide +kernel)
      · have e : fconv .f32 .f64 4286578688 = 18442240474082181120 := by decide +kernel
        rw [e] at k1; exact absurd k1 (by decide +kernel)
    obtain ⟨r, e, r1, r2⟩ := widen_mid h0 (by omega)
    cases hs : (c / 2147483648 % 2 == 1) with
    | false => rw [hs, word_f] at e; rw [e]; exact ⟨r1, r2⟩
    | true =>
      rw [hs] at e
      have hw := word_parts .f64 true (r := r) (by rw [sw64]; omega)
      have hyn : isNan .f64 (FloatKind.f64.format.word true r) = false := by rw [isNan_rung, hw.1, inf64]; exact decide_eq_false (by omega)
      have hysv : sv .f64 (FloatKind.f64.format.word true r) < 0 := by unfold sv; rw [hw.1, hw.2.1]; simp; omega
      have b2 : fcmp .lss .f64 (FloatKind.f64.format.word true r) 0 = true := by unfold fcmp; rw [order_sv .f64 hyn (zero_notnan _), sv_zero, cmp_lt hysv]; rfl
      rw [e, b2, Bool.or_true] at k1
      cases k1
end Go.Proofs.Ytpdnjcblkjjegaa

