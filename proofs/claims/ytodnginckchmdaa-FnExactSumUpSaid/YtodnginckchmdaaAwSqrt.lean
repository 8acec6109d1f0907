/- How great a rounded number is; square roots; narrowing. -/
import Derived.Test.YtodnginckchmdaaAwMore
import Derived.Test.YtodnginckchmdaaAwReal2
set_option linter.unusedVariables false
namespace Go.Aw
open Go.RowKit (Below)

theorem cut_le (s : Bool) (n d B : Nat) (h : n < B * 2 ^ min d (n.log2 + 2)) : Ieee.Toward.even.cut s n d ≤ B := by
  unfold Ieee.Toward.cut
  simp only [Nat.shiftLeft_eq, Nat.one_mul]
  have h1 : n / 2 ^ min d (n.log2 + 2) < B := Nat.div_lt_of_lt_mul (by rw [Nat.mul_comm]; exact h)
  have h2 : ∀ b : Bool, b.toNat ≤ 1 := fun b => by cases b <;> simp
  have := h2 (decide (2 ^ min d (n.log2 + 2) < 2 * (n % 2 ^ min d (n.log2 + 2))) || (2 ^ min d (n.log2 + 2) == 2 * (n % 2 ^ min d (n.log2 + 2)) && n / 2 ^ min d (n.log2 + 2) % 2 == 1))
  omega

/-- the rung of the nearest word: 'E' the place of the first digit -/
theorem nearest_E (f : Ieee.Format) (s : Bool) (m : Nat) (e E : Int) (hm : m ≠ 0) (hE : e + (m.log2 : Int) ≤ E) (hlp : f.leastPlace ≤ E - (f.fractionBits : Int)) :
    ∃ r, r ≤ ((E - (f.fractionBits : Int) - f.leastPlace).toNat + 2) * f.binade ∧ r ≤ f.infRung ∧ f.nearest s m e = f.word s r := by
  unfold Ieee.Format.nearest
  simp only [if_neg hm]
  refine ⟨_, ?_, Nat.min_le_right _ _, rfl⟩
  refine Nat.le_trans (Nat.min_le_left _ _) ?_
  have hB : f.binade = 2 ^ f.fractionBits := rfl
  have hlt : m < 2 ^ (m.log2 + 1) := Nat.lt_log2_self
  generalize hla : max (e + (m.log2 : Int) - (f.fractionBits : Int)) f.leastPlace = last
  have hkept : Ieee.Toward.even.cut s (m <<< (e - last).toNat) (last - e).toNat ≤ 2 * f.binade := by
    refine cut_le _ _ _ _ ?_
    rw [Nat.shiftLeft_eq, log2_mul_pow hm, hB]
    have e0 : 2 * 2 ^ f.fractionBits = 2 ^ (f.fractionBits + 1) := by rw [Nat.pow_succ, Nat.mul_comm]
    rw [e0, ← Nat.pow_add]
    by_cases h1 : last ≤ e
    · have a1 : (last - e).toNat = 0 := by omega
      rw [a1, Nat.zero_min, Nat.add_zero]
      calc m * 2 ^ (e - last).toNat < 2 ^ (m.log2 + 1) * 2 ^ (e - last).toNat := Nat.mul_lt_mul_of_pos_right hlt (Nat.two_pow_pos _)
        _ = 2 ^ (m.log2 + 1 + (e - last).toNat) := (Nat.pow_add ..).symm
        _ ≤ 2 ^ (f.fractionBits + 1) := Nat.pow_le_pow_right (by decide) (by omega)
    · have a1 : (e - last).toNat = 0 := by omega
      rw [a1, Nat.pow_zero, Nat.mul_one, Nat.add_zero]
      refine Nat.lt_of_lt_of_le hlt (Nat.pow_le_pow_right (by decide) ?_)
      omega
  have h2 : (last - f.leastPlace).toNat * f.binade ≤ (E - (f.fractionBits : Int) - f.leastPlace).toNat * f.binade := Nat.mul_le_mul_right _ (by omega)
  rw [Nat.add_mul]
  omega

/-- the place of a word's first digit is at most E -/
def LeE (k : FloatKind) (c : Nat) (E : Int) : Prop := c % k.format.signWeight < ((E - (k.format.fractionBits : Int) - k.format.leastPlace).toNat + 2) * k.format.binade
theorem fb32 : FloatKind.f32.format.fractionBits = 23 := rfl
theorem fb64 : FloatKind.f64.format.fractionBits = 52 := rfl

/-- narrowing of what is not great -/
theorem narrow_ok {c : Nat} (h : c % 9223372036854775808 < 1150 * 4503599627370496 ∨ finR .f64 c = false) : fconvOk .f64 .f32 c = true := by
  unfold fconvOk
  rcases h with h | h
  · have hr : c % FloatKind.f64.format.signWeight < FloatKind.f64.format.infRung := by rw [sw64, inf64]; omega
    cases hn : isNan .f64 c with
    | true => rfl
    | false =>
      have key : ∀ s m e, (m ≠ 0 → e + (m.log2 : Int) ≤ 126) → (FloatKind.f32.decode (FloatKind.f32.encode (.number s m e))).isInfinity = false := by
        intro s m e hme
        have fin : ∀ r, r < 2139095040 → (FloatKind.f32.decode (FloatKind.f32.format.word s r)).isInfinity = false := by
          intro r hr
          unfold FloatKind.decode Ieee.Format.read
          dsimp only
          rw [(neg_of_word _ _ r (by rw [sw32]; omega)).1, bin32, inf32]
          by_cases h1 : r < 8388608
          · rw [if_pos h1]; rfl
          · rw [if_neg h1, if_pos hr]; rfl
        show (FloatKind.f32.decode (FloatKind.f32.format.nearest s m e)).isInfinity = false
        by_cases hm : m = 0
        · subst hm
          have : FloatKind.f32.format.nearest s 0 e = FloatKind.f32.format.word s 0 := by simp [Ieee.Format.nearest]
          rw [this]; exact fin 0 (by decide)
        · obtain ⟨r, h1, _, h2⟩ := nearest_E FloatKind.f32.format s m e 126 hm (hme hm) (by rw [lp32, fb32]; decide)
          rw [h2]
          refine fin r ?_
          rw [lp32, fb32, bin32] at h1
          have : ((126 : Int) - ((23 : Nat) : Int) - -149).toNat = 252 := by decide
          rw [this] at h1
          omega
      have hd : FloatKind.f64.decode c = FloatKind.f64.format.read c := rfl
      rw [hd]
      unfold Ieee.Format.read
      dsimp only
      rw [sw64, bin64, inf64, lp64]
      by_cases h1 : c % 9223372036854775808 < 4503599627370496
      · rw [if_pos h1]
        simp only [Bool.false_or]
        rw [key _ _ _ (fun h0 => by
          have : (c % 9223372036854775808).log2 < 52 := (Nat.log2_lt h0).2 (by omega)
          omega)]
        simp
      · rw [if_neg h1, if_pos (by omega)]
        simp only [Bool.false_or]
        rw [key _ _ _ (fun h0 => by
          have : (4503599627370496 + c % 9223372036854775808 % 4503599627370496).log2 < 53 := (Nat.log2_lt h0).2 (by omega)
          omega)]
        simp
  · rcases read_notfin h with ⟨s, t, e⟩ | ⟨s, e⟩
    · have : isNan .f64 c = true := (isNan_iff _ _).2 ⟨s, t, e⟩
      rw [this]; rfl
    · have : FloatKind.f64.decode c = .infinity s := e
      rw [this]; simp [Ieee.Datum.isInfinity]

/-! ### square roots -/
def fsqrt (c : Nat) : Nat := match FloatKind.f64.format.sqrt c with
  | some r => canon .f64 r
  | none => nan0 .f64
theorem rootFrom_sq (n : Nat) : ∀ (todo r : Nat), r * r ≤ n → Ieee.Datum.rootFrom n todo r * Ieee.Datum.rootFrom n todo r ≤ n
  | 0, r, h => by simpa [Ieee.Datum.rootFrom] using h
  | todo + 1, r, h => by
    unfold Ieee.Datum.rootFrom
    simp only []
    refine rootFrom_sq n todo _ ?_
    split
    · assumption
    · exact h
theorem sq_lt {w L : Nat} (h : w * w < 2 ^ (L + 1)) : w < 2 ^ (L / 2 + 1) := by
  rcases Nat.lt_or_ge w (2 ^ (L / 2 + 1)) with h1 | h1
  · exact h1
  · exfalso
    have h2 : 2 ^ (L / 2 + 1) * 2 ^ (L / 2 + 1) ≤ w * w := Nat.mul_le_mul h1 h1
    rw [← Nat.pow_add] at h2
    have h3 : 2 ^ (L + 1) ≤ 2 ^ (L / 2 + 1 + (L / 2 + 1)) := Nat.pow_le_pow_right (by decide) (by omega)
    omega
theorem fsqrt_FR {x c : Nat} (hx : FR .f64 x c) : FloatKind.f64.format.sqrt x = FloatKind.f64.format.sqrt c := by
  cases hc : isNan .f64 c with
  | true =>
    obtain ⟨s, t, h⟩ := datum_nan hc
    obtain ⟨s', t', h'⟩ := datum_nan (hx.nan.trans hc)
    unfold Ieee.Format.sqrt
    rw [h, h']; simp [Ieee.Datum.root]
  | false => rw [hx.eq hc]

theorem q_sqrt {P : Program} {o : Oper} {F : List Nat} {ρ : Fr} {η : Hp} {f : FuncId} {x : Operand} {tys : Array TypeId} {c : Nat} (he : ExtOk P f Extern.MathSqrt.sqrt) (ho : o.op = .call { callee := .value (.func f), args := #[x], argTypes := tys })
    (hx : evA ρ x = .t (.f .f64 c)) : QRun P o F [] ρ η (.t (.f .f64 (fsqrt c))) (lkH []) := by
  refine qrun_val fun vs w0 μ η' a w h1 h2 h3 => ?_
  have hx' := h3 x (by simp [ho, Op.operands, Call.operands])
  rw [hx, VR, TR] at hx'
  obtain ⟨b, hb, hf⟩ := hx'
  have ef : a.eval (.func f) = .func (.func f) #[] #[] := rfl
  have e := fsqrt_FR hf
  have eg : Extern.MathSqrt.sqrt #[.float .f64 b] = (match FloatKind.f64.format.sqrt b with
    | some r => pure (.float .f64 r)
    | none => do pure (.float .f64 (← choose (.nanBits .f64 b b)))) := rfl
  cases hs : FloatKind.f64.format.sqrt c with
  | some r =>
    rw [hs] at e
    refine ⟨.float .f64 r, w.drawn, ?_, ?_⟩
    · simp [execOp, ho, hb, resolve, Deferred.ofValue, ef, invoke, he.run, eg, e]
    · rw [VR, TR]
      refine ⟨r, rfl, ?_⟩
      unfold fsqrt; rw [hs]
      refine FR_of ?_
      exact FloatKind.f64.format.sqrt_lt hs
  | none =>
    rw [hs] at e
    refine ⟨.float .f64 ((Question.nanBits .f64 b b).cut (w.tape w.drawn (.nanBits .f64 b b))), w.drawn + 1, ?_, ?_⟩
    · simp [execOp, ho, hb, resolve, Deferred.ofValue, ef, invoke, he.run, eg, e, Question.forced]
    · rw [VR, TR]
      refine ⟨_, rfl, ?_⟩
      unfold fsqrt; rw [hs]
      exact nanBits_FR .f64 b b (w.tape w.drawn (.nanBits .f64 b b))
theorem finR_bad_sqrt {w : Nat} (h : finR .f64 w = false) : finR .f64 (fsqrt w) = false := by
  unfold fsqrt Ieee.Format.sqrt
  rcases read_notfin h with ⟨s, t, e⟩ | ⟨s, e⟩
  · rw [e]; simp only [Ieee.Datum.root, Option.map_none]; exact finR_nan0 _
  · rw [e]
    cases s with
    | true => simp only [Ieee.Datum.root, if_true, Option.map_none]; exact finR_nan0 _
    | false =>
      simp only [Ieee.Datum.root, Bool.false_eq_true, if_false, Option.map_some]
      rw [finR_canon]; exact finR_word_inf .f64 false
theorem word_rung64 (s : Bool) {r : Nat} (h : r ≤ 9218868437227405312) : (FloatKind.f64.format.word s r) % 9223372036854775808 = r := by
  have := (neg_of_word FloatKind.f64.format s r (by rw [sw64]; omega)).1
  rwa [sw64] at this
/-- the square root of what is not great is not great -/
theorem fsqrt_small {w : Nat} (h : w % 9223372036854775808 ≤ 1151 * 4503599627370496) : (fsqrt w) % 9223372036854775808 < 1150 * 4503599627370496 ∨ finR .f64 (fsqrt w) = false := by
  have hread : ∃ (m : Nat) (i : Int), FloatKind.f64.format.read w = .number (w / FloatKind.f64.format.signWeight % 2 == 1) m i ∧ (m ≠ 0 → (m.log2 : Int) + i ≤ 128) := by
    unfold Ieee.Format.read
    dsimp only
    rw [sw64, bin64, inf64, lp64]
    by_cases h1 : w % 9223372036854775808 < 4503599627370496
    · rw [if_pos h1]
      refine ⟨_, _, rfl, fun h0 => ?_⟩
      have : (w % 9223372036854775808).log2 < 52 := (Nat.log2_lt h0).2 (by omega)
      omega
    · rw [if_neg h1, if_pos (by omega)]
      refine ⟨_, _, rfl, fun h0 => ?_⟩
      have : (4503599627370496 + w % 9223372036854775808 % 4503599627370496).log2 < 53 := (Nat.log2_lt h0).2 (by omega)
      omega
  obtain ⟨m, i, hr, hE⟩ := hread
  unfold fsqrt Ieee.Format.sqrt
  rw [hr]
  generalize (w / FloatKind.f64.format.signWeight % 2 == 1) = s
  unfold Ieee.Datum.root
  simp only []
  by_cases hm : m = 0
  · subst hm
    simp only [if_true, Option.map_some, Ieee.Format.write, Ieee.Format.nearest]
    left
    have : (canon .f64 (FloatKind.f64.format.word s 0)) % 9223372036854775808 = 0 := by cases s <;> decide +kernel
    omega
  · simp only [if_neg hm]
    cases s with
    | true => simp only [if_true, Option.map_none]; right; exact finR_nan0 _
    | false =>
      simp only [Bool.false_eq_true, if_false, Option.map_some, Ieee.Format.write]
      have hE := hE hm
      have hd : (FloatKind.f64.format.fractionBits + 2 : Nat) = 54 := rfl
      rw [hd]
      generalize hmo : 2 * 54 - m.log2 + ((i - ((2 * 54 - m.log2 : Nat) : Int)) % 2).toNat = more
      generalize hwh : Ieee.Datum.rootFrom (m <<< more) ((m <<< more).log2 / 2 + 1) 0 = wh
      have hsq : wh * wh ≤ m <<< more := by rw [← hwh]; exact rootFrom_sq _ _ _ (Nat.zero_le _)
      have hL : (m <<< more).log2 = m.log2 + more := by rw [Nat.shiftLeft_eq]; exact log2_mul_pow hm
      have hlt : m <<< more < 2 ^ (m.log2 + more + 1) := by rw [← hL]; exact Nat.lt_log2_self
      have hw := sq_lt (Nat.lt_of_le_of_lt hsq hlt)
      have hbt : (wh * wh != m <<< more).toNat ≤ 1 := by cases (wh * wh != m <<< more) <;> simp
      have hM2 : 2 * wh + (wh * wh != m <<< more).toNat < 2 ^ ((m.log2 + more) / 2 + 2) := by rw [Nat.pow_succ]; omega
      generalize hMd : 2 * wh + (wh * wh != m <<< more).toNat = M at hM2
      have hcan : ∀ r, r ≤ 1092 * 4503599627370496 → (canon .f64 (FloatKind.f64.format.word false r)) % 9223372036854775808 = r := fun r hr => by
        have h1 := word_rung64 false (r := r) (by omega)
        rw [canon_not (by rw [isNan_rung, sw64, inf64, h1]; exact decide_eq_false (by omega))]
        exact h1
      left
      by_cases hM : M = 0
      · have : FloatKind.f64.format.nearest false M ((i - (more : Int)) / 2 - 1) = FloatKind.f64.format.word false 0 := by rw [hM]; simp [Ieee.Format.nearest]
        rw [this, hcan 0 (by omega)]; omega
      · have hl : M.log2 < (m.log2 + more) / 2 + 2 := (Nat.log2_lt hM).2 hM2
        obtain ⟨r, h1, _, h2⟩ := nearest_E FloatKind.f64.format false M ((i - (more : Int)) / 2 - 1) 66 hM (by omega) (by rw [lp64, fb64]; decide)
        rw [lp64, fb64, bin64] at h1
        have : ((66 : Int) - ((52 : Nat) : Int) - -1074).toNat = 1088 := by decide
        rw [this] at h1
        rw [h2, hcan r (by omega)]
        omega
/-- a number of 32 bits, widened, is not great -/
theorem widen_small (c : Nat) : (fconv .f32 .f64 c) % 9223372036854775808 ≤ 1151 * 4503599627370496 ∨ finR .f64 (fconv .f32 .f64 c) = false := by
  cases hn : isNan .f32 c with
  | true => right; unfold fconv; rw [hn]; exact finR_nan0 _
  | false =>
    rw [fconv_eq hn]
    unfold FloatKind.encode FloatKind.decode
    have key : ∀ s m i, (m ≠ 0 → (i : Int) + (m.log2 : Int) ≤ 127) → (FloatKind.f64.format.nearest s m i) % 9223372036854775808 ≤ 1151 * 4503599627370496 := by
      intro s m i hmi
      by_cases hm : m = 0
      · subst hm
        have : FloatKind.f64.format.nearest s 0 i = FloatKind.f64.format.word s 0 := by simp [Ieee.Format.nearest]
        rw [this, word_rung64 s (by omega)]; omega
      · obtain ⟨r, h1, h3, h2⟩ := nearest_E FloatKind.f64.format s m i 127 hm (hmi hm) (by rw [lp64, fb64]; decide)
        rw [lp64, fb64, bin64] at h1
        have : ((127 : Int) - ((52 : Nat) : Int) - -1074).toNat = 1149 := by decide
        rw [this] at h1
        rw [h2, word_rung64 s (by rw [inf64] at h3; exact h3)]
        omega
    rcases read32 hn with ⟨hr, h⟩ | ⟨h1, h2, h⟩ | ⟨_, h⟩ <;> rw [h]
    · left
      exact key _ _ _ fun h0 => by
        have : (c % 2147483648).log2 < 23 := (Nat.log2_lt h0).2 (by omega)
        omega
    · left
      exact key _ _ _ fun h0 => by
        have : (8388608 + c % 2147483648 % 8388608).log2 < 24 := (Nat.log2_lt h0).2 (by omega)
        omega
    · right
      exact finR_word_inf .f64 _
theorem root_ok (c : Nat) : fconvOk .f64 .f32 (fsqrt (fconv .f32 .f64 c)) = true := by
  refine narrow_ok ?_
  rcases widen_small c with h | h
  · exact fsqrt_small h
  · exact .inr (finR_bad_sqrt h)
/-- the square root of a number of 32 bits -/
def rootF (c : Nat) : Nat := fconv .f64 .f32 (fsqrt (fconv .f32 .f64 c))
theorem finR_fconv_bad {s d : FloatKind} {c : Nat} (h : finR s c = false) : finR d (fconv s d c) = false := by
  unfold fconv
  rcases read_notfin h with ⟨t, u, e⟩ | ⟨t, e⟩
  · rw [(isNan_iff _ _).2 ⟨t, u, e⟩]; exact finR_nan0 _
  · have hn : isNan s c = false := by
      cases h : isNan s c with
      | false => rfl
      | true => obtain ⟨t', u', e'⟩ := (isNan_iff _ _).1 h; rw [e] at e'; cases e'
    have hd : s.decode c = .infinity t := e
    rw [hn, hd]
    simp only [Bool.false_eq_true, if_false]
    rw [finR_canon]; exact finR_word_inf d t
theorem root_bad {c : Nat} (h : finR .f32 c = false) : finR .f32 (rootF c) = false := finR_fconv_bad (finR_bad_sqrt (finR_fconv_bad h))
end Go.Aw
