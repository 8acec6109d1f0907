/- What is not finite stays so; halves and doubles. -/
import Derived.Test.YtodnginckchmdaaAwReal
set_option linter.unusedVariables false
namespace Go.Aw

theorem finR_nan0 (k : FloatKind) : finR k (nan0 k) = false := by cases k <;> decide +kernel
theorem finR_word_inf (k : FloatKind) (s : Bool) : finR k (k.format.word s k.format.infRung) = false := by cases k <;> cases s <;> decide +kernel
theorem finR_canon (k : FloatKind) (x : Nat) : finR k (canon k x) = finR k x := by
  cases h : isNan k x with
  | true =>
    rw [canon_nan h, finR_nan0]
    rw [isNan_rung] at h
    simp only [decide_eq_true_eq] at h
    simp only [finR]
    exact (decide_eq_false (by omega)).symm
  | false => rw [canon_not h]

theorem read_notfin {k : FloatKind} {a : Nat} (h : finR k a = false) : (∃ s t, k.format.read a = .nan s t) ∨ ∃ s, k.format.read a = .infinity s := by
  simp only [finR, decide_eq_false_iff_not, Nat.not_lt] at h
  rcases Nat.lt_or_ge k.format.infRung (a % k.format.signWeight) with h1 | h1
  · exact .inl (read_nanR h1)
  · exact .inr ⟨_, read_inf (by omega)⟩
theorem fop_badD {op : BinOp} {k : FloatKind} {a b : Nat} {o : Option Ieee.Datum} (h : floatBits op k a b = o.map k.format.write) (ho : o = none ∨ ∃ s, o = some (.infinity s)) : finR k (fop op k a b) = false := by
  unfold fop
  rw [h]
  rcases ho with rfl | ⟨s, rfl⟩
  · exact finR_nan0 k
  · simp only [Option.map_some]; rw [finR_canon]; exact finR_word_inf k s
theorem bad_add_l {k : FloatKind} {a : Nat} (b : Nat) (h : finR k a = false) : finR k (fop .add k a b) = false := by
  refine fop_badD (o := (k.format.read a).sum (k.format.read b)) rfl ?_
  rcases read_notfin h with ⟨s, t, e⟩ | ⟨s, e⟩ <;> rw [e]
  · exact .inl (by simp [Ieee.Datum.sum])
  · cases k.format.read b <;> simp [Ieee.Datum.sum]
    rename_i t; by_cases h : s = t <;> simp [h]
theorem bad_add_r {k : FloatKind} (a : Nat) {b : Nat} (h : finR k b = false) : finR k (fop .add k a b) = false := by
  refine fop_badD (o := (k.format.read a).sum (k.format.read b)) rfl ?_
  rcases read_notfin h with ⟨s, t, e⟩ | ⟨s, e⟩ <;> rw [e]
  · cases k.format.read a <;> exact .inl (by simp [Ieee.Datum.sum])
  · cases k.format.read a <;> simp [Ieee.Datum.sum]
    rename_i t; by_cases h : t = s <;> simp [h]
theorem bad_sub_l {k : FloatKind} {a : Nat} (b : Nat) (h : finR k a = false) : finR k (fop .sub k a b) = false := by
  refine fop_badD (o := (k.format.read a).sum (k.format.read b).opposite) rfl ?_
  rcases read_notfin h with ⟨s, t, e⟩ | ⟨s, e⟩ <;> rw [e]
  · exact .inl (by simp [Ieee.Datum.sum])
  · cases (k.format.read b).opposite <;> simp [Ieee.Datum.sum]
    rename_i t; by_cases h : s = t <;> simp [h]
theorem bad_sub_r {k : FloatKind} (a : Nat) {b : Nat} (h : finR k b = false) : finR k (fop .sub k a b) = false := by
  refine fop_badD (o := (k.format.read a).sum (k.format.read b).opposite) rfl ?_
  rcases read_notfin h with ⟨s, t, e⟩ | ⟨s, e⟩ <;> rw [e] <;> simp only [Ieee.Datum.opposite]
  · cases k.format.read a <;> exact .inl (by simp [Ieee.Datum.sum])
  · cases k.format.read a <;> simp [Ieee.Datum.sum]
    rename_i t; cases s <;> cases t <;> simp
theorem bad_mul_l {k : FloatKind} {a : Nat} (b : Nat) (h : finR k a = false) : finR k (fop .mul k a b) = false := by
  refine fop_badD (o := (k.format.read a).product (k.format.read b)) rfl ?_
  rcases read_notfin h with ⟨s, t, e⟩ | ⟨s, e⟩ <;> rw [e]
  · exact .inl (by simp [Ieee.Datum.product])
  · cases k.format.read b <;> simp [Ieee.Datum.product]
    rename_i n m; by_cases h : n = 0 <;> simp [h]
theorem bad_mul_r {k : FloatKind} (a : Nat) {b : Nat} (h : finR k b = false) : finR k (fop .mul k a b) = false := by
  refine fop_badD (o := (k.format.read a).product (k.format.read b)) rfl ?_
  rcases read_notfin h with ⟨s, t, e⟩ | ⟨s, e⟩ <;> rw [e]
  · cases k.format.read a <;> exact .inl (by simp [Ieee.Datum.product])
  · cases k.format.read a <;> simp [Ieee.Datum.product]
    rename_i n m; by_cases h : n = 0 <;> simp [h]
theorem bad_quo_l {k : FloatKind} {a : Nat} (b : Nat) (h : finR k a = false) : finR k (fop .quo k a b) = false := by
  refine fop_badD (o := (k.format.read a).quotient (k.format.fractionBits + 2) (k.format.read b)) rfl ?_
  rcases read_notfin h with ⟨s, t, e⟩ | ⟨s, e⟩ <;> rw [e]
  · exact .inl (by simp [Ieee.Datum.quotient])
  · cases k.format.read b <;> simp [Ieee.Datum.quotient]

/-! ### halves and doubles -/
theorem read_half : FloatKind.f32.format.read 1056964608 = .number false 8388608 (-24) := by decide +kernel
theorem read_two : FloatKind.f32.format.read 1073741824 = .number false 8388608 (-22) := by decide +kernel
theorem read_two64 : FloatKind.f64.format.read 4611686018427387904 = .number false 4503599627370496 (-51) := by decide +kernel

/-- the quotient by a power of two -/
theorem quot_pow {f : Ieee.Format} {d : Nat} {s : Bool} {m p : Nat} {i j : Int} (hd : m ≠ 0 → m.log2 ≤ d) :
    ((Ieee.Datum.number s m i).quotient d (.number false (2 ^ p) j)).map f.write = some (f.nearest s m (i - j - p)) := by
  have hp : (2 : Nat) ^ p ≠ 0 := Nat.ne_of_gt (Nat.two_pow_pos p)
  unfold Ieee.Datum.quotient
  simp only [if_neg hp, Nat.log2_two_pow, Bool.xor_false, Option.map_some, Ieee.Format.write]
  congr 1
  by_cases hm : m = 0
  · subst hm
    simp [Ieee.Format.nearest]
  · have hl := hd hm
    obtain ⟨q, hq⟩ : ∃ q, d + p - m.log2 = q + p := ⟨d - m.log2, by omega⟩
    rw [hq, Nat.shiftLeft_eq, Nat.pow_add, ← Nat.mul_assoc]
    rw [Nat.mul_div_cancel _ (Nat.two_pow_pos p), Nat.mul_mod_left]
    have e1 : 2 * (m * 2 ^ q) + (0 != 0 : Bool).toNat = m * 2 ^ (q + 1) := by
      rw [Nat.pow_succ]; simp [Nat.mul_comm, Nat.mul_left_comm]
    have e2 : i - j - ((q + p : Nat) : Int) - 1 = i - j - (p : Int) - ((q + 1 : Nat) : Int) := by omega
    rw [e1, e2]
    exact nearest_scale f s m (q + 1) _

theorem half32 (c : Nat) : fop .quo .f32 c 1073741824 = fop .mul .f32 1056964608 c := by
  unfold fop
  have : floatBits .quo .f32 c 1073741824 = floatBits .mul .f32 1056964608 c := by
    unfold floatBits
    simp only []
    unfold Ieee.Format.div Ieee.Format.mul
    rw [read_two, read_half]
    have hdig : ∀ m, m < 16777216 → m ≠ 0 → m.log2 ≤ FloatKind.f32.format.fractionBits + 2 := fun m h h0 => by
      have : m.log2 < 24 := (Nat.log2_lt h0).2 h
      have e : FloatKind.f32.format.fractionBits = 23 := rfl
      omega
    have key : ∀ s m i, m < 16777216 → ((Ieee.Datum.number s m i).quotient (FloatKind.f32.format.fractionBits + 2) (.number false 8388608 (-22))).map FloatKind.f32.format.write = ((Ieee.Datum.number false 8388608 (-24)).product (.number s m i)).map FloatKind.f32.format.write := by
      intro s m i hm
      have h1 := quot_pow (f := FloatKind.f32.format) (s := s) (i := i) (j := -22) (p := 23) (hdig m hm)
      have e : (2 : Nat) ^ 23 = 8388608 := by decide
      rw [e] at h1
      rw [h1]
      simp only [Ieee.Datum.product, Option.map_some, Ieee.Format.write, Bool.false_xor, Option.some.injEq]
      have h2 := nearest_scale FloatKind.f32.format s m 23 (i - 1)
      rw [e] at h2
      rw [Nat.mul_comm 8388608 m]
      have e2 : (-24 : Int) + i = i - 1 - ((23 : Nat) : Int) := by omega
      have e3 : i - (-22 : Int) - ((23 : Nat) : Int) = i - 1 := by omega
      rw [e2, e3]; exact h2.symm
    cases hn : isNan .f32 c with
    | true =>
      obtain ⟨s, t, h⟩ := datum_nan hn
      rw [h]; simp [Ieee.Datum.quotient, Ieee.Datum.product]
    | false =>
      rcases read32' hn with ⟨_, h⟩ | ⟨m, i, hm, _, _, h⟩ <;> rw [h]
      · simp [Ieee.Datum.quotient, Ieee.Datum.product]
      · exact key _ _ _ hm
  rw [this]
end Go.Aw
