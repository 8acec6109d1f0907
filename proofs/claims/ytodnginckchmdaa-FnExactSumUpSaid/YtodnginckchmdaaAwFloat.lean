/- Floats up to a NaN's bits. -/
import Derived.Test.YtodnginckchmdaaAwCode
set_option linter.unusedVariables false
namespace Go.Aw

theorem isNan_iff (k : FloatKind) (b : Nat) : isNan k b = true ↔ ∃ s t, k.format.read b = .nan s t := by
  unfold isNan FloatKind.decode Ieee.Datum.isNaN
  split <;> simp_all

theorem read_nan_iff (f : Ieee.Format) (b : Nat) : (∃ s t, f.read b = .nan s t) ↔ f.infRung < b % f.signWeight ∧ f.binade ≤ b % f.signWeight := by
  unfold Ieee.Format.read
  dsimp only
  split
  · simp; omega
  · split
    · simp; omega
    · split
      · simp; omega
      · simp; omega

/-- is the word a NaN, by its rung -/
def nanB : FloatKind → Nat → Bool
  | .f32, b => decide (2139095040 < b % 2147483648)
  | .f64, b => decide (9218868437227405312 < b % 9223372036854775808)
theorem nanB_eq (k : FloatKind) (b : Nat) : isNan k b = nanB k b := by
  rw [Bool.eq_iff_iff, isNan_iff, read_nan_iff]
  cases k
  · have e1 : FloatKind.f32.format.infRung = 2139095040 := by decide
    have e2 : FloatKind.f32.format.signWeight = 2147483648 := by decide
    have e3 : FloatKind.f32.format.binade = 8388608 := by decide
    rw [e1, e2, e3]; simp [nanB]; omega
  · have e1 : FloatKind.f64.format.infRung = 9218868437227405312 := by decide
    have e2 : FloatKind.f64.format.signWeight = 9223372036854775808 := by decide
    have e3 : FloatKind.f64.format.binade = 4503599627370496 := by decide
    rw [e1, e2, e3]; simp [nanB]; omega

theorem width32 : 2 ^ FloatKind.f32.format.width = 4294967296 := by decide
theorem width64 : 2 ^ FloatKind.f64.format.width = 18446744073709551616 := by decide

theorem nan0_nan (k : FloatKind) : isNan k (nan0 k) = true := by rw [nanB_eq]; cases k <;> decide
theorem nan0_lt (k : FloatKind) : nan0 k < 2 ^ k.format.width := by cases k <;> decide

theorem canon_nan {k : FloatKind} {b : Nat} (h : isNan k b = true) : canon k b = nan0 k := by simp [canon, h]
theorem canon_not {k : FloatKind} {b : Nat} (h : isNan k b = false) : canon k b = b := by simp [canon, h]

/-- what a relation between a word and its canon says -/
theorem FR.nan {k : FloatKind} {b c : Nat} (h : FR k b c) : isNan k b = isNan k c := by
  obtain ⟨h, _⟩ := h
  cases hb : isNan k b with
  | true => rw [canon_nan hb] at h; subst h; exact (nan0_nan k).symm
  | false => rw [canon_not hb] at h; subst h; exact hb.symm
theorem FR.eq {k : FloatKind} {b c : Nat} (h : FR k b c) (hn : isNan k c = false) : b = c := by
  have hb := h.nan.trans hn
  have := h.1
  rwa [canon_not hb] at this
theorem FR.nan0 {k : FloatKind} {b c : Nat} (h : FR k b c) (hn : isNan k c = true) : c = Aw.nan0 k := by
  have hb := h.nan.trans hn
  have := h.1
  rw [canon_nan hb] at this; exact this.symm
theorem FR.lt {k : FloatKind} {b c : Nat} (h : FR k b c) : c < 2 ^ k.format.width := by
  cases hn : isNan k c with
  | true => rw [h.nan0 hn]; exact nan0_lt k
  | false => rw [← h.eq hn]; exact h.2
theorem FR.canon {k : FloatKind} {b c : Nat} (h : FR k b c) : canon k c = c := by
  cases hn : isNan k c with
  | true => rw [canon_nan hn]; exact (h.nan0 hn).symm
  | false => exact canon_not hn

theorem FR_of {k : FloatKind} {b : Nat} (h : b < 2 ^ k.format.width) : FR k b (canon k b) := ⟨rfl, h⟩

theorem lt_of_wf {k : FloatKind} {b : Nat} (h : (Lit.float k b).wf = true) : b < 2 ^ k.format.width := by
  cases k
  · rw [width32]; simpa [Lit.wf] using h
  · rw [width64]; simpa [Lit.wf] using h

theorem nanw32 (m u : Nat) (hm : m < 2) (hu : u < 8388607) : isNan .f32 (m * 2147483648 + 2139095040 + 1 + u) = true ∧ m * 2147483648 + 2139095040 + 1 + u < 4294967296 := by
  rw [nanB_eq]; simp only [nanB, decide_eq_true_eq]
  rcases (by omega : m = 0 ∨ m = 1) with rfl | rfl <;> omega
theorem nanw64 (m u : Nat) (hm : m < 2) (hu : u < 4503599627370495) : isNan .f64 (m * 9223372036854775808 + 9218868437227405312 + 1 + u) = true ∧ m * 9223372036854775808 + 9218868437227405312 + 1 + u < 18446744073709551616 := by
  rw [nanB_eq]; simp only [nanB, decide_eq_true_eq]
  rcases (by omega : m = 0 ∨ m = 1) with rfl | rfl <;> omega

/-! ### the operations -/

def fop (op : BinOp) (k : FloatKind) (c d : Nat) : Nat := match floatBits op k c d with
  | some r => canon k r
  | none => nan0 k

theorem datum_nan {k : FloatKind} {b : Nat} (h : isNan k b = true) : ∃ s t, k.format.read b = .nan s t := (isNan_iff k b).1 h

theorem floatBits_nan_left {op : BinOp} {k : FloatKind} {x y : Nat} (h : isNan k x = true) : floatBits op k x y = none := by
  obtain ⟨s, t, hs⟩ := datum_nan h
  unfold floatBits Ieee.Format.add Ieee.Format.sub Ieee.Format.mul Ieee.Format.div
  rw [hs]
  cases op <;> simp [Ieee.Datum.sum, Ieee.Datum.product, Ieee.Datum.quotient]
theorem floatBits_nan_right {op : BinOp} {k : FloatKind} {x y : Nat} (h : isNan k y = true) : floatBits op k x y = none := by
  obtain ⟨s, t, hs⟩ := datum_nan h
  unfold floatBits Ieee.Format.add Ieee.Format.sub Ieee.Format.mul Ieee.Format.div
  rw [hs]
  cases op <;> cases k.format.read x <;> simp [Ieee.Datum.sum, Ieee.Datum.product, Ieee.Datum.quotient, Ieee.Datum.opposite]

theorem floatBits_FR {op : BinOp} {k : FloatKind} {x y c d : Nat} (hx : FR k x c) (hy : FR k y d) : floatBits op k x y = floatBits op k c d := by
  cases hc : isNan k c with
  | true => rw [floatBits_nan_left hc, floatBits_nan_left (hx.nan.trans hc)]
  | false =>
    rw [hx.eq hc]
    cases hd : isNan k d with
    | true => rw [floatBits_nan_right hd, floatBits_nan_right (hy.nan.trans hd)]
    | false => rw [hy.eq hd]

theorem nanBits_FR (k : FloatKind) (x y : Nat) (t : Nat) : FR k ((Question.nanBits k x y).cut t) (nan0 k) := by
  cases k
  · simp only [Question.cut]
    have h := nanw32 (t % 2) (t / 2 % 8388607) (Nat.mod_lt _ (by omega)) (Nat.mod_lt _ (by omega))
    exact ⟨canon_nan h.1, by rw [width32]; exact h.2⟩
  · simp only [Question.cut]
    have h := nanw64 (t % 2) (t / 2 % 4503599627370495) (Nat.mod_lt _ (by omega)) (Nat.mod_lt _ (by omega))
    exact ⟨canon_nan h.1, by rw [width64]; exact h.2⟩
theorem nanConv_FR (k : FloatKind) (x : Nat) (t : Nat) : FR k ((Question.nanConv k x).cut t) (nan0 k) := by
  cases k
  · simp only [Question.cut]
    have h := nanw32 (t % 2) (t / 2 % 8388607) (Nat.mod_lt _ (by omega)) (Nat.mod_lt _ (by omega))
    exact ⟨canon_nan h.1, by rw [width32]; exact h.2⟩
  · simp only [Question.cut]
    have h := nanw64 (t % 2) (t / 2 % 4503599627370495) (Nat.mod_lt _ (by omega)) (Nat.mod_lt _ (by omega))
    exact ⟨canon_nan h.1, by rw [width64]; exact h.2⟩

/-- '+', '-', '*', '/' -/
theorem run_farith {P : Program} {w : World} {op : BinOp} (hop : op = .add ∨ op = .sub ∨ op = .mul ∨ op = .quo) {t : TypeId} {k : FloatKind} {x y c d : Nat} (hx : FR k x c) (hy : FR k y d) :
    ∃ r n, (binOp op t (.float k x) (.float k y)).run P w = .ok (.float k r) { w with drawn := n } ∧ FR k r (fop op k c d) := by
  have e := floatBits_FR (op := op) hx hy
  unfold fop
  rw [← e]
  cases hb : floatBits op k x y with
  | some r => exact ⟨r, w.drawn, run_float_arith w op t k x y r hb, FR_of (lt_of_wf (floatBits_wf hb))⟩
  | none =>
    refine ⟨_, w.drawn + 1, ?_, nanBits_FR k x y (w.tape w.drawn (.nanBits k x y))⟩
    unfold floatBits at hb
    rcases hop with rfl | rfl | rfl | rfl <;> simp only at hb <;> simp [binOp, Op.floatArith, hb, Question.forced]

def fcmp (op : BinOp) (k : FloatKind) (c d : Nat) : Bool := match op with
  | .eql => k.format.order c d == some .eq
  | .neq => k.format.order c d != some .eq
  | .lss => k.format.order c d == some .lt
  | .leq => k.format.order c d == some .lt || k.format.order c d == some .eq
  | .gtr => k.format.order c d == some .gt
  | _ => k.format.order c d == some .gt || k.format.order c d == some .eq

theorem order_nan_left {k : FloatKind} {x y : Nat} (h : isNan k x = true) : k.format.order x y = none := by
  obtain ⟨s, t, hs⟩ := datum_nan h
  unfold Ieee.Format.order; rw [hs]; simp [Ieee.Datum.order]
theorem order_nan_right {k : FloatKind} {x y : Nat} (h : isNan k y = true) : k.format.order x y = none := by
  obtain ⟨s, t, hs⟩ := datum_nan h
  unfold Ieee.Format.order; rw [hs]; cases k.format.read x <;> simp [Ieee.Datum.order]
theorem order_FR {k : FloatKind} {x y c d : Nat} (hx : FR k x c) (hy : FR k y d) : k.format.order x y = k.format.order c d := by
  cases hc : isNan k c with
  | true => rw [order_nan_left hc, order_nan_left (hx.nan.trans hc)]
  | false =>
    rw [hx.eq hc]
    cases hd : isNan k d with
    | true => rw [order_nan_right hd, order_nan_right (hy.nan.trans hd)]
    | false => rw [hy.eq hd]

theorem run_fcmp {P : Program} {w : World} {op : BinOp} (hop : op = .eql ∨ op = .neq ∨ op = .lss ∨ op = .leq ∨ op = .gtr ∨ op = .geq) {t : TypeId} {k : FloatKind} {x y c d : Nat} (hx : FR k x c) (hy : FR k y d) :
    (binOp op t (.float k x) (.float k y)).run P w = .ok (.bool (fcmp op k c d)) w := by
  have e := order_FR hx hy
  rcases hop with rfl | rfl | rfl | rfl | rfl | rfl <;> simp [binOp, Op.floatCmp, fcmp, e]

/-! ### conversions -/

/-- an integer as a float -/
def fint (k : FloatKind) (n : Int) : Nat := canon k (k.nearest n)
theorem fint_FR (k : FloatKind) (n : Int) : FR k (k.nearest n) (fint k n) := by
  exact FR_of (lt_of_wf (floatOfInt_wf k n))

/-- a float of the other kind, where it does not grow too great -/
def fconv (s d : FloatKind) (c : Nat) : Nat := if isNan s c then nan0 d else canon d (d.encode (s.decode c))
def fconvOk (s d : FloatKind) (c : Nat) : Bool := isNan s c || (s.decode c).isInfinity || !(d.decode (d.encode (s.decode c))).isInfinity

theorem run_fconv {P : Program} {w : World} {s d : FloatKind} (hsd : s ≠ d) {x c : Nat} (hx : FR s x c) (hok : fconvOk s d c = true) :
    ∃ r n, (Conv.floatToFloat s x d).run P w = .ok (.float d r) { w with drawn := n } ∧ FR d r (fconv s d c) := by
  unfold fconv
  cases hc : isNan s c with
  | true =>
    obtain ⟨sg, t, hs⟩ := datum_nan (hx.nan.trans hc)
    refine ⟨_, w.drawn + 1, ?_, nanConv_FR d x (w.tape w.drawn (.nanConv d x))⟩
    have hs' : s.decode x = .nan sg t := hs
    simp [Conv.floatToFloat, hsd, hs', Question.forced]
  | false =>
    have e := hx.eq hc
    subst e
    refine ⟨d.encode (s.decode x), w.drawn, ?_, ?_⟩
    · simp only [fconvOk, hc, Bool.false_or, Bool.or_eq_true, Bool.not_eq_true'] at hok
      have hn : ∀ sg t, s.decode x ≠ .nan sg t := fun sg t h => by
        have := (isNan_iff s x).2 ⟨sg, t, h⟩; rw [hc] at this; cases this
      cases hd : s.decode x with
      | nan sg t => exact absurd hd (hn sg t)
      | infinity sg => simp [Conv.floatToFloat, hsd, hd]
      | number sg m e =>
        rw [hd] at hok
        have h2 : (d.decode (d.encode (.number sg m e))).isInfinity = false := by
          rcases hok with h | h
          · simp [Ieee.Datum.isInfinity] at h
          · exact h
        simp [Conv.floatToFloat, hsd, hd, h2]
    · simp only [Bool.false_eq_true, if_false]
      exact FR_of (lt_of_wf (encode_wf d (s.decode x)))

end Go.Aw
