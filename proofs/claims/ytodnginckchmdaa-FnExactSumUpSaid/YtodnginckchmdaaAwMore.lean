/- More operations: the built-in min and max, append to nil, absolute values. -/
import Derived.Test.YtodnginckchmdaaAwReal
import Derived.Test.YtodnginckchmdaaAwLoan
set_option linter.unusedVariables false
namespace Go.Aw
open Go.RowKit (Below)

theorem nf_argo {v : AV} {i id o n : Nat} (h : v = .argo i id o n) : v = .argo i id o n := h
def fmx (k : FloatKind) (c d : Nat) : Nat := match k.format.order c d with
  | none => nan0 k
  | some .lt => d
  | some .gt => c
  | some .eq => if (k.decode c).neg then d else c
def fmn (k : FloatKind) (c d : Nat) : Nat := match k.format.order c d with
  | none => nan0 k
  | some .lt => c
  | some .gt => d
  | some .eq => if (k.decode c).neg then c else d

theorem nanMM_FR (k : FloatKind) (b : Bool) (x y : Nat) (t : Nat) : FR k ((Question.nanMinMax k b x y).cut t) (nan0 k) := by
  cases k
  · simp only [Question.cut]
    have h := nanw32 (t % 2) (t / 2 % 8388607) (Nat.mod_lt _ (by omega)) (Nat.mod_lt _ (by omega))
    exact ⟨canon_nan h.1, by rw [width32]; exact h.2⟩
  · simp only [Question.cut]
    have h := nanw64 (t % 2) (t / 2 % 4503599627370495) (Nat.mod_lt _ (by omega)) (Nat.mod_lt _ (by omega))
    exact ⟨canon_nan h.1, by rw [width64]; exact h.2⟩

theorem order_notnan {k : FloatKind} {c d : Nat} {r : Ordering} (h : k.format.order c d = some r) : isNan k c = false ∧ isNan k d = false := by
  constructor
  · cases hc : isNan k c with
    | false => rfl
    | true => rw [order_nan_left hc] at h; cases h
  · cases hc : isNan k d with
    | false => rfl
    | true => rw [order_nan_right hc] at h; cases h

section
variable {P : Program} {o : Oper} {F : List Nat} {ρ : Fr} {η : Hp} {ty : Ty}

theorem run_max2 {w : World} {k : FloatKind} {x y c d : Nat} (hx : FR k x c) (hy : FR k y d) : ∃ r n, (Builtin.max2 (.float k x) (.float k y)).run P w = .ok (.float k r) { w with drawn := n } ∧ FR k r (fmx k c d) := by
  have e := order_FR hx hy
  unfold fmx
  cases ho : k.format.order c d with
  | none =>
    rw [ho] at e
    exact ⟨_, w.drawn + 1, by simp [Builtin.max2, e, Question.forced], nanMM_FR k true x y (w.tape w.drawn (.nanMinMax k true x y))⟩
  | some r =>
    obtain ⟨h1, h2⟩ := order_notnan ho
    have e1 := hx.eq h1
    have e2 := hy.eq h2
    subst e1; subst e2
    cases r with
    | lt => exact ⟨y, w.drawn, by simp [Builtin.max2, ho], hy⟩
    | gt => exact ⟨x, w.drawn, by simp [Builtin.max2, ho], hx⟩
    | eq => exact ⟨_, w.drawn, by simp [Builtin.max2, ho]; rfl, by split <;> assumption⟩
theorem run_min2 {w : World} {k : FloatKind} {x y c d : Nat} (hx : FR k x c) (hy : FR k y d) : ∃ r n, (Builtin.min2 (.float k x) (.float k y)).run P w = .ok (.float k r) { w with drawn := n } ∧ FR k r (fmn k c d) := by
  have e := order_FR hx hy
  unfold fmn
  cases ho : k.format.order c d with
  | none =>
    rw [ho] at e
    exact ⟨_, w.drawn + 1, by simp [Builtin.min2, e, Question.forced], nanMM_FR k false x y (w.tape w.drawn (.nanMinMax k false x y))⟩
  | some r =>
    obtain ⟨h1, h2⟩ := order_notnan ho
    have e1 := hx.eq h1
    have e2 := hy.eq h2
    subst e1; subst e2
    cases r with
    | lt => exact ⟨x, w.drawn, by simp [Builtin.min2, ho], hx⟩
    | gt => exact ⟨y, w.drawn, by simp [Builtin.min2, ho], hy⟩
    | eq => exact ⟨_, w.drawn, by simp [Builtin.min2, ho]; rfl, by split <;> assumption⟩

theorem q_fmax {x y : Operand} {tys : Array TypeId} {k : FloatKind} {c d : Nat} (ho : o.op = .call { callee := .builtin .max, args := #[x, y], argTypes := tys })
    (hx : evA ρ x = .t (.f k c)) (hy : evA ρ y = .t (.f k d)) : QRun P o F [] ρ η (.t (.f k (fmx k c d))) (lkH []) := by
  refine qrun_val fun vs w0 μ η' a w h1 h2 h3 => ?_
  have hx' := h3 x (by simp [ho, Op.operands, Call.operands])
  have hy' := h3 y (by simp [ho, Op.operands, Call.operands])
  rw [hx, VR, TR] at hx'; rw [hy, VR, TR] at hy'
  obtain ⟨p, hp, hp'⟩ := hx'
  obtain ⟨q, hq, hq'⟩ := hy'
  obtain ⟨r, n, hr, hf⟩ := run_max2 (P := P) (w := w) hp' hq'
  refine ⟨_, n, ?_, by rw [VR, TR]; exact ⟨r, rfl, hf⟩⟩
  simp [execOp, ho, resolve, invoke, builtin, Builtin.max_, hp, hq, hr]
theorem q_imax {x y : Operand} {tys : Array TypeId} {m n : Int} (ho : o.op = .call { callee := .builtin .max, args := #[x, y], argTypes := tys })
    (hx : evA ρ x = .t (.v (.int .i64 m))) (hy : evA ρ y = .t (.v (.int .i64 n))) : QRun P o F [] ρ η (.t (.v (.int .i64 (if n > m then n else m)))) (lkH []) := by
  refine qrun_v fun vs w0 μ η' a w h1 h2 h3 => ?_
  have hx' := h3 x (by simp [ho, Op.operands, Call.operands])
  have hy' := h3 y (by simp [ho, Op.operands, Call.operands])
  rw [hx, VR, TR] at hx'; rw [hy, VR, TR] at hy'
  simp [execOp, ho, resolve, invoke, builtin, Builtin.max_, Builtin.max2, hx', hy']
theorem q_imin {x y : Operand} {tys : Array TypeId} {m n : Int} (ho : o.op = .call { callee := .builtin .min, args := #[x, y], argTypes := tys })
    (hx : evA ρ x = .t (.v (.int .i64 m))) (hy : evA ρ y = .t (.v (.int .i64 n))) : QRun P o F [] ρ η (.t (.v (.int .i64 (if n < m then n else m)))) (lkH []) := by
  refine qrun_v fun vs w0 μ η' a w h1 h2 h3 => ?_
  have hx' := h3 x (by simp [ho, Op.operands, Call.operands])
  have hy' := h3 y (by simp [ho, Op.operands, Call.operands])
  rw [hx, VR, TR] at hx'; rw [hy, VR, TR] at hy'
  simp [execOp, ho, resolve, invoke, builtin, Builtin.min_, Builtin.min2, hx', hy']

/-- the same bool held against itself -/
theorem q_bne_same {t u : TypeId} {e : TE} {x y : Operand} {b : Bool} (hT : TyOk P ty) (ho : o.op = .binOp .neq t x y u) (ht : ty.get t = some e) (hd : e.d = .b)
    (hx : evA ρ x = .t (.v (.bool b))) (hy : evA ρ y = .t (.v (.bool b))) : QRun P o F [] ρ η (.t (.v (.bool false))) (lkH []) := by
  have := q_bne (P := P) (F := F) (η := η) hT ho ht hd hx hy
  simpa using this
theorem q_fconst {x : Operand} {k : FloatKind} {b : Nat} (ho : o.op = .move x ∨ o.op = .assign x) (hx : evA ρ x = .t (.f k b)) : QRun P o F [] ρ η (.t (.f k b)) (lkH []) := by
  have := q_move (P := P) (F := F) (η := η) (ρ := ρ) (o := o) x ho
  rwa [hx] at this
end

/-- a test whose answer is known -/
theorem awp_ifT {P : Program} {N : Nat} {Q : Exit → Fr → Hp → Prop} {α : List (Nat × AV)} {η : Hp} {t : Nat} {x y : Code} {b : Bool} (hc : lkF α t = .t (.v (.bool b))) (hb : b = true) (h1 : AWp P N x Q (lkF α) η) : AWp P N (.cond (.tmp t) x y) Q (lkF α) η :=
  awp_cond (b := b) hc (fun _ => h1) (fun h => by rw [hb] at h; cases h)
theorem awp_ifF {P : Program} {N : Nat} {Q : Exit → Fr → Hp → Prop} {α : List (Nat × AV)} {η : Hp} {t : Nat} {x y : Code} {b : Bool} (hc : lkF α t = .t (.v (.bool b))) (hb : b = false) (h1 : AWp P N y Q (lkF α) η) : AWp P N (.cond (.tmp t) x y) Q (lkF α) η :=
  awp_cond (b := b) hc (fun h => by rw [hb] at h; cases h) (fun _ => h1)

/-! ### absolute values -/
def absR (c : Nat) : Nat := if isNan .f32 c then nan0 .f32 else c % 2147483648
def szF (c : Nat) : Nat := if fcmp .leq .f32 c 0 then fop .sub .f32 0 c else c
def sz3 (c : Nat) : Nat := if fcmp .lss .f32 c 0 then fneg .f32 c else c
def absF (c : Nat) : Nat := fmx .f32 c (fneg .f32 c)
theorem zero_notnan (k : FloatKind) : isNan k 0 = false := by cases k <;> decide +kernel
theorem sv_zero (k : FloatKind) : sv k 0 = 0 := by cases k <;> decide +kernel
theorem szF_eq {c : Nat} (hc : F32 c) : szF c = absR c := by
  obtain ⟨h1, h2⟩ := hc
  unfold szF absR
  cases hn : isNan .f32 c with
  | true =>
    simp only [if_true, fcmp, order_nan_left hn]
    rw [canon_nan hn] at h1
    simpa using h1.symm
  | false =>
    have ho := order_sv .f32 hn (zero_notnan .f32)
    rw [sv_zero] at ho
    have hz := zero_sub .f32 (c := c) (by rw [sw32]; omega) hn
    have hw := word_rung .f32 (c := c) (by rw [sw32]; omega)
    rw [sw32] at hz
    simp only [fcmp, ho, Bool.false_eq_true, if_false]
    rw [sv_eq, sw32]
    rw [sw32] at hw
    cases hs : (c / 2147483648 % 2 == 1) with
    | true =>
      rw [hs] at hz hw
      simp only [Ieee.Format.word, if_true, sw32] at hw
      simp only [sg1, if_true]
      rcases Nat.eq_zero_or_pos (c % 2147483648) with h | h
      · rw [cmp_eq (by omega)]
        simp only [hz, h, if_true]; rfl
      · rw [cmp_lt (by omega)]
        simp only [hz, if_neg (by omega : ¬ (c % 2147483648 = 0))]; rfl
    | false =>
      rw [hs] at hz hw
      simp only [Ieee.Format.word, Bool.false_eq_true, if_false] at hw
      simp only [sg1, Bool.false_eq_true, if_false]
      rcases Nat.eq_zero_or_pos (c % 2147483648) with h | h
      · rw [cmp_eq (by omega)]
        simp only [hz, h, if_true]; rfl
      · rw [cmp_gt (by omega)]
        simp; exact hw
theorem fneg_lt {c : Nat} (hc : F32 c) (hn : isNan .f32 c = false) : fneg .f32 c = FloatKind.f32.format.word (!(c / 2147483648 % 2 == 1)) (c % 2147483648) := by
  have := fneg_word .f32 (c := c) (by rw [sw32]; have := hc.2; omega) hn
  rwa [sw32] at this
theorem absF_eq {c : Nat} (hc : F32 c) : absF c = absR c := by
  have h2 := hc.2
  unfold absF absR fmx
  cases hn : isNan .f32 c with
  | true => simp only [if_true, order_nan_left hn]
  | false =>
    have hf := fneg_lt hc hn
    have hp := word_parts .f32 (!(c / 2147483648 % 2 == 1)) (r := c % 2147483648) (by rw [sw32]; omega)
    rw [← hf, sw32] at hp
    have hn' : isNan .f32 (fneg .f32 c) = false := by
      rw [isNan_rung] at hn ⊢
      rw [sw32] at hn ⊢; rw [hp.1]; exact hn
    have ho := order_sv .f32 hn hn'
    have hw := word_rung .f32 (c := c) (by rw [sw32]; omega)
    rw [sw32] at hw
    rw [ho, sv_eq, sv_eq, sw32, hp.1, hp.2.1]
    have hd : (FloatKind.f32.decode c).neg = (c / 2147483648 % 2 == 1) := neg32 hn
    simp only [Bool.false_eq_true, if_false, hd]
    rw [hf]
    cases hs : (c / 2147483648 % 2 == 1) with
    | true =>
      rw [hs] at hw
      simp only [Ieee.Format.word, if_true, sw32, Bool.not_true, Bool.false_eq_true, if_false] at hw ⊢
      simp only [sg1, if_true, Bool.false_eq_true, if_false]
      rcases Nat.eq_zero_or_pos (c % 2147483648) with h | h
      · rw [cmp_eq (by omega)]
      · rw [cmp_lt (by omega)]
    | false =>
      rw [hs] at hw
      simp only [Ieee.Format.word, Bool.false_eq_true, if_false, Bool.not_false, if_true] at hw ⊢
      simp only [sg1, if_true, Bool.false_eq_true, if_false]
      rcases Nat.eq_zero_or_pos (c % 2147483648) with h | h
      · rw [cmp_eq (by omega)]; exact hw
      · rw [cmp_gt (by omega)]; exact hw
theorem q_icmpK {P : Program} {o : Oper} {F : List Nat} {ρ : Fr} {η : Hp} {op : BinOp} {t u : TypeId} {x y : Operand} {k : IntKind} {m n : Int} (b : Bool) (ho : o.op = .binOp op t x y u) (hop : cmpOp op = true)
    (hx : evA ρ x = .t (.v (.int k m))) (hy : evA ρ y = .t (.v (.int k n))) (h : icmp op m n = b) : QRun P o F [] ρ η (.t (.v (.bool b))) (lkH []) := by
  subst h; exact q_icmp ho hop hx hy
theorem fint_notnan (k : FloatKind) (n : Int) : isNan k (fint k n) = false := by
  obtain ⟨r, h1, h2⟩ := nearest_word k.format (n < 0) n.natAbs 0
  have h3 : isNan k (k.nearest n) = false := by
    refine notnan_of_rung ?_
    have e : k.nearest n = k.format.word (decide (n < 0)) r := h2
    rw [e, (neg_of_word k.format _ r (by have := fmt_sum k; have := fmt_bin k; omega)).1]; exact h1
  unfold fint
  rw [canon_not h3]; exact h3
end Go.Aw
