/- The rules of the single operations. -/
import Derived.Test.YtodnginckchmdaaAwFloat
import Derived.IntWalk
set_option linter.unusedVariables false
namespace Go.Aw
open Go.RowKit (Below)

/-! ### worlds that hold the same memory -/

theorem keeps_same {w w' : World} {μ : Nat → Option Nat} {η : Hp} (h : w'.heap = w.heap) : Keeps w w' μ μ (okOf μ η) (okOf μ η) (fun i => i ∈ ([] : List Nat)) :=
  ⟨fun b hb hk => ⟨by rw [h]; exact hb, hk, by rw [h]⟩, fun _ _ => rfl, fun i b _ _ s hs => by rw [← hs]; simp [World.shape?, h]⟩

theorem HC_keep {vs : Env} {w0 w w' : World} {μ : Nat → Option Nat} {η : Hp} (h : HC vs w0 μ η w) (hb : Bel vs w0 w') (he : w'.heap = w.heap) : HC vs w0 μ η w' := by
  have hk := keeps_same (μ := μ) (η := η) he
  refine ⟨h.base, hb, fun i B hB => ?_, h.inj⟩
  have := h.blk i B hB
  cases B with
  | sl e c =>
    obtain ⟨h0, h⟩ := this
    refine ⟨h0, Or.imp (fun x => x) ?_ h⟩
    rintro ⟨b, cs, h1, h2, h3, h4, h5⟩
    exact ⟨b, cs, h1, h2, by rw [he]; exact h3, h4, TRl.mono hk.treeF _ _ h5⟩
  | box e l =>
    obtain ⟨b, cs, h1, h2, h3, h4⟩ := this
    exact ⟨b, cs, h1, h2, by rw [he]; exact h3, VRl.mono hk _ _ (by simp) h4⟩

section
variable {P : Program} {o : Oper} {F : List Nat} {ρ : Fr} {η : Hp}

/-- an operation that yields a value and leaves memory alone -/
theorem qrun_val {v : AV} (h : ∀ (vs : Env) (w0 : World) (μ : Nat → Option Nat) (η' : Hp) (a : Act) (w : World), (∀ i ∈ F, η' i = η i) → HC vs w0 μ η' w →
      (∀ x ∈ o.op.operands, VR vs w μ (okOf μ η') (evA ρ x) (a.eval x)) → ∃ y n, (execOp a.eval o).run P w = .ok (.value y) { w with drawn := n } ∧ VR vs w μ (okOf μ η') v y) :
    QRun P o F [] ρ η v (lkH []) := by
  intro vs w0 μ η' a w Q K h1 h2 h3 h4
  obtain ⟨y, n, hr, hv⟩ := h vs w0 μ η' a w h1 h2 h3
  have e : hpS [] (lkH []) η' = η' := hpS_nil η'
  have hk := keeps_same (μ := μ) (η := η') (w := w) (w' := { w with drawn := n }) rfl
  unfold Oper.wp
  rw [hr, Oper.upon_value]
  refine h4 y μ _ ?_ ?_ ?_
  · rw [e]; exact HC_keep h2 ⟨h2.below.os, h2.below.tape, h2.below.output, h2.below.size, h2.below.block, h2.below.shape⟩ rfl
  · rw [e]; exact hk
  · rw [e]; exact VR.mono hk _ _ (by simp) hv

/-- .. of which all is known -/
theorem qrun_v {y : Value} (h : ∀ (vs : Env) (w0 : World) (μ : Nat → Option Nat) (η' : Hp) (a : Act) (w : World), (∀ i ∈ F, η' i = η i) → HC vs w0 μ η' w →
      (∀ x ∈ o.op.operands, VR vs w μ (okOf μ η') (evA ρ x) (a.eval x)) → (execOp a.eval o).run P w = .ok (.value y) w) : QRun P o F [] ρ η (.t (.v y)) (lkH []) :=
  qrun_val fun vs w0 μ η' a w h1 h2 h3 => ⟨y, w.drawn, h vs w0 μ η' a w h1 h2 h3, by rw [VR, TR]⟩

theorem q_move (x : Operand) (ho : o.op = .move x ∨ o.op = .assign x) : QRun P o F [] ρ η (evA ρ x) (lkH []) := by
  refine qrun_val fun vs w0 μ η' a w h1 h2 h3 => ⟨a.eval x, w.drawn, ?_, h3 x ?_⟩
  · rcases ho with ho | ho <;> simp [execOp, ho]
  · rcases ho with ho | ho <;> simp [ho, Op.operands]

theorem q_pick {c x y : Operand} {b : Bool} (ho : o.op = .pick c x y) (hc : evA ρ c = .t (.v (.bool b))) : QRun P o F [] ρ η (bif b then evA ρ x else evA ρ y) (lkH []) := by
  refine qrun_val fun vs w0 μ η' a w h1 h2 h3 => ?_
  have hc' := h3 c (by simp [ho, Op.operands])
  rw [hc, VR, TR] at hc'
  refine ⟨if b then a.eval x else a.eval y, w.drawn, by simp [execOp, ho, hc', asBool], ?_⟩
  cases b
  · exact h3 y (by simp [ho, Op.operands])
  · exact h3 x (by simp [ho, Op.operands])

theorem q_not {t : TypeId} {x : Operand} {b : Bool} (ho : o.op = .unOp .not t x) (hx : evA ρ x = .t (.v (.bool b))) : QRun P o F [] ρ η (.t (.v (.bool (!b)))) (lkH []) := by
  refine qrun_v fun vs w0 μ η' a w h1 h2 h3 => ?_
  have hx' := h3 x (by simp [ho, Op.operands])
  rw [hx, VR, TR] at hx'
  simp [execOp, ho, hx', Op.unary]

theorem q_extract {x : Operand} {l : List AV} {i : Nat} {v : AV} (ho : o.op = .extract x i) (hx : evA ρ x = .tup l) (hi : l[i]? = some v) : QRun P o F [] ρ η v (lkH []) := by
  refine qrun_val fun vs w0 μ η' a w h1 h2 h3 => ?_
  have hx' := h3 x (by simp [ho, Op.operands])
  rw [hx, VR] at hx'
  obtain ⟨xs, hxs, hr⟩ := hx'
  obtain ⟨y, hy, hv⟩ := ((VRl_iff ..).1 hr).2 i v hi
  have hy' : xs[i]? = some y := by simpa using hy
  exact ⟨y, w.drawn, by simp [execOp, ho, hxs, Instr.extract, hy'], hv⟩

/-! integers -/
theorem q_iarith {op : BinOp} {t u : TypeId} {x y : Operand} {k : IntKind} {m n : Int} (ho : o.op = .binOp op t x y u) (hop : op = .add ∨ op = .sub ∨ op = .mul)
    (hx : evA ρ x = .t (.v (.int k m))) (hy : evA ρ y = .t (.v (.int k n))) :
    QRun P o F [] ρ η (.t (.v (.int k (k.wrap (match op with | .add => m + n | .sub => m - n | _ => m * n))))) (lkH []) := by
  refine qrun_v fun vs w0 μ η' a w h1 h2 h3 => ?_
  have hx' := h3 x (by simp [ho, Op.operands])
  have hy' := h3 y (by simp [ho, Op.operands])
  rw [hx, VR, TR] at hx'; rw [hy, VR, TR] at hy'
  rcases hop with rfl | rfl | rfl <;> simp [execOp, ho, hx', hy', eqGuard, binOp, Op.intArith]

theorem wrap_in {m : Int} (h : -9223372036854775808 ≤ m ∧ m ≤ 9223372036854775807) : IntKind.i64.wrap m = m := IntWalk.i64_in m h

theorem q_add {t u : TypeId} {x y : Operand} {m n : Int} (ho : o.op = .binOp .add t x y u)
    (hx : evA ρ x = .t (.v (.int .i64 m))) (hy : evA ρ y = .t (.v (.int .i64 n))) (h : -9223372036854775808 ≤ m + n ∧ m + n ≤ 9223372036854775807) :
    QRun P o F [] ρ η (.t (.v (.int .i64 (m + n)))) (lkH []) := by
  have := q_iarith (P := P) (F := F) (η := η) ho (.inl rfl) hx hy
  rwa [wrap_in h] at this
theorem q_sub {t u : TypeId} {x y : Operand} {m n : Int} (ho : o.op = .binOp .sub t x y u)
    (hx : evA ρ x = .t (.v (.int .i64 m))) (hy : evA ρ y = .t (.v (.int .i64 n))) (h : -9223372036854775808 ≤ m - n ∧ m - n ≤ 9223372036854775807) :
    QRun P o F [] ρ η (.t (.v (.int .i64 (m - n)))) (lkH []) := by
  have := q_iarith (P := P) (F := F) (η := η) ho (.inr (.inl rfl)) hx hy
  rwa [wrap_in h] at this
theorem q_mul {t u : TypeId} {x y : Operand} {m n : Int} (ho : o.op = .binOp .mul t x y u)
    (hx : evA ρ x = .t (.v (.int .i64 m))) (hy : evA ρ y = .t (.v (.int .i64 n))) (h : -9223372036854775808 ≤ m * n ∧ m * n ≤ 9223372036854775807) :
    QRun P o F [] ρ η (.t (.v (.int .i64 (m * n)))) (lkH []) := by
  have := q_iarith (P := P) (F := F) (η := η) ho (.inr (.inr rfl)) hx hy
  rwa [wrap_in h] at this

theorem q_quo {t u : TypeId} {x y : Operand} {m n : Int} (ho : o.op = .binOp .quo t x y u)
    (hx : evA ρ x = .t (.v (.int .i64 m))) (hy : evA ρ y = .t (.v (.int .i64 n))) (hm : 0 ≤ m) (hM : m ≤ 9223372036854775807) (hn : 1 ≤ n) :
    QRun P o F [] ρ η (.t (.v (.int .i64 (m / n)))) (lkH []) := by
  refine qrun_v fun vs w0 μ η' a w h1 h2 h3 => ?_
  have hx' := h3 x (by simp [ho, Op.operands])
  have hy' := h3 y (by simp [ho, Op.operands])
  rw [hx, VR, TR] at hx'; rw [hy, VR, TR] at hy'
  have hd : m.tdiv n = m / n := Int.tdiv_eq_ediv_of_nonneg hm
  have h4 : 0 ≤ m / n := Int.ediv_nonneg hm (by omega)
  have h5 : m / n ≤ m := Int.ediv_le_self n hm
  have hn0 : n ≠ 0 := by omega
  simp [execOp, ho, hx', hy', eqGuard, binOp, Op.intDiv, hn0, hd, wrap_in (m := m / n) ⟨by omega, by omega⟩]
theorem q_rem {t u : TypeId} {x y : Operand} {m n : Int} (ho : o.op = .binOp .rem t x y u)
    (hx : evA ρ x = .t (.v (.int .i64 m))) (hy : evA ρ y = .t (.v (.int .i64 n))) (hm : 0 ≤ m) (hn : 1 ≤ n) :
    QRun P o F [] ρ η (.t (.v (.int .i64 (m % n)))) (lkH []) := by
  refine qrun_v fun vs w0 μ η' a w h1 h2 h3 => ?_
  have hx' := h3 x (by simp [ho, Op.operands])
  have hy' := h3 y (by simp [ho, Op.operands])
  rw [hx, VR, TR] at hx'; rw [hy, VR, TR] at hy'
  have hd : m.tmod n = m % n := Int.tmod_eq_emod_of_nonneg hm
  have hn0 : n ≠ 0 := by omega
  simp [execOp, ho, hx', hy', eqGuard, binOp, Op.intDiv, hn0, hd]

def icmp (op : BinOp) (m n : Int) : Bool := match op with
  | .eql => m == n
  | .neq => m != n
  | .lss => decide (m < n)
  | .leq => decide (m ≤ n)
  | .gtr => decide (n < m)
  | _ => decide (n ≤ m)
def cmpOp : BinOp → Bool
  | .eql | .neq | .lss | .leq | .gtr | .geq => true
  | _ => false
theorem q_icmp {op : BinOp} {t u : TypeId} {x y : Operand} {k : IntKind} {m n : Int} (ho : o.op = .binOp op t x y u) (hop : cmpOp op = true)
    (hx : evA ρ x = .t (.v (.int k m))) (hy : evA ρ y = .t (.v (.int k n))) : QRun P o F [] ρ η (.t (.v (.bool (icmp op m n)))) (lkH []) := by
  refine qrun_v fun vs w0 μ η' a w h1 h2 h3 => ?_
  have hx' := h3 x (by simp [ho, Op.operands])
  have hy' := h3 y (by simp [ho, Op.operands])
  rw [hx, VR, TR] at hx'; rw [hy, VR, TR] at hy'
  cases op <;> simp only [cmpOp, Bool.false_eq_true] at hop <;> simp [execOp, ho, hx', hy', eqGuard, binOp, Op.intCmp, icmp]

/-! floats -/
theorem q_farith {op : BinOp} {t u : TypeId} {x y : Operand} {k : FloatKind} {c d : Nat} (ho : o.op = .binOp op t x y u) (hop : op = .add ∨ op = .sub ∨ op = .mul ∨ op = .quo)
    (hx : evA ρ x = .t (.f k c)) (hy : evA ρ y = .t (.f k d)) : QRun P o F [] ρ η (.t (.f k (fop op k c d))) (lkH []) := by
  refine qrun_val fun vs w0 μ η' a w h1 h2 h3 => ?_
  have hx' := h3 x (by simp [ho, Op.operands])
  have hy' := h3 y (by simp [ho, Op.operands])
  rw [hx, VR, TR] at hx'; rw [hy, VR, TR] at hy'
  obtain ⟨p, hp, hp'⟩ := hx'
  obtain ⟨q, hq, hq'⟩ := hy'
  obtain ⟨r, n, hr, hf⟩ := run_farith (P := P) (w := w) hop (t := t) hp' hq'
  refine ⟨_, n, ?_, by rw [VR, TR]; exact ⟨r, rfl, hf⟩⟩
  rcases hop with rfl | rfl | rfl | rfl <;> simp [execOp, ho, hp, hq, eqGuard, hr]
theorem q_fcmp {op : BinOp} {t u : TypeId} {x y : Operand} {k : FloatKind} {c d : Nat} (ho : o.op = .binOp op t x y u) (hop : cmpOp op = true)
    (hx : evA ρ x = .t (.f k c)) (hy : evA ρ y = .t (.f k d)) : QRun P o F [] ρ η (.t (.v (.bool (fcmp op k c d)))) (lkH []) := by
  refine qrun_v fun vs w0 μ η' a w h1 h2 h3 => ?_
  have hx' := h3 x (by simp [ho, Op.operands])
  have hy' := h3 y (by simp [ho, Op.operands])
  rw [hx, VR, TR] at hx'; rw [hy, VR, TR] at hy'
  obtain ⟨p, hp, hp'⟩ := hx'
  obtain ⟨q, hq, hq'⟩ := hy'
  have hop' : op = .eql ∨ op = .neq ∨ op = .lss ∨ op = .leq ∨ op = .gtr ∨ op = .geq := by cases op <;> simp [cmpOp] at hop ⊢
  have hr := run_fcmp (P := P) (w := w) hop' (t := t) hp' hq'
  rcases hop' with rfl | rfl | rfl | rfl | rfl | rfl <;> simp [execOp, ho, hp, hq, eqGuard, hr]

def fneg (k : FloatKind) (c : Nat) : Nat := if isNan k c then nan0 k else canon k (Op.negFloat k c)

end
end Go.Aw
