/- Sums and differences of halves are exact; bits, bytes. No condition. -/
import Derived.Test.YtmnpdipiffmnhaaVAwF
import Derived.Test.YtmnpdipiffmnhaaVAwB
import Derived.Test.YtmnpdipiffmnhaaVAwD
set_option linter.unusedVariables false
set_option maxRecDepth 20000
namespace Go.Aw

theorem sub_word (k : FloatKind) (s t : Bool) {r q : Nat} (hr : r < k.format.infRung) (hq : q < k.format.infRung) :
    fop .sub k (k.format.word s r) (k.format.word t q) = k.format.word (if sg1 s (valR k.format r) + sg1 (!t) (valR k.format q) = 0 then s && !t else decide (sg1 s (valR k.format r) + sg1 (!t) (valR k.format q) < 0))
      (k.format.nearest false (sg1 s (valR k.format r) + sg1 (!t) (valR k.format q)).natAbs k.format.leastPlace) := by
  obtain ⟨m, i, h1, h2⟩ := read_word k s hr
  obtain ⟨n, j, g1, g2⟩ := read_word k t hq
  have hmin : min (k.format.leastPlace + (i : Int)) (k.format.leastPlace + (j : Int)) = k.format.leastPlace + ((min i j : Nat) : Int) := by omega
  generalize hT : sg1 s (m * 2 ^ (i - min i j)) + sg1 (!t) (n * 2 ^ (j - min i j)) = T
  have hp : (0 : Int) < ((2 ^ min i j : Nat) : Int) := by have := Nat.two_pow_pos (min i j); omega
  have hV : sg1 s (valR k.format r) + sg1 (!t) (valR k.format q) = T * ((2 ^ min i j : Nat) : Int) := by
    rw [← h2, ← g2, ← hT, Int.add_mul, ← sg1_mul, ← sg1_mul, Nat.mul_assoc, Nat.mul_assoc, ← Nat.pow_add, ← Nat.pow_add]
    congr 4 <;> congr 2 <;> omega
  have hf : floatBits .sub k (k.format.word s r) (k.format.word t q) = some (k.format.nearest (if T = 0 then s && !t else decide (T < 0)) T.natAbs (k.format.leastPlace + ((min i j : Nat) : Int))) := by
    unfold floatBits; simp only []; unfold Ieee.Format.sub
    rw [h1, g1]
    simp only [Ieee.Datum.opposite, Ieee.Datum.sum, Option.map_some, Ieee.Format.write]
    rw [hmin, signed_eq, signed_eq]
    have e1 : (k.format.leastPlace + (i : Int) - (k.format.leastPlace + ((min i j : Nat) : Int))).toNat = i - min i j := by omega
    have e2 : (k.format.leastPlace + (j : Int) - (k.format.leastPlace + ((min i j : Nat) : Int))).toNat = j - min i j := by omega
    rw [e1, e2, hT]
  rw [fop_eq hf, hV]
  have z1 : (T * ((2 ^ min i j : Nat) : Int) = 0) = (T = 0) := by
    apply propext; constructor
    · intro h; rcases Int.mul_eq_zero.1 h with h | h
      · exact h
      · omega
    · intro h; rw [h, Int.zero_mul]
  have z2 : (T * ((2 ^ min i j : Nat) : Int) < 0) = (T < 0) := by
    apply propext; constructor
    · intro h
      rcases Int.lt_or_le T 0 with h' | h'
      · exact h'
      · have := Int.mul_nonneg h' (Int.le_of_lt hp); omega
    · intro h; exact Int.mul_neg_of_neg_of_pos h hp
  simp only [z1, z2]
  have := nearest_scale k.format false T.natAbs (min i j) (k.format.leastPlace + ((min i j : Nat) : Int))
  rw [Int.add_sub_cancel] at this
  rw [← this, Int.natAbs_mul, Int.natAbs_natCast]

/-- the rung of n halves -/
def hr (k : FloatKind) (n : Nat) : Nat := k.format.nearest false n (-1)
def hUn : FloatKind → Nat
  | .f32 => 2 ^ (148 : Nat)
  | .f64 => 2 ^ (lpN .f64 - 1)
theorem hr_tab (k : FloatKind) : (List.range 514).all (fun n => decide (valR k.format (hr k n) = n * hUn k) && decide (hr k n < k.format.infRung)) = true := by cases k <;> decide +kernel
theorem hr_val (k : FloatKind) {n : Nat} (h : n ≤ 512) : valR k.format (hr k n) = n * hUn k := by
  have := List.all_eq_true.1 (hr_tab k) n (List.mem_range.2 (by omega))
  rw [Bool.and_eq_true, decide_eq_true_eq] at this; exact this.1
theorem hr_inf (k : FloatKind) {n : Nat} (h : n ≤ 512) : hr k n < k.format.infRung := by
  have := List.all_eq_true.1 (hr_tab k) n (List.mem_range.2 (by omega))
  rw [Bool.and_eq_true, decide_eq_true_eq, decide_eq_true_eq] at this; exact this.2
theorem hUn_pos (k : FloatKind) : 0 < hUn k := by cases k <;> exact Nat.two_pow_pos _
theorem hr_near (k : FloatKind) {n : Nat} (h : n ≤ 512) : k.format.nearest false (n * hUn k) k.format.leastPlace = hr k n := by
  rw [← hr_val k h]; exact nearest_valR k (hr_inf k h)
/-- a whole number of halves -/
def hw (k : FloatKind) (a : Int) : Nat := k.format.word (decide (a < 0)) (hr k a.natAbs)
theorem sg1_h (a : Int) (u : Nat) : sg1 (decide (a < 0)) (a.natAbs * u) = a * (u : Int) := by
  unfold sg1
  by_cases h : a < 0
  · rw [if_pos (decide_eq_true h)]
    have : ((a.natAbs * u : Nat) : Int) = (-a) * (u : Int) := by rw [Int.natCast_mul]; congr 1; omega
    rw [this, Int.neg_mul, Int.neg_neg]
  · rw [if_neg (by rw [decide_eq_false h]; simp)]
    have : ((a.natAbs * u : Nat) : Int) = a * (u : Int) := by rw [Int.natCast_mul]; congr 1; omega
    rw [this]
theorem hw_of (k : FloatKind) (s : Bool) (c : Int) (hc : c.natAbs ≤ 512) (hs : c = 0 → s = false) :
    k.format.word (if c * (hUn k : Int) = 0 then s else decide (c * (hUn k : Int) < 0)) (k.format.nearest false (c * (hUn k : Int)).natAbs k.format.leastPlace) = hw k c := by
  have hp : (0 : Int) < (hUn k : Int) := by have := hUn_pos k; omega
  have e : (c * (hUn k : Int)).natAbs = c.natAbs * hUn k := by rw [Int.natAbs_mul, Int.natAbs_natCast]
  rw [e, hr_near k hc]
  unfold hw
  congr 1
  by_cases h0 : c = 0
  · subst h0; rw [if_pos (by rw [Int.zero_mul]), hs rfl]; rfl
  · rw [if_neg (by intro h; rcases Int.mul_eq_zero.1 h with h | h <;> omega)]
    by_cases h1 : c < 0
    · rw [decide_eq_true h1, decide_eq_true (Int.mul_neg_of_neg_of_pos h1 hp)]
    · rw [decide_eq_false h1, decide_eq_false (by have := Int.mul_nonneg (show 0 ≤ c by omega) (Int.le_of_lt hp); omega)]
theorem hw_add (k : FloatKind) {a b : Int} (ha : a.natAbs ≤ 512) (hb : b.natAbs ≤ 512) (hab : (a + b).natAbs ≤ 512) : fop .add k (hw k a) (hw k b) = hw k (a + b) := by
  have h := sum_word k (decide (a < 0)) (decide (b < 0)) (hr_inf k ha) (hr_inf k hb)
  rw [hr_val k ha, hr_val k hb, sg1_h, sg1_h, ← Int.add_mul] at h
  refine h.trans ?_
  refine hw_of k _ (a + b) hab (fun h0 => ?_)
  by_cases h1 : a < 0
  · rw [decide_eq_false (show ¬ b < 0 by omega), Bool.and_false]
  · rw [decide_eq_false h1, Bool.false_and]
end Go.Aw

set_option linter.unusedVariables false
namespace Go.Aw
def ishr (k : IntKind) (x y : Int) : Int := x.fdiv (2 ^ (min y.toNat k.bits))
section
variable {P : Program} {ty : Ty} {o : Oper} {F : List Nat} {ρ : Fr} {η : Hp}
theorem q_shr {t u : TypeId} {x y : Operand} {k j : IntKind} {m n : Int} (ho : o.op = .binOp .shr t x y u) (hn : 0 ≤ n)
    (hx : evA ρ x = .t (.v (.int k m))) (hy : evA ρ y = .t (.v (.int j n))) : QRun P o F [] ρ η (.t (.v (.int k (ishr k m n)))) (lkH []) := by
  refine qrun_v fun vs w0 μ η' a w h1 h2 h3 => ?_
  have hx' := h3 x (by simp [ho, Op.operands])
  have hy' := h3 y (by simp [ho, Op.operands])
  rw [hx, VR, TR] at hx'; rw [hy, VR, TR] at hy'
  have hn' : ¬ n < 0 := by omega
  simp [execOp, ho, hx', hy', eqGuard, binOp, Op.shift, ishr, hn']
/-- a float that is a whole number, or is cut to one -/
theorem q_fi {s t : TypeId} {es et : TE} {x : Operand} {f : FloatKind} {k : IntKind} {c : Nat} {n : Int} (hT : TyOk P ty) (ho : o.op = .convert s t x) (hs : ty.get s = some es) (hds : es.d = .f f) (ht : ty.get t = some et) (hd : et.d = .i k)
    (hx : evA ρ x = .t (.f f c)) (hnn : isNan f c = false) (hn : (f.decode c).toInt .zero = some n) (hr : k.min ≤ n ∧ n ≤ k.max) : QRun P o F [] ρ η (.t (.v (.int k n))) (lkH []) := by
  refine qrun_v fun vs w0 μ η' a w h1 h2 h3 => ?_
  have hx' := h3 x (by simp [ho, Op.operands])
  rw [hx, VR, TR] at hx'
  obtain ⟨b, hb, hf⟩ := hx'
  have e := hf.eq hnn
  subst e
  simp [execOp, ho, hb, convert, run_underlying ((hT.get hs).float hds), run_underlying ((hT.get ht).int hd), Conv.floatToInt, hn, hr]
end
end Go.Aw

set_option linter.unusedVariables false
namespace Go.Aw
open Go.ChangeShapes Go.WideShapes Go.ChangeAt Go.RowKit
section
variable {H : Type} {enc : TypeId × Value → H} {P : Program} {w : World} {base : Nat} {spare : Nat → Bool} {held : Bool} {r : Reach} {b0 : Nat}
theorem trod_u8 {n : Nat} {t : TypeId} {v : Value} {y : DataW H × List MemPlace} (ht : P.underlying t = some (.int .u8)) (h : DataW.trod enc P w base spare held n t [v] = some y) : ∃ m : Nat, v = .int .u8 (m : Int) ∧ m < 256 := by
  cases n with
  | zero => simp [DataW.trod] at h
  | succ n =>
    cases v <;> simp only [DataW.trod, ht] at h <;> first | cases h | skip
    rename_i k b
    cases k <;> simp at h
    have hw := h.1
    simp [Lit.wf, IntKind.min, IntKind.max, IntKind.signed, IntKind.bits] at hw
    exact ⟨b.toNat, by rw [Int.toNat_of_nonneg (by omega)], by omega⟩
theorem open_U8 {t tf : TypeId} {v : Value} {d : DataW H} {p : List MemPlace} (ht : P.underlying t = some (.slice tf)) (hf : P.underlying tf = some (.int .u8)) (hc : P.cellsOf tf = 1)
    (hlt : ∀ x ∈ p, x.block < w.heap.size) (h : DataW.Trod enc P w base (fun _ => true) held t v d p) (hv : Value.okWide P w r b0 t v) :
    ∃ l : List Nat, (l.length ≤ 9223372036854775807 ∧ ∀ i, i < l.length → l.getD i 0 < 256) ∧ ∀ ok, (∀ b, ok b) → TR w ok (.tl (l.map fun x : Nat => T.v (.int .u8 (x : Int)))) v := by
  obtain ⟨fuel, hfu⟩ := h
  obtain ⟨a0, len, cap, rfl⟩ := okWide_slice ht hv
  obtain ⟨len', a, cap', he, h1, h2, h3⟩ := trod_sl1 ht hc hlt hfu
  cases he
  rcases h3 with h0 | ⟨b, off, rfl, hb, hel⟩
  · subst h0
    exact ⟨[], ⟨by simp, fun i hi => by simp at hi⟩, fun ok hok => by rw [TR]; exact ⟨_, _, _, rfl, rfl, h1, .inl rfl⟩⟩
  · obtain ⟨l, hl, hp⟩ := exists_list (0 : Nat) (p := fun i m => w.cell? ⟨b, off + i, none⟩ = some (.int .u8 (m : Int)) ∧ m < 256) (fun i hi => by
      obtain ⟨V, k, y', g1, g2, _⟩ := hel i hi
      obtain ⟨m, rfl, g3⟩ := trod_u8 hf g2
      exact ⟨m, g1, g3⟩)
    refine ⟨l, ⟨by omega, fun i hi => (hp i (by omega)).2⟩, fun ok hok => ?_⟩
    rw [TR]
    refine ⟨_, _, _, rfl, by simp [hl], h1, .inr ⟨b, off, rfl, hb, hok b, (TRs_iff ..).2 fun i t hi => ?_⟩⟩
    rw [List.getElem?_map] at hi
    obtain ⟨x, hx, rfl⟩ := Option.map_eq_some_iff.1 hi
    have hil : i < l.length := (List.getElem?_eq_some_iff.1 hx).1
    have hg : l.getD i 0 = x := by rw [List.getD_eq_getElem?_getD, hx]; rfl
    refine ⟨_, (hp i (by omega)).1, ?_⟩
    rw [TR, hg]
end
end Go.Aw

