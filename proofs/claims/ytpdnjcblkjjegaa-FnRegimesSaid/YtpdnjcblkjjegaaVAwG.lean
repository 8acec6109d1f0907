/- Sums and differences of halves are exact; bits, bytes. No condition. -/
import Derived.Test.YtpdnjcblkjjegaaVT89
import Derived.Test.YtpdnjcblkjjegaaVAwF
import Derived.Test.YtpdnjcblkjjegaaVAwB
import Derived.Test.YtpdnjcblkjjegaaVAwD
set_option linter.unusedVariables false
set_option linter.unusedSimpArgs false
set_option maxRecDepth 20000
set_option maxHeartbeats 8000000
namespace Go.Proofs.Ytpdnjcblkjjegaa
open Go.Aw

/-! ### how likely states are: the plain law -/
def rzL (a b ch : List Nat) (x : Nat) : List Nat := (List.range a.length).map fun i => fop .mul .f32 (ch.getD i 0) (wgt a b x i)
def rsQ (a b ch : List Nat) (x : Nat) : List Nat := (List.range a.length).map fun i => fop .quo .f32 ((rzL a b ch x).getD i 0) (sumF (rzL a b ch x))
def rsN (d : List Nat) (n : Nat) (q : List Nat) (k : Nat) : Nat → Nat
  | 0 => 0
  | i + 1 => fop .add .f32 (rsN d n q k i) (fop .mul .f32 (q.getD i 0) (d.getD (i * n + k) 0))
def rsC (a b c d s : List Nat) : Nat → List Nat
  | 0 => c
  | t + 1 => (List.range a.length).map fun k => rsN d a.length (rsQ a b (rsC a b c d s t) (s.getD t 0)) k a.length
def rsU (a b c d s : List Nat) (t : Nat) : Nat := sumF (rzL a b (rsC a b c d s t) (s.getD t 0))
def rsO (a b c d s : List Nat) : Nat → List Nat
  | 0 => []
  | t + 1 => rsO a b c d s t ++ rsQ a b (rsC a b c d s t) (s.getD t 0)
def rsT (a b c d s : List Nat) : Nat → Nat
  | 0 => 0
  | t + 1 => fop .add .f32 (rsT a b c d s t) (logF (rsU a b c d s t))
def rsA (a b c d s : List Nat) : Bool := (List.range s.length).all fun t => above (rsU a b c d s t)
def rs0 (a b c d s : List Nat) : List Nat × Nat × Bool := if rsA a b c d s then (rsO a b c d s s.length, rsT a b c d s s.length, (rsO a b c d s s.length).all fin && fin (rsT a b c d s s.length)) else ([], 0, false)
def rsF (a b c d s : List Nat) : List Nat × Nat × Bool := if valR4 a b c d && isSer s && rsA a b c d s && (rsO a b c d s s.length).all fin && fin (rsT a b c d s s.length) then (rsO a b c d s s.length, rsT a b c d s s.length, true) else ([], 0, false)

theorem rzL_len (a b ch : List Nat) (x : Nat) : (rzL a b ch x).length = a.length := by simp [rzL]
theorem rzL_get {a b ch : List Nat} {x i : Nat} (h : i < a.length) : (rzL a b ch x).getD i 0 = fop .mul .f32 (ch.getD i 0) (wgt a b x i) := getD_mapR _ h
theorem rsQ_len (a b ch : List Nat) (x : Nat) : (rsQ a b ch x).length = a.length := by simp [rsQ]
theorem rsC_len {a b c d s : List Nat} (hc : c.length = a.length) : ∀ t, (rsC a b c d s t).length = a.length
  | 0 => hc
  | t + 1 => by simp [rsC]
theorem rsC_get {a b c d s : List Nat} {t k : Nat} (h : k < a.length) : (rsC a b c d s (t + 1)).getD k 0 = rsN d a.length (rsQ a b (rsC a b c d s t) (s.getD t 0)) k a.length := by rw [rsC]; exact getD_mapR _ h
theorem rsO_len (a b c d s : List Nat) : ∀ t, (rsO a b c d s t).length = t * a.length
  | 0 => by simp [rsO]
  | t + 1 => by rw [rsO, List.length_append, rsO_len, rsQ_len, Nat.add_mul, Nat.one_mul]
theorem F32_0 : F32 0 := ⟨canon_not (by decide +kernel), by decide⟩
theorem foldl_F32 : ∀ (l : List Nat) (s : Nat), F32 s → F32 (l.foldl (fun s x => fop .add .f32 s x) s)
  | [], s, h => h
  | x :: l, s, _ => by simp only [List.foldl_cons]; exact foldl_F32 l _ (F32_fop _ _ _)
theorem rsU_F (a b c d s : List Nat) (t : Nat) : F32 (rsU a b c d s t) := foldl_F32 _ _ F32_0
theorem rsF_len (a b c d s : List Nat) : (rsF a b c d s).1.length ≤ 288 := by
  unfold rsF
  split
  · rename_i h
    simp only [Bool.and_eq_true] at h
    have h1 := (valR4_of h.1.1.1.1).2.1
    have h2 := isSer_len h.1.1.1.2
    have := Nat.mul_le_mul (show s.length ≤ 96 by omega) h1
    simp only [rsO_len]; omega
  · simp
/-- what is not finite stays so -/
theorem fin_add {x y : Nat} (h : fin (fop .add .f32 x y) = true) : fin x = true ∧ fin y = true := by
  have h' : finB .f32 (fop .add .f32 x y) = true := h
  have key : ∀ z, fin z = finB .f32 z := fun _ => rfl
  rw [key, key]
  rw [finB_eq] at h'
  unfold fop at h'
  have hb : floatBits .add .f32 x y = ((FloatKind.f32.format.read x).sum (FloatKind.f32.format.read y)).map FloatKind.f32.format.write := rfl
  have ninf : ∀ s, finR .f32 (canon .f32 (FloatKind.f32.format.write (.infinity s))) = false := fun s => by cases s <;> decide +kernel
  have hnan : finR .f32 (nan0 .f32) = false := by decide +kernel
  have rd : ∀ z, finB .f32 z = true ∨ (∃ s, FloatKind.f32.format.read z = .infinity s) ∨ (∃ s t, FloatKind.f32.format.read z = .nan s t) := fun z => by
    rcases Nat.lt_trichotomy (z % FloatKind.f32.format.signWeight) FloatKind.f32.format.infRung with h | h | h
    · left; rw [finB_eq]; exact decide_eq_true h
    · right; left; exact ⟨_, read_inf h⟩
    · right; right
      have : isNan .f32 z = true := by rw [isNan_rung]; exact decide_eq_true h
      exact datum_nan this
  rcases rd x with hx | ⟨s, hx⟩ | ⟨s, t, hx⟩
  · rcases rd y with hy | ⟨s, hy⟩ | ⟨s, t, hy⟩
    · exact ⟨hx, hy⟩
    · exfalso
      rw [hb, hy] at h'
      revert h'
      cases FloatKind.f32.format.read x with
      | nan s t => simp [Ieee.Datum.sum, hnan]
      | infinity t => by_cases hts : t = s <;> simp [Ieee.Datum.sum, hts, hnan, ninf]
      | number t m e => simp [Ieee.Datum.sum, ninf]
    · exfalso
      rw [hb, hy] at h'
      revert h'
      cases FloatKind.f32.format.read x <;> simp [Ieee.Datum.sum, hnan]
  · exfalso
    rw [hb, hx] at h'
    revert h'
    cases FloatKind.f32.format.read y with
    | nan s t => simp [Ieee.Datum.sum, hnan]
    | infinity t => by_cases hts : s = t <;> simp [Ieee.Datum.sum, hts, hnan, ninf]
    | number t m e => simp [Ieee.Datum.sum, ninf]
  · exfalso
    rw [hb, hx] at h'
    revert h'
    cases FloatKind.f32.format.read y <;> simp [Ieee.Datum.sum, hnan]
theorem logF_inf {u : Nat} (h : fcmp .gtr .f32 u 0 = true) (hu : F32 u) (hf : fin (logF u) = true) : fin u = true := by
  cases h0 : fin u with
  | true => rfl
  | false =>
    exfalso
    have hn := hu
    have e1 : fcmp .eql .f32 u 0 = false := by
      cases e : fcmp .eql .f32 u 0 with
      | false => rfl
      | true =>
        exfalso
        unfold fcmp at h e
        simp only [] at h e
        cases ho : FloatKind.f32.format.order u 0 with
        | none => rw [ho] at h; cases h
        | some o => rw [ho] at h e; cases o <;> first | (cases h; done) | (cases e; done)
    have e2 : fcmp .lss .f32 u 0 = false := by
      cases e : fcmp .lss .f32 u 0 with
      | false => rfl
      | true =>
        exfalso
        unfold fcmp at h e
        simp only [] at h e
        cases ho : FloatKind.f32.format.order u 0 with
        | none => rw [ho] at h; cases h
        | some o => rw [ho] at h e; cases o <;> first | (cases h; done) | (cases e; done)
    have e3 : fcmp .neq .f32 u u = false := by
      rw [neq_self]
      cases hx : isNan .f32 u with
      | false => rfl
      | true => rw [nan_cmp .gtr .f32 0 hx (.inr rfl)] at h; cases h
    rw [logF3 e1 (by rw [e2, e3]; rfl) h0] at hf
    rw [h0] at hf; cases hf
theorem rs_above {a b c d s : List Nat} {n : Nat} (hg : ∀ t, t < n → fcmp .gtr .f32 (rsU a b c d s t) 0 = true) (hf : fin (rsT a b c d s n) = true) : ∀ t, t < n → above (rsU a b c d s t) = true := by
  induction n with
  | zero => intro t ht; omega
  | succ n ih =>
    rw [rsT] at hf
    obtain ⟨h1, h2⟩ := fin_add hf
    intro t ht
    rcases Nat.lt_or_eq_of_le (Nat.le_of_lt_succ ht) with h | h
    · exact ih (fun t ht => hg t (by omega)) h1 t h
    · subst h
      have hgt := hg t (by omega)
      simp only [above, Bool.and_eq_true]
      exact ⟨logF_inf hgt (rsU_F a b c d s t) h2, hgt⟩

/-! ### lists that are changed in place -/
def mxL (f : Nat → Nat) (w : List Nat) (i : Nat) : List Nat := (List.range w.length).map fun k => if k < i then f k else w.getD k 0
theorem mxL_len (f : Nat → Nat) (w : List Nat) (i : Nat) : (mxL f w i).length = w.length := by simp [mxL]
theorem mxL_get {f : Nat → Nat} {w : List Nat} {i k : Nat} (h : k < w.length) : (mxL f w i).getD k 0 = if k < i then f k else w.getD k 0 := getD_mapR _ h
theorem mxL_0 (f : Nat → Nat) (w : List Nat) : w = mxL f w 0 := by
  refine List.ext_getElem (by rw [mxL_len]) fun k h1 h2 => ?_
  simp [mxL, List.getD_eq_getElem?_getD, h1]
theorem mxL_all (f : Nat → Nat) {w : List Nat} {i : Nat} (h : w.length ≤ i) : mxL f w i = (List.range w.length).map f := by
  unfold mxL
  refine List.map_congr_left fun k hk => ?_
  rw [if_pos (by have := List.mem_range.1 hk; omega)]
theorem mxL_set {f : Nat → Nat} {w : List Nat} {i : Nat} (h : i < w.length) : (mxL f w i).set i (f i) = mxL f w (i + 1) := by
  refine List.ext_getElem (by simp [mxL]) fun k h1 h2 => ?_
  have hk : k < w.length := by rw [mxL_len] at h2; exact h2
  rw [List.getElem_set]
  simp only [mxL, List.getElem_map, List.getElem_range]
  by_cases e : i = k
  · subst e; simp
  · simp only [e, if_false]
    by_cases e2 : k < i
    · rw [if_pos e2, if_pos (by omega)]
    · rw [if_neg e2, if_neg (by omega)]
def rsD (a b ch : List Nat) (x i : Nat) : Nat := fop .quo .f32 ((rzL a b ch x).getD i 0) (sumF (rzL a b ch x))
theorem rsQ_mix (a b ch : List Nat) (x : Nat) : mxL (rsD a b ch x) (rzL a b ch x) a.length = rsQ a b ch x := by
  rw [mxL_all _ (by rw [rzL_len]; exact Nat.le_refl _), rzL_len]; rfl
/-- chances that are summed up in place -/
def rsK (d : List Nat) (n : Nat) (q : List Nat) (k i : Nat) : List Nat := (List.range n).map fun j => if j < k then rsN d n q j n else if j = k then rsN d n q k i else 0
theorem rsK_len (d : List Nat) (n : Nat) (q : List Nat) (k i : Nat) : (rsK d n q k i).length = n := by simp [rsK]
theorem rsK_get {d : List Nat} {n : Nat} {q : List Nat} {k i : Nat} (h : k < n) : (rsK d n q k i).getD k 0 = rsN d n q k i := by
  unfold rsK
  rw [getD_mapR _ h, if_neg (by omega), if_pos rfl]
theorem rsK_set {d : List Nat} {n : Nat} {q : List Nat} {k i : Nat} : (rsK d n q k i).set k (rsN d n q k (i + 1)) = rsK d n q k (i + 1) := by
  refine List.ext_getElem (by simp [rsK]) fun j h1 h2 => ?_
  rw [List.getElem_set]
  simp only [rsK, List.getElem_map, List.getElem_range]
  by_cases e : k = j
  · subst e; simp
  · have e' : ¬ j = k := fun h => e h.symm
    simp only [e, e', if_false]
theorem rsK_next {d : List Nat} {n : Nat} {q : List Nat} {k : Nat} : rsK d n q k n = rsK d n q (k + 1) 0 := by
  unfold rsK
  refine List.map_congr_left fun j hj => ?_
  by_cases h1 : j < k
  · rw [if_pos h1, if_pos (by omega)]
  · by_cases h2 : j = k
    · subst h2; rw [if_neg h1, if_pos rfl, if_pos (by omega)]
    · rw [if_neg h1, if_neg h2, if_neg (by omega)]
      by_cases h3 : j = k + 1
      · rw [if_pos h3]; rfl
      · rw [if_neg h3]
theorem rsK_0 {d : List Nat} {n : Nat} {q : List Nat} : List.replicate n 0 = rsK d n q 0 0 := by
  refine List.ext_getElem (by simp [rsK]) fun j h1 h2 => ?_
  simp only [rsK, List.getElem_map, List.getElem_range, List.getElem_replicate]
  rw [if_neg (by omega)]
  by_cases h : j = 0
  · rw [if_pos h]; rfl
  · rw [if_neg h]
theorem rsK_all {a b c d s : List Nat} {t : Nat} : rsK d a.length (rsQ a b (rsC a b c d s t) (s.getD t 0)) a.length 0 = rsC a b c d s (t + 1) := by
  unfold rsK; rw [rsC]
  refine List.map_congr_left fun j hj => ?_
  rw [if_pos (List.mem_range.1 hj)]
theorem rsF_not {a b c d s : List Nat} (h : ¬ (valR4 a b c d = true ∧ isSer s = true ∧ rsA a b c d s = true ∧ (rsO a b c d s s.length).all fin = true ∧ fin (rsT a b c d s s.length) = true)) : rsF a b c d s = ([], 0, false) := by
  unfold rsF; rw [if_neg (by simpa only [Bool.and_eq_true, and_assoc] using h)]
theorem rsF_yes {a b c d s : List Nat} (h1 : valR4 a b c d = true) (h2 : isSer s = true) (h3 : rsA a b c d s = true) (h4 : (rsO a b c d s s.length).all fin = true) (h5 : fin (rsT a b c d s s.length) = true) : rsF a b c d s = (rsO a b c d s s.length, rsT a b c d s s.length, true) := by
  unfold rsF; rw [if_pos (by simp only [h1, h2, h3, h4, h5]; rfl)]
end Go.Proofs.Ytpdnjcblkjjegaa

set_option linter.unusedVariables false
set_option maxRecDepth 20000
namespace Go.Aw

theorem sub_word (k : FloatKind) (s t : Bool) {r q : Nat} (hr : r < k.format.infRung) (hq : q < k.format.infRung) :
    fop .sub k (k.format.word s r) (k.format.word t q) = k.format.word (if sg1 s (valR k.format r) + sg1 (!t) (valR k.format q) = 0 then s && !t else decide (sg1 s (valR k.format r) + sg1 (!t) (valR k.format q) < 0))
      (k.format.nearest false (sg1 s (valR k.format r) + sg1 (!t) (valR k.format q)).natAbs k.format.leastPlace) := by
  obtain ⟨m, i, h1, h2⟩ := read_word k s hr
  obtain ⟨n, j, g1, g2⟩ := read_word k t hq
  have hmin : min (k.format.leastPlace + (i : Int)) (k.format.leastPlace + (j : Int)) = k.format.leastPlace + ((min i j : Nat) : Int) := by omega
  generalize hT : sg1 s (m * 2 ^ (i - min i j)) + sg1 (!t) (n * 2 ^ (j - min i j)) = T
  have hp : (0 : Int) < ((2 ^ min i j : Nat) : Int) := by have := Nat.two_pow_pos (min i j); omega
  have hV : sg1 s (valR k.format r) + sg1 (!t) (valR k.format q) = T * ((2 ^ min i j : Nat) : Int) := by
    rw [← h2, ← g2, ← hT, Int.add_mul, ← sg1_mul, ← sg1_mul, Nat.mul_assoc, Nat.mul_assoc, ← Nat.pow_add, ← Nat.pow_add]
    congr 4 <;> congr 2 <;> omega
  have hf : floatBits .sub k (k.format.word s r) (k.format.word t q) = some (k.format.nearest (if T = 0 then s && !t else decide (T < 0)) T.natAbs (k.format.leastPlace + ((min i j : Nat) : Int))) := by
    unfold floatBits; simp only []; unfold Ieee.Format.sub
    rw [h1, g1]
    simp only [Ieee.Datum.opposite, Ieee.Datum.sum, Option.map_some, Ieee.Format.write]
    rw [hmin, signed_eq, signed_eq]
    have e1 : (k.format.leastPlace + (i : Int) - (k.format.leastPlace + ((min i j : Nat) : Int))).toNat = i - min i j := by omega
    have e2 : (k.format.leastPlace + (j : Int) - (k.format.leastPlace + ((min i j : Nat) : Int))).toNat = j - min i j := by omega
    rw [e1, e2, hT]
  rw [fop_eq hf, hV]
  have z1 : (T * ((2 ^ min i j : Nat) : Int) = 0) = (T = 0) := by
    apply propext; constructor
    · intro h; rcases Int.mul_eq_zero.1 h with h | h
      · exact h
      · omega
    · intro h; rw [h, Int.zero_mul]
  have z2 : (T * ((2 ^ min i j : Nat) : Int) < 0) = (T < 0) := by
    apply propext; constructor
    · intro h
      rcases Int.lt_or_le T 0 with h' | h'
      · exact h'
      · have := Int.mul_nonneg h' (Int.le_of_lt hp); omega
    · intro h; exact Int.mul_neg_of_neg_of_pos h hp
  simp only [z1, z2]
  have := nearest_scale k.format false T.natAbs (min i j) (k.format.leastPlace + ((min i j : Nat) : Int))
  rw [Int.add_sub_cancel] at this
  rw [← this, Int.natAbs_mul, Int.natAbs_natCast]

/-- the rung of n halves -/
def hr (k : FloatKind) (n : Nat) : Nat := k.format.nearest false n (-1)
/-- a whole number of halves -/
def hw (k : FloatKind) (a : Int) : Nat := k.format.word (decide (a < 0)) (hr k a.natAbs)
theorem sv_word (k : FloatKind) (s : Bool) {r : Nat} (h : r < k.format.signWeight) : sv k (k.format.word s r) = sg1 s r := by
  obtain ⟨w1, w2, _⟩ := word_parts k s h
  unfold sv
  rw [w1, w2]
  cases s <;> rfl
end Go.Aw

set_option linter.unusedVariables false
namespace Go.Aw
section
variable {P : Program} {ty : Ty} {o : Oper} {F : List Nat} {ρ : Fr} {η : Hp}
end
end Go.Aw

set_option linter.unusedVariables false
namespace Go.Aw
open Go.ChangeShapes Go.WideShapes Go.ChangeAt Go.RowKit
section
variable {H : Type} {enc : TypeId × Value → H} {P : Program} {w : World} {base : Nat} {spare : Nat → Bool} {held : Bool} {r : Reach} {b0 : Nat}
theorem trod_u8 {n : Nat} {t : TypeId} {v : Value} {y : DataW H × List MemPlace} (ht : P.underlying t = some (.int .u8)) (h : DataW.trod enc P w base spare held n t [v] = some y) : ∃ m : Nat, v = .int .u8 (m : Int) ∧ m < 256 := by
  cases n with
  | zero => simp [DataW.trod] at h
  | succ n =>
    cases v <;> simp only [DataW.trod, ht] at h <;> first | cases h | skip
    rename_i k b
    cases k <;> simp at h
    have hw := h.1
    simp [Lit.wf, IntKind.min, IntKind.max, IntKind.signed, IntKind.bits] at hw
    exact ⟨b.toNat, by rw [Int.toNat_of_nonneg (by omega)], by omega⟩
theorem open_U8 {t tf : TypeId} {v : Value} {d : DataW H} {p : List MemPlace} (ht : P.underlying t = some (.slice tf)) (hf : P.underlying tf = some (.int .u8)) (hc : P.cellsOf tf = 1)
    (hlt : ∀ x ∈ p, x.block < w.heap.size) (h : DataW.Trod enc P w base (fun _ => true) held t v d p) (hv : Value.okWide P w r b0 t v) :
    ∃ l : List Nat, (l.length ≤ 9223372036854775807 ∧ ∀ i, i < l.length → l.getD i 0 < 256) ∧ ∀ ok, (∀ b, ok b) → TR w ok (.tl (l.map fun x : Nat => T.v (.int .u8 (x : Int)))) v := by
  obtain ⟨fuel, hfu⟩ := h
  obtain ⟨a0, len, cap, rfl⟩ := okWide_slice ht hv
  obtain ⟨len', a, cap', he, h1, h2, h3⟩ := trod_sl1 ht hc hlt hfu
  cases he
  rcases h3 with h0 | ⟨b, off, rfl, hb, hel⟩
  · subst h0
    exact ⟨[], ⟨by simp, fun i hi => by simp at hi⟩, fun ok hok => by rw [TR]; exact ⟨_, _, _, rfl, rfl, h1, .inl rfl⟩⟩
  · obtain ⟨l, hl, hp⟩ := exists_list (0 : Nat) (p := fun i m => w.cell? ⟨b, off + i, none⟩ = some (.int .u8 (m : Int)) ∧ m < 256) (fun i hi => by
      obtain ⟨V, k, y', g1, g2, _⟩ := hel i hi
      obtain ⟨m, rfl, g3⟩ := trod_u8 hf g2
      exact ⟨m, g1, g3⟩)
    refine ⟨l, ⟨by omega, fun i hi => (hp i (by omega)).2⟩, fun ok hok => ?_⟩
    rw [TR]
    refine ⟨_, _, _, rfl, by simp [hl], h1, .inr ⟨b, off, rfl, hb, hok b, (TRs_iff ..).2 fun i t hi => ?_⟩⟩
    rw [List.getElem?_map] at hi
    obtain ⟨x, hx, rfl⟩ := Option.map_eq_some_iff.1 hi
    have hil : i < l.length := (List.getElem?_eq_some_iff.1 hx).1
    have hg : l.getD i 0 = x := by rw [List.getD_eq_getElem?_getD, hx]; rfl
    refine ⟨_, (hp i (by omega)).1, ?_⟩
    rw [TR, hg]
end
end Go.Aw

