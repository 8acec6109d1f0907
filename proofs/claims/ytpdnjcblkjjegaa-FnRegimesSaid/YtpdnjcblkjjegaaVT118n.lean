import Derived.Test.YtpdnjcblkjjegaaVT190
import Derived.Test.YtpdnjcblkjjegaaVT109
import Derived.Test.YtpdnjcblkjjegaaVT187
import Derived.Test.YtpdnjcblkjjegaaVAwJ
import Derived.Test.YtpdnjcblkjjegaaVT105
set_option linter.unusedVariables false
set_option linter.unusedSimpArgs false
set_option maxRecDepth 100000
set_option maxHeartbeats 8000000
namespace Go.Proofs.Ytpdnjcblkjjegaa
open Go.Aw

/-! ### words that are not below nought -/
abbrev I1 : Nat := 1065353216
abbrev I4 : Nat := 1082130432
abbrev I16 : Nat := 1098907648
theorem mul_nn (k : FloatKind) {r q : Nat} (hr : r < k.format.infRung) (hq : q < k.format.infRung) : fop .mul k r q = k.format.nearest false (valR k.format r * valR k.format q) (k.format.leastPlace + k.format.leastPlace) := by
  have h := mul_word k false false hr hq
  rw [word_f, word_f] at h
  rw [h]
  rfl
theorem mul_mono (k : FloatKind) {r q r' q' : Nat} (hr : r ≤ r') (hq : q ≤ q') (h1 : r' < k.format.infRung) (h2 : q' < k.format.infRung) : fop .mul k r q ≤ fop .mul k r' q' := by
  rw [mul_nn k (by omega) (by omega), mul_nn k h1 h2]
  exact nearest_mono k.format _ (Nat.mul_le_mul (valR_mono _ hr) (valR_mono _ hq))
theorem mul_14 : fop .mul .f32 I1 I4 = I4 := by decide +kernel
theorem mul_41 : fop .mul .f32 I4 I1 = I4 := by decide +kernel
theorem mul_44 : fop .mul .f32 I4 I4 = I16 := by decide +kernel
theorem mul_11 : fop .mul .f32 I1 I1 = I1 := by decide +kernel
theorem mulB14 {r q : Nat} (hr : r ≤ I1) (hq : q ≤ I4) : fop .mul .f32 r q ≤ I4 := by
  have := mul_mono .f32 hr hq (by rw [inf32]; decide) (by rw [inf32]; decide); rwa [mul_14] at this
theorem mulB41 {r q : Nat} (hr : r ≤ I4) (hq : q ≤ I1) : fop .mul .f32 r q ≤ I4 := by
  have := mul_mono .f32 hr hq (by rw [inf32]; decide) (by rw [inf32]; decide); rwa [mul_41] at this
theorem mulB44 {r q : Nat} (hr : r ≤ I4) (hq : q ≤ I4) : fop .mul .f32 r q ≤ I16 := by
  have := mul_mono .f32 hr hq (by rw [inf32]; decide) (by rw [inf32]; decide); rwa [mul_44] at this
theorem mulB11 {r q : Nat} (hr : r ≤ I1) (hq : q ≤ I1) : fop .mul .f32 r q ≤ I1 := by
  have := mul_mono .f32 hr hq (by rw [inf32]; decide) (by rw [inf32]; decide); rwa [mul_11] at this
theorem quoB1 {r q : Nat} (hrq : r ≤ q) (hq : q < 2139095040) (hq0 : 0 < q) : fop .quo .f32 r q ≤ I1 := by
  obtain ⟨r', h1, h2⟩ := quo_le1 .f32 false false hrq (by rw [inf32]; exact hq) hq0
  rw [word_f, word_f] at h2
  rw [h2]
  show FloatKind.f32.format.word false r' ≤ I1
  rw [word_f]; exact h1
/-- the first greatest is none below the others -/
theorem fsI_max {l : List Nat} {n : Nat} (h : ∀ k, k < n → l.getD k 0 < 2139095040) : ∀ i, i ≤ n → ∀ j, j < i → l.getD j 0 ≤ l.getD (fsI l i) 0
  | 0, _, j, hj => by omega
  | i + 1, hi, j, hj => by
    have ih := fsI_max h i (by omega)
    have hx := h i (by omega)
    rcases Nat.eq_zero_or_pos i with rfl | h0
    · have e : fsI l 1 = 0 := by unfold fsI; split <;> rfl
      obtain rfl : j = 0 := by omega
      rw [e]; exact Nat.le_refl _
    · have hl := fsI_lt l (i := i) h0
      have hy := h (fsI l i) (by omega)
      by_cases hc : l.getD (fsI l i) 0 < l.getD i 0
      · rw [fsI_t (by rw [gtr_pos hx hy]; exact decide_eq_true hc)]
        rcases Nat.lt_or_ge j i with hji | hji
        · exact Nat.le_trans (ih j hji) (Nat.le_of_lt hc)
        · obtain rfl : j = i := by omega
          exact Nat.le_refl _
      · rw [fsI_f (by rw [gtr_pos hx hy]; exact decide_eq_false hc)]
        rcases Nat.lt_or_ge j i with hji | hji
        · exact ih j hji
        · obtain rfl : j = i := by omega
          omega
/-! ### weights -/
theorem exN_le2 {y : Nat} (h : Neg0 y) (hn : isNan .f32 y = false) : exN y ≤ 1065353216 := by
  unfold exN
  cases hl : fcmp .lss .f32 y 3276275712 with
  | true => simp
  | false => simp only [Bool.false_eq_true, if_false]; exact (conv_le (exW_le h hn hl)).1
theorem q4_sub_tab : (List.range 33).all (fun m => (List.range 17).all fun p => fop .sub .f32 (q4 ((m : Int) - 16)) (q4 ((p : Int) - 8)) == q4 (((m : Int) - 16) - ((p : Int) - 8))) = true := by decide +kernel
theorem q4_sub {m p : Int} (hm : -16 ≤ m ∧ m ≤ 16) (hp : -8 ≤ p ∧ p ≤ 8) : fop .sub .f32 (q4 m) (q4 p) = q4 (m - p) := by
  obtain ⟨i, hi⟩ : ∃ i : Nat, m = (i : Int) - 16 := ⟨(m + 16).toNat, by omega⟩
  obtain ⟨j, hj⟩ : ∃ j : Nat, p = (j : Int) - 8 := ⟨(p + 8).toNat, by omega⟩
  have := List.all_eq_true.1 (List.all_eq_true.1 q4_sub_tab i (List.mem_range.2 (by omega))) j (List.mem_range.2 (by omega))
  rw [hi, hj]; exact eq_of_beq this
theorem wgY_tab : (List.range 49).all (fun u => (List.range 8).all fun k => !(isNan .f32 (fop .sub .f32 0 (fop .quo .f32 (fop .mul .f32 (q4 ((u : Int) - 24)) (q4 ((u : Int) - 24))) (fop .mul .f32 1073741824 (q4 ((k : Int) + 1))))))) = true := by decide +kernel
theorem root_tab : (List.range 8).all (fun k => decide (rootF (q4 ((k : Int) + 1)) < 2139095040) && decide (0 < rootF (q4 ((k : Int) + 1))) && decide (1 / 2 ≤ rvR .f32 (rootF (q4 ((k : Int) + 1)))) && above (q4 ((k : Int) + 1)) && decide (q4 ((k : Int) + 1) < 2139095040)) = true := by decide +kernel
theorem one_R : rvR .f32 I1 = 1 := by decide +kernel
theorem four_R : rvR .f32 I4 = 4 := by decide +kernel
theorem rvR_inj_le {r q : Nat} (h : rvR .f32 r < rvR .f32 q) : r ≤ q := by
  rcases Nat.lt_or_ge q r with hl | hl
  · have := rvR_lt .f32 hl; grind
  · exact hl
theorem quoB4 {e q : Nat} (he : e ≤ I1) (hq : q < 2139095040) (hq0 : 0 < q) (hv : 1 / 2 ≤ rvR .f32 q) : fop .quo .f32 e q ≤ I4 := by
  obtain ⟨r', x, h1, h2, h3, h4, h5⟩ := quo_near (k := .f32) (r := e) (q := q) (by rw [inf32]; exact Nat.lt_of_le_of_lt he (by decide)) (by rw [inf32]; exact hq) (by omega) false false
  rw [word_f, word_f] at h1
  rw [h1]
  show FloatKind.f32.format.word false r' ≤ I4
  rw [word_f]
  have h1R := rvR_mono .f32 he
  rw [one_R] at h1R
  have h0R := rvR_nn .f32 e
  obtain ⟨z, hz⟩ : ∃ z : Rat, z * rvR .f32 q = rvR .f32 e := ⟨rvR .f32 e / rvR .f32 q, by rw [Rat.div_mul_cancel (by grind)]⟩
  obtain ⟨h6, h7, h8⟩ := h5 z hz
  have hz2 : z ≤ 2 := by
    have := Rat.mul_le_mul_of_nonneg_left hv h6
    grind
  rw [ep32] at h7 h8
  have ht := top32
  obtain ⟨g1, g2, g3⟩ := h3.err h4 (by grind)
  have hu := u32
  rw [ep32] at g2
  refine Nat.le_of_lt_succ (Nat.lt_succ_of_le (rvR_inj_le ?_))
  rw [four_R]; grind
/-- regimes and numbers as they are drawn -/
structure RgI (a b c d s : List Nat) : Prop where
  n1 : 1 ≤ a.length
  n3 : a.length ≤ 3
  lb : b.length = a.length
  lc : c.length = a.length
  ld : d.length = a.length * a.length
  fa : ∀ i, i < a.length → ∃ p : Int, -8 ≤ p ∧ p ≤ 8 ∧ a.getD i 0 = q4 p
  fb : ∀ i, i < a.length → ∃ k : Int, 1 ≤ k ∧ k ≤ 8 ∧ b.getD i 0 = q4 k
  fc : ∀ i, i < a.length → c.getD i 0 ≤ I1
  fd : ∀ i, i < a.length * a.length → d.getD i 0 ≤ I1
  fs : ∀ i, i < s.length → ∃ m : Int, -16 ≤ m ∧ m ≤ 16 ∧ s.getD i 0 = q4 m
  s1 : 1 ≤ s.length
  s12 : s.length ≤ 12
theorem root_at {k : Int} (h : 1 ≤ k ∧ k ≤ 8) : rootF (q4 k) < 2139095040 ∧ 0 < rootF (q4 k) ∧ 1 / 2 ≤ rvR .f32 (rootF (q4 k)) ∧ above (q4 k) = true ∧ q4 k < 2139095040 := by
  obtain ⟨i, hi⟩ : ∃ i : Nat, k = (i : Int) + 1 := ⟨(k - 1).toNat, by omega⟩
  have := List.all_eq_true.1 root_tab i (List.mem_range.2 (by omega))
  rw [hi]
  simp only [Bool.and_eq_true, decide_eq_true_eq] at this
  exact ⟨this.1.1.1.1, this.1.1.1.2, this.1.1.2, this.1.2, this.2⟩
theorem RgI.babove {a b c d s : List Nat} (h : RgI a b c d s) : b.all above = true := by
  refine List.all_eq_true.2 fun x hx => ?_
  obtain ⟨i, hi, rfl⟩ := List.getElem_of_mem hx
  obtain ⟨k, h1, h2, h3⟩ := h.fb i (by rw [← h.lb]; exact hi)
  rw [List.getD_eq_getElem?_getD, List.getElem?_eq_getElem hi] at h3
  have h3' : b[i] = q4 k := h3
  rw [h3']; exact (root_at ⟨h1, h2⟩).2.2.2.1
theorem RgI.bF {a b c d s : List Nat} (h : RgI a b c d s) : ∀ x ∈ b, F32 x := fun x hx => by
  obtain ⟨i, hi, rfl⟩ := List.getElem_of_mem hx
  obtain ⟨k, h1, h2, h3⟩ := h.fb i (by rw [← h.lb]; exact hi)
  rw [List.getD_eq_getElem?_getD, List.getElem?_eq_getElem hi] at h3
  have h3' : b[i] = q4 k := h3
  rw [h3']; exact F32_fop _ _ _
theorem RgI.wgt_le {a b c d s : List Nat} (h : RgI a b c d s) {t i : Nat} (ht : t < s.length) (hi : i < a.length) : wgt a b (s.getD t 0) i ≤ I4 := by
  obtain ⟨p, p1, p2, hp⟩ := h.fa i hi
  obtain ⟨k, k1, k2, hk⟩ := h.fb i hi
  obtain ⟨m, m1, m2, hm⟩ := h.fs t ht
  obtain ⟨r1, r2, r3, _⟩ := root_at ⟨k1, k2⟩
  unfold wgt
  rw [hk]
  refine quoB4 (exN_le2 (wgY_neg h.bF h.babove (by rw [h.lb]; exact hi)) ?_) r1 r2 r3
  unfold wgY wgD
  rw [hp, hk, hm, q4_sub ⟨m1, m2⟩ ⟨p1, p2⟩]
  obtain ⟨u, hu⟩ : ∃ u : Nat, m - p = (u : Int) - 24 := ⟨(m - p + 24).toNat, by omega⟩
  obtain ⟨j, hj⟩ : ∃ j : Nat, k = (j : Int) + 1 := ⟨(k - 1).toNat, by omega⟩
  have := List.all_eq_true.1 (List.all_eq_true.1 wgY_tab u (List.mem_range.2 (by omega))) j (List.mem_range.2 (by omega))
  rw [hu, hj]
  simpa using this
theorem RgI.wyB_le {a b c d s : List Nat} (h : RgI a b c d s) : ∀ t, t < s.length → (∀ j, j < t → wyO a b c d s j = true) → (∀ k, k < a.length → (wyT a b c d s t).getD k 0 ≤ I16)
  | 0, ht, hO, k, hk => by
    show (rzL a b c (s.getD 0 0)).getD k 0 ≤ I16
    rw [rzL_get hk]
    exact Nat.le_trans (mulB14 (h.fc k hk) (h.wgt_le ht hk)) (by decide)
  | t + 1, ht, hO, k, hk => by
    have ih := h.wyB_le t (by omega) (fun j hj => hO j (by omega))
    have hl := wyT_len a b c d s t
    have hB : ∀ i, i < a.length → (wyB a b c d s t).getD i 0 ≤ I4 := fun i hi => by
      cases t with
      | zero =>
        show (rzL a b c (s.getD 0 0)).getD i 0 ≤ I4
        rw [rzL_get hi]
        exact mulB14 (h.fc i hi) (h.wgt_le (by omega) hi)
      | succ t =>
        rw [wyB_S]
        have hO' := hO (t + 1) (by omega)
        have hz : ∀ k, k < (wyT a b c d s (t + 1)).length → (wyT a b c d s (t + 1)).getD k 0 < 2139095040 := fun k hk => Nat.lt_of_le_of_lt (ih k (by omega)) (by decide)
        have hfs := fsI_lt (wyT a b c d s (t + 1)) (i := (wyT a b c d s (t + 1)).length) (by have := h.n1; omega)
        have hg : wyG (wyT a b c d s (t + 1)) < 2139095040 := hz _ hfs
        unfold wyO at hO'
        rw [gtr_pos hg (by decide), decide_eq_true_eq] at hO'
        have hmx := fsI_max hz _ (Nat.le_refl _) i (by omega)
        have e : (wyN (wyT a b c d s (t + 1))).getD i 0 = fop .quo .f32 ((wyT a b c d s (t + 1)).getD i 0) (wyG (wyT a b c d s (t + 1))) := by
          unfold wyN
          rw [List.getD_eq_getElem?_getD, List.getElem?_map, List.getElem?_eq_getElem (by omega)]
          simp [List.getD_eq_getElem?_getD, List.getElem?_eq_getElem (show i < (wyT a b c d s (t + 1)).length by omega)]
        rw [e]
        exact Nat.le_trans (quoB1 hmx hg hO') (by decide)
    show (wyZ a b d (wyB a b c d s t) (s.getD (t + 1) 0)).getD k 0 ≤ I16
    rw [wyZ_get hk]
    unfold wyX
    refine mulB44 ?_ (h.wgt_le ht hk)
    have hY : ∀ i, i < a.length → wyY d (wyB a b c d s t) a.length k i ≤ I4 := fun i hi => by
      refine mulB41 (hB i hi) (h.fd _ ?_)
      have m3 : (i + 1) * a.length ≤ a.length * a.length := Nat.mul_le_mul_right _ hi
      have m4 : (i + 1) * a.length = i * a.length + a.length := by rw [Nat.add_mul, Nat.one_mul]
      omega
    have hM : ∀ i, i ≤ a.length → wyM d (wyB a b c d s t) a.length k i ≤ I4 := fun i => by
      induction i with
      | zero => intro _; show (0 : Nat) ≤ I4; decide
      | succ i ih =>
        intro hi
        unfold wyM
        split
        · exact hY i (by omega)
        · exact ih (by omega)
    exact hM _ (Nat.le_refl _)
theorem RgI.wyOk {a b c d s : List Nat} (h : RgI a b c d s) : WyOk a b c d s := fun t ht hO k hk => Nat.lt_of_le_of_lt (h.wyB_le t ht hO k hk) (by decide)
end Go.Proofs.Ytpdnjcblkjjegaa

set_option linter.unusedVariables false
set_option linter.unusedSimpArgs false
set_option maxRecDepth 100000
set_option maxHeartbeats 8000000
namespace Go.Proofs.Ytpdnjcblkjjegaa
open Go.Aw
open Go.RowKit (Below)

/-! ### slices that a call has made, as data; append to nil -/
theorem own_fl {args : List Value} {w w' : World} {μ : Nat → Option Nat} {ok : Nat → Prop} {e : TypeId} {l : List Nat} {n : Nat} {y : Value} (hc : HC ⟨args, w.heap.size, noLoan⟩ w μ (lkH [(0, .sl e (.fl l))]) w') (hr : RRel args w' μ ok (.own 0 n) y) (hn : n = l.length) :
    TR w' (okF ⟨args, w.heap.size, noLoan⟩ (okOf (fun _ => none) (lkH []))) (.fl l) y := by
  rw [TR]
  refine gf_fl ?_
  rw [RRel.eq_def] at hr
  simp only [] at hr
  rw [TR]
  obtain ⟨hsl, hB⟩ := hc.blk 0 _ rfl
  rcases hr with ⟨h1, h2, rfl⟩ | ⟨b, cap, e1, m, hb, rfl, hs, hcap, hle⟩
  · exact ⟨none, 0, 0, rfl, by omega, Nat.le_refl _, .inl rfl⟩
  · rcases hB with ⟨h0, _⟩ | ⟨b', cs, hb', hbase, hw, hlen, hcs⟩
    · rw [h0] at hb; cases hb
    · rw [hb] at hb'; cases hb'
      rw [size_shape hw] at hs; cases hs
      refine ⟨_, _, _, rfl, hn, hle, .inr ⟨b, cs, e, rfl, (Array.getElem?_eq_some_iff.1 hw).1, ⟨fun i hi => by simp [lkH] at hi, hbase.elim .inl False.elim⟩, hw, hcap, fun i hi => ?_⟩⟩
      have hi' : i < l.length := by omega
      obtain ⟨x, hx, hr⟩ := ((TRl_iff ..).1 hcs).2 i (.f .f32 l[i]) (by simp [T.elems, hi'])
      rw [List.getElem?_take] at hx
      split at hx
      · rw [TR] at hr
        obtain ⟨z, rfl, hf⟩ := hr
        exact ⟨z, by simpa using hx, by simpa [List.getD_eq_getElem?_getD, hi'] using hf⟩
      · cases hx
theorem hc_none {args : List Value} {w w' : World} {μ : Nat → Option Nat} {η : Hp} (hc : HC ⟨args, w.heap.size, noLoan⟩ w μ η w') : HC ⟨args, w.heap.size, noLoan⟩ w (fun _ => none) (lkH []) w' :=
  ⟨hc.base, hc.below, fun i B hB => by simp [lkH] at hB, fun i j b hi => by simp [lkH] at hi⟩
theorem q_app_nil {P : Program} {o : Oper} {F : List Nat} {ρ : Fr} {η : Hp} {ty : Ty} {t u : TypeId} {e eu : TE} {tys : Array TypeId} {s x : Operand} {d : Nat} {c2 : T} (hT : TyOk P ty) (ho : o.op = .call { callee := .builtin .append, args := #[s, x], argTypes := tys }) (htys : tys = #[t, t]) (hd : o.dst = some d)
    (ht : ty.get t = some e) (hsl : e.d = .sl u) (hu : ty.get u = some eu) (hs1 : eu.size = 1) (hz1 : eu.z.oneCell' = true)
    (hs : evA ρ s = .t (.v (.slice none 0 0))) (hx : Src F η (evA ρ x) c2) (hc2 : c2.isSl = true) (hone : c2.elems.all oneT = true ∨ c2.flat = true ∨ ∃ l, c2 = .ffl l) (h0 : 0 < c2.len)
    (hb : c2.len * eu.bytes ≤ 140737488355328) (hb2 : c2.len ≤ 140737488355328) :
    QRun P o F [d] ρ η (.own d 0 c2.len) (lkH [(d, .sl u c2)]) := by
  intro vs w0 μ η' a w Q K h1 h2 h3 h4
  subst htys
  have hs' := h3 s (by simp [ho, Op.operands, Call.operands])
  have hx' := h3 x (by simp [ho, Op.operands, Call.operands])
  obtain ⟨ax, cp, news, hxv, hl, hnews, hf⟩ := src_spec (P := P) hx hc2 h1 h2 hx'
  have h1news := oneT_elems hnews hone
  obtain ⟨inf, hinf, g1, g2, g3⟩ := (hT.get hu).info
  have hus := (hT.get ht).slice hsl
  rw [hs1] at g1
  rw [← g2] at hb
  rw [hs, VR, TR] at hs'
  obtain ⟨a0, hsv⟩ : ∃ a0, a.eval s = .slice a0 0 0 := ⟨none, hs'⟩
  have hfo : (Builtin.firstCells 1 0 (a.eval s)).run P w.drew = .ok ([] : List Value).toArray w.drew := by
    rw [hsv]
    cases a0 with
    | none => simp [Builtin.firstCells]
    | some a => simp [Builtin.firstCells, loadCells, loadCellsFrom]
  have hr := run_app_grow (P := P) w (ty' := o.type) hus hinf g3 g1 hsv hfo hxv (hf (w.drawn + 1)) (by omega) (by simpa using hb) (by simpa using hb2)
  simp only [Nat.zero_add] at hr
  have hexec : (execOp a.eval o).run P w = (Result.ok (.slice (some ⟨w.heap.size, 0, none⟩) c2.len (grownCap w c2.len 0 u)) (w.drew.alloc (.cells (([] : List Value).toArray ++ news.toArray ++ Builtin.zeroCells eu.z.cells (grownCap w c2.len 0 u - c2.len)) u))).andThen fun v w' => .ok (.value v) w' := by
    simp [execOp, ho, resolve, invoke, builtin, hr]
  let cs := ([] : List Value).toArray ++ news.toArray ++ Builtin.zeroCells eu.z.cells (grownCap w c2.len 0 u - c2.len)
  have hbel : Below w.heap.size w (w.drew.alloc (.cells cs u)) := ((Below.refl _ _).drew).alloc (Nat.le_refl _) _
  have hnew : (w.drew.alloc (.cells cs u)).heap[w.heap.size]? = some (.cells cs u (0, 0)) := heap_alloc_new w.drew _
  have hcap2 := grownCap_ge w c2.len 0 u
  have hcsz : cs.size = grownCap w c2.len 0 u := by
    simp only [cs, Array.size_append, List.size_toArray, size_zeroCells, cells_one hz1, hl]
    simp; omega
  obtain ⟨hc, hk⟩ := HC_new (i := d) (b := w.heap.size) (B := .sl u c2) h2 hbel (Nat.le_refl _) fun hk => by
    refine ⟨hc2, .inr ⟨_, cs, by simp [updM], .inl h2.below.size, hnew, by rw [hcsz]; exact hcap2, ?_⟩⟩
    have : cs.toList.take c2.len = news := by
      simp only [cs, Array.toList_append, List.nil_append]
      rw [List.take_left' (by simp [hl])]
    rw [this]
    exact TRl.mono hk.treeF _ _ hnews
  unfold Oper.wp
  rw [hexec, Result.andThen_ok, Oper.upon_value]
  refine h4 _ _ _ hc hk ?_
  rw [VR]
  exact .inr ⟨_, _, _, _, by simp [updM], rfl, size_shape hnew, by rw [hcsz]; omega, hcap2⟩

end Go.Proofs.Ytpdnjcblkjjegaa

