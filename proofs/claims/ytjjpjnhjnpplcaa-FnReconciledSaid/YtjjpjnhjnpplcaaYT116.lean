import Derived.Test.YtjjpjnhjnpplcaaYT115
set_option linter.unusedVariables false
set_option linter.unusedSimpArgs false
set_option maxRecDepth 20000
set_option maxHeartbeats 8000000
namespace Go.Proofs.Ytjjpjnhjnpplcaa
open Go.Aw

/-! ### gaps -/
def gapR (a b : Nat) : Nat := fmx .f64 (fop .sub .f64 (fconv .f32 .f64 a) (fconv .f32 .f64 b)) (fop .sub .f64 (fconv .f32 .f64 b) (fconv .f32 .f64 a))
theorem gapR_le {a b : Nat} {ε : Rat} (ha : Bd a 1000) (hb : Bd b 1000) (h1 : rv .f32 a - rv .f32 b ≤ ε) (h2 : rv .f32 b - rv .f32 a ≤ ε) : Fnt .f64 (gapR a b) ∧ rv .f64 (gapR a b) ≤ ε + 1 / 100000000 := by
  have wa := W_fact ha (by unfold okM; constructor <;> grind)
  have wb := W_fact hb (by unfold okM; constructor <;> grind)
  have ha2 := ha.2; have hb2 := hb.2
  obtain ⟨e1, p1, p2, p3, p4⟩ := sub64 (M := 3000) wa.1 wb.1 (by grind) (by grind) (by unfold okM; constructor <;> grind)
  obtain ⟨e2, q1, q2, q3, q4⟩ := sub64 (M := 3000) wb.1 wa.1 (by grind) (by grind) (by unfold okM; constructor <;> grind)
  have hm := fmx_rv p4 q4
  refine ⟨hm.1, ?_⟩
  rcases fmx_or (k := .f64) (a := fop .sub .f64 (W a) (W b)) (b := fop .sub .f64 (W b) (W a)) with h | h | h
  · unfold gapR; rw [h, p1]; grind
  · unfold gapR; rw [h, q1]; grind
  · have := hm.1.notnan; rw [h] at this; exact absurd this (by decide +kernel)
theorem k01 : Fnt .f64 4576918229304087675 ∧ 99 / 10000 ≤ rv .f64 4576918229304087675 := by unfold Fnt; decide +kernel
theorem gap_gtr {a b : Nat} {ε : Rat} (ha : Bd a 1000) (hb : Bd b 1000) (h1 : rv .f32 a - rv .f32 b ≤ ε) (h2 : rv .f32 b - rv .f32 a ≤ ε) (hε : ε ≤ 998 / 1000000) : fcmp .gtr .f64 (gapR a b) 4562254508917369340 = false := by
  have h := gapR_le ha hb h1 h2
  rw [gtr_rv h.1 k001.1.1]
  exact decide_eq_false (by have := k001.1.2.1; grind)
theorem gap_lss {a b : Nat} {ε : Rat} (ha : Bd a 1000) (hb : Bd b 1000) (h1 : rv .f32 a - rv .f32 b ≤ ε) (h2 : rv .f32 b - rv .f32 a ≤ ε) (hε : ε ≤ 98 / 10000) : fcmp .lss .f64 (gapR a b) 4576918229304087675 = true := by
  have h := gapR_le ha hb h1 h2
  rw [lss_rv h.1 k01.1]
  exact decide_eq_true (by have := k01.2; grind)
theorem narrow_bd {c : Nat} {M : Rat} (h : Bd64 c M) (hM : M ≤ 1000000) : fconvOk .f64 .f32 c = true := by
  refine narrow_ok (.inl ?_)
  obtain ⟨s, r, hc, hr, hv⟩ := h.1.ex
  have hw := word_parts .f64 s (r := r) (by have := inf_sw .f64; omega)
  have e : c % 9223372036854775808 = r := by have := hw.1; rw [sw64] at this; rw [hc]; exact this
  rw [e]
  have hb : (1000001 : Rat) ≤ rvR .f64 (1150 * 4503599627370496 - 1) := by decide +kernel
  rcases Nat.lt_or_ge r (1150 * 4503599627370496 - 1) with h1 | h1
  · omega
  · have := rvR_mono .f64 h1
    have h2 := h.2
    rw [hv] at h2
    cases s
    · simp only [Bool.false_eq_true, if_false] at h2; grind
    · simp only [if_true] at h2; grind
/-! ### the middle -/
theorem int_hw_tab2 : (List.range 65).all (fun n => fint .f32 (n : Int) == hw .f32 (2 * (n : Int))) = true := by decide +kernel
theorem int_hw' {n : Nat} (h : n ≤ 64) : fint .f32 (n : Int) = hw .f32 (2 * (n : Int)) := by
  have := List.all_eq_true.1 int_hw_tab2 n (List.mem_range.2 (by omega))
  simpa using this
theorem sum_hw {v : List Nat} {x : Nat → Int} (hv : ∀ j, j < v.length → v.getD j 0 = hw .f32 (x j)) (hx : ∀ j, j < v.length → 1 ≤ x j ∧ x j ≤ 16) (hl : v.length ≤ 12) : ∀ m, m ≤ v.length → (v.take m).foldl (fun s x => fop .add .f32 s x) 0 = hw .f32 (smI x m) ∧ 0 ≤ smI x m ∧ smI x m ≤ 16 * m
  | 0, _ => ⟨by show (0 : Nat) = hw .f32 0; decide +kernel, Int.le_refl _, by show (0 : Int) ≤ _; omega⟩
  | m + 1, hm => by
    obtain ⟨i1, i2, i3⟩ := sum_hw hv hx hl m (by omega)
    have := hx m (by omega)
    rw [foldl_take (by omega), i1, hv m (by omega), hw_add .f32 (by omega) (by omega) (by omega)]
    refine ⟨rfl, ?_, ?_⟩
    · show 0 ≤ smI x m + x m; omega
    · show smI x m + x m ≤ _; push_cast; omega
def t64 (l : List Nat) : Nat → Nat
  | 0 => 0
  | i + 1 => fop .add .f64 (t64 l i) (fconv .f32 .f64 (l.getD i 0))
structure MidFc (t d : Nat) (L v : List Nat) : Prop where
  mf : meetF t v = (fop .sub .f32 t d, L, true)
  gp : ∀ i, i < v.length → fcmp .gtr .f64 (gapR (fop .sub .f32 (L.getD i 0) (v.getD i 0)) (fop .sub .f32 t (fop .sub .f32 t d))) 4562254508917369340 = false
  tb : Bd64 (t64 L v.length) 2000
  ls : fcmp .lss .f64 (gapR (fop .sub .f32 t d) (fconv .f64 .f32 (t64 L v.length))) 4576918229304087675 = true
theorem meetL_get {t : Nat} {v : List Nat} {i : Nat} (h : i < v.length) : (meetL t v).getD i 0 = fop .add .f32 (v.getD i 0) (meetD t v) := by
  unfold meetL
  simp [List.getD_eq_getElem?_getD, h]
theorem mid_fact {h : Nat} {v : List Nat} {x : Nat → Int} (hh : h ≤ 39) (hv : ∀ j, j < v.length → v.getD j 0 = hw .f32 (x j)) (hx : ∀ j, j < v.length → 1 ≤ x j ∧ x j ≤ 16) (h1 : 1 ≤ v.length) (hl : v.length ≤ 10) : MidFc (hw .f32 (2 * (h : Int))) (meetD (hw .f32 (2 * (h : Int))) v) (meetL (hw .f32 (2 * (h : Int))) v) v := by
  obtain ⟨s1, s2, s3⟩ := sum_hw hv hx (by omega) v.length (Nat.le_refl _)
  rw [List.take_length] at s1
  have hS : sumF v = hw .f32 (smI x v.length) := s1
  have hsub : fop .sub .f32 (hw .f32 (2 * (h : Int))) (sumF v) = hw .f32 (2 * (h : Int) - smI x v.length) := by rw [hS, hw_sub .f32 (by omega) (by omega) (by omega)]
  have hD : meetD (hw .f32 (2 * (h : Int))) v = fop .quo .f32 (hw .f32 (2 * (h : Int) - smI x v.length)) (fint .f32 ((v.length + 1 : Nat) : Int)) := by unfold meetD; rw [hsub]
  have hd := hw_rv (x := 2 * (h : Int) - smI x v.length) (by omega)
  have ht := hw_rv (x := 2 * (h : Int)) (by omega)
  have hn1 := fint_ge1 (n := v.length + 1) (by omega) (by omega)
  have hnv : rv .f32 (fint .f32 ((v.length + 1 : Nat) : Int)) = (v.length : Rat) + 1 := by
    rw [int_hw' (by omega)]
    have := hw_rv (x := 2 * ((v.length + 1 : Nat) : Int)) (by omega)
    have e : ((2 * ((v.length + 1 : Nat) : Int) : Int) : Rat) = 2 * ((v.length : Rat) + 1) := by push_cast; rfl
    rw [e] at this
    grind
  have hnn := nat_cast_le hl
  have hhn := nat_cast_le hh
  have e1 : ((2 * (h : Int) - smI x v.length : Int) : Rat) = 2 * (h : Rat) - ((smI x v.length : Int) : Rat) := by push_cast; rfl
  have e2 : ((2 * (h : Int) : Int) : Rat) = 2 * (h : Rat) := by push_cast; rfl
  rw [e1] at hd
  rw [e2] at ht
  have hs2 : (0 : Rat) ≤ ((smI x v.length : Int) : Rat) := Rat.intCast_le_intCast.2 s2
  have hs3 : ((smI x v.length : Int) : Rat) ≤ 160 := Rat.intCast_le_intCast.2 (show smI x v.length ≤ 160 by omega)
  obtain ⟨z, z1, z2, z3⟩ := quo_ex (x := rv .f32 (hw .f32 (2 * (h : Int) - smI x v.length))) (y := rv .f32 (fint .f32 ((v.length + 1 : Nat) : Int))) (M := 80) (by grind) (by grind) hn1.2
  obtain ⟨e, g1, g2, g3, g4⟩ := quo32 (M := 80) hd.1 hn1.1 (by have := hn1.2; grind) z1 z2 z3 (by unfold okM; constructor <;> grind)
  rw [← hD] at g1 g4
  rw [hnv] at z1
  have hdv : rv .f32 (hw .f32 (2 * (h : Int) - smI x v.length)) = (h : Rat) - ((smI x v.length : Int) : Rat) / 2 := by grind
  rw [hdv] at z1
  have htv : rv .f32 (hw .f32 (2 * (h : Int))) = (h : Rat) := by grind
  have htF := ht.1
  have hvv : ∀ j, j < v.length → Fnt .f32 (v.getD j 0) ∧ rv .f32 (v.getD j 0) = (x j : Rat) / 2 ∧ 1 ≤ (x j : Rat) ∧ (x j : Rat) ≤ 16 := fun j hj => by
    have h2 := hx j hj
    have h3 := hw_rv (x := x j) (by omega)
    rw [hv j hj]
    exact ⟨h3.1, by grind, Rat.intCast_le_intCast.2 h2.1, Rat.intCast_le_intCast.2 h2.2⟩
  have hML : ∀ i, i < v.length → (meetL (hw .f32 (2 * (h : Int))) v).getD i 0 = fop .add .f32 (v.getD i 0) (meetD (hw .f32 (2 * (h : Int))) v) := fun i hi => meetL_get hi
  have hMl : (meetL (hw .f32 (2 * (h : Int))) v).length = v.length := by unfold meetL; simp
  have hmeet : ∀ (b1 : fin (hw .f32 (2 * (h : Int))) = true) (b2 : v.all fin = true) (b3 : fin (fop .sub .f32 (hw .f32 (2 * (h : Int))) (meetD (hw .f32 (2 * (h : Int))) v)) = true) (b4 : (meetL (hw .f32 (2 * (h : Int))) v).all fin = true),
      meetF (hw .f32 (2 * (h : Int))) v = (fop .sub .f32 (hw .f32 (2 * (h : Int))) (meetD (hw .f32 (2 * (h : Int))) v), meetL (hw .f32 (2 * (h : Int))) v, true) := fun b1 b2 b3 b4 => by
    unfold meetF
    rw [if_pos]
    unfold meetOk
    rw [b1, b2, b3, b4, decide_eq_true h1, decide_eq_true (by omega : v.length ≤ 12)]; rfl
  generalize hw .f32 (2 * (h : Int)) = t at *
  generalize hLL : meetL t v = L at *
  generalize meetD t v = d at *
  obtain ⟨e3, m1, m2, m3, m4⟩ := sub32 (M := 130) htF g4 (by grind) (by grind) (by unfold okM; constructor <;> grind)
  -- the parts
  have hP : ∀ i, i < v.length → ∃ e4, rv .f32 (L.getD i 0) = (x i : Rat) / 2 + z + e + e4 ∧ -(1 / 80000) ≤ e4 ∧ e4 ≤ 1 / 80000 ∧ Fnt .f32 (L.getD i 0) := fun i hi => by
    have hvi := hvv i hi
    obtain ⟨e4, p1, p2, p3, p4⟩ := add32 (M := 100) hvi.1 g4 (by grind) (by grind) (by unfold okM; constructor <;> grind)
    rw [hML i hi]
    exact ⟨e4, by rw [p1]; grind, by grind, by grind, p4⟩
  have hT : ∀ m, m ≤ v.length → Fnt .f64 (t64 L m) ∧ rv .f64 (t64 L m) ≤ ((smI x m : Int) : Rat) / 2 + (m : Rat) * (z + e) + (m : Rat) / 50000 ∧ ((smI x m : Int) : Rat) / 2 + (m : Rat) * (z + e) - (m : Rat) / 50000 ≤ rv .f64 (t64 L m) ∧ rv .f64 (t64 L m) ≤ 100 * (m : Rat) ∧ -(100 * (m : Rat)) ≤ rv .f64 (t64 L m) := by
    intro m
    induction m with
    | zero =>
      intro _
      have e0 : Fnt .f64 0 ∧ rv .f64 0 = 0 := fnt_0
      have e5 : ((smI x 0 : Int) : Rat) = 0 := rfl
      show Fnt .f64 0 ∧ rv .f64 0 ≤ _ ∧ _ ≤ rv .f64 0 ∧ rv .f64 0 ≤ _ ∧ _ ≤ rv .f64 0
      rw [e0.2, e5]
      exact ⟨e0.1, by push_cast; grind, by push_cast; grind, by push_cast; grind, by push_cast; grind⟩
    | succ m ih =>
      intro hm
      obtain ⟨i1, i2, i3, i4, i5⟩ := ih (by omega)
      obtain ⟨e4, q1, q2, q3, q4⟩ := hP m (by omega)
      have hvi := hvv m (by omega)
      have hnm := nat_cast_le (show m ≤ 9 by omega)
      have wp := W_fact (c := L.getD m 0) (M := 100) ⟨q4, by rw [q1]; grind, by rw [q1]; grind⟩ (by unfold okM; constructor <;> grind)
      obtain ⟨e6, r1, r2, r3, r4⟩ := add64 (M := 2000) i1 wp.1 (by grind) (by grind) (by unfold okM; constructor <;> grind)
      have e5 : ((smI x (m + 1) : Int) : Rat) = ((smI x m : Int) : Rat) + (x m : Rat) := by show ((smI x m + x m : Int) : Rat) = _; push_cast; rfl
      show Fnt .f64 (fop .add .f64 (t64 L m) (fconv .f32 .f64 (L.getD m 0))) ∧ rv .f64 (fop .add .f64 (t64 L m) (fconv .f32 .f64 (L.getD m 0))) ≤ _ ∧ _ ≤ rv .f64 (fop .add .f64 (t64 L m) (fconv .f32 .f64 (L.getD m 0))) ∧ rv .f64 (fop .add .f64 (t64 L m) (fconv .f32 .f64 (L.getD m 0))) ≤ _ ∧ _ ≤ rv .f64 (fop .add .f64 (t64 L m) (fconv .f32 .f64 (L.getD m 0)))
      rw [r1, e5]
      have w1 := wp.2.1; have w2 := wp.2.2
      rw [q1] at w1 w2
      refine ⟨r4, ?_, ?_, ?_, ?_⟩ <;> push_cast <;> grind
  obtain ⟨t1, t2, t3, t4, t5⟩ := hT v.length (Nat.le_refl _)
  have hTb : Bd64 (t64 L v.length) 2000 := ⟨t1, by grind, by grind⟩
  obtain ⟨e7, u1, u2, u3, u4⟩ := thin_e hTb (by unfold okM; constructor <;> grind)
  have hzz : (v.length : Rat) * z = (h : Rat) - ((smI x v.length : Int) : Rat) / 2 - z := by grind
  have hNe := mul_bd (show (v.length : Rat) ≤ 10 by grind) (show -10 ≤ (v.length : Rat) by grind) g3 (by grind)
  refine ⟨?_, fun i hi => ?_, hTb, ?_⟩
  · refine hmeet (finB_Fn htF) ?_ (finB_Fn m4) ?_
    · refine List.all_eq_true.2 fun c hc => ?_
      obtain ⟨i, hi, rfl⟩ := List.getElem_of_mem hc
      have := (hvv i hi).1
      rw [List.getD_eq_getElem?_getD, List.getElem?_eq_getElem hi] at this
      exact finB_Fn this
    · refine List.all_eq_true.2 fun c hc => ?_
      obtain ⟨i, hi, rfl⟩ := List.getElem_of_mem hc
      obtain ⟨_, _, _, _, this⟩ := hP i (by omega)
      rw [List.getD_eq_getElem?_getD, List.getElem?_eq_getElem hi] at this
      exact finB_Fn this
  · obtain ⟨e4, q1, q2, q3, q4⟩ := hP i hi
    have hvi := hvv i hi
    obtain ⟨e5, a1, a2, a3, a4⟩ := sub32 (M := 200) q4 hvi.1 (by grind) (by grind) (by unfold okM; constructor <;> grind)
    obtain ⟨e6, b1, b2, b3, b4⟩ := sub32 (M := 200) htF m4 (by grind) (by grind) (by unfold okM; constructor <;> grind)
    exact gap_gtr (ε := 1 / 10000) ⟨a4, by rw [a1]; grind, by rw [a1]; grind⟩ ⟨b4, by rw [b1]; grind, by rw [b1]; grind⟩ (by rw [a1, b1]; grind) (by rw [a1, b1]; grind) (by grind)
  · exact gap_lss (ε := 5 / 1000) ⟨m4, by rw [m1]; grind, by rw [m1]; grind⟩ ⟨u4, by rw [u1]; grind, by rw [u1]; grind⟩ (by rw [m1, u1]; grind) (by rw [m1, u1]; grind) (by grind)
end Go.Proofs.Ytjjpjnhjnpplcaa
