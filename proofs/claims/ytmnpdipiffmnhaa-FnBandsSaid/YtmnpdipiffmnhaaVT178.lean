import Derived.Test.YtmnpdipiffmnhaaVT177
set_option linter.unusedVariables false
set_option linter.unusedSimpArgs false
set_option maxRecDepth 20000
set_option maxHeartbeats 8000000
namespace Go.Proofs.Ytmnpdipiffmnhaa
open Go.Aw

/-! a sum rises with its parts -/
theorem near_0 (lp : Int) : FloatKind.f32.format.nearest false 0 lp = 0 := by unfold Ieee.Format.nearest; rw [if_pos rfl]; rfl
theorem rvR_0 : rvR .f32 0 = 0 := by decide +kernel
theorem val_T {T : Int} {s : Bool} (hs : T ≠ 0 → s = decide (T < 0)) (hf : Fnt .f32 (FloatKind.f32.format.word s (FloatKind.f32.format.nearest false T.natAbs FloatKind.f32.format.leastPlace))) :
    rv .f32 (FloatKind.f32.format.word s (FloatKind.f32.format.nearest false T.natAbs FloatKind.f32.format.leastPlace)) = if T < 0 then -rvR .f32 (FloatKind.f32.format.nearest false T.natAbs FloatKind.f32.format.leastPlace) else rvR .f32 (FloatKind.f32.format.nearest false T.natAbs FloatKind.f32.format.leastPlace) := by
  have hle := nearest_inf FloatKind.f32.format T.natAbs FloatKind.f32.format.leastPlace
  have hsw := inf_sw .f32
  have hlt : FloatKind.f32.format.nearest false T.natAbs FloatKind.f32.format.leastPlace < FloatKind.f32.format.infRung := by
    have := hf.2
    rwa [(word_parts .f32 s (Nat.lt_of_le_of_lt hle hsw)).1] at this
  rw [rv_word .f32 s hlt]
  by_cases h0 : T = 0
  · subst h0
    rw [Int.natAbs_zero, near_0, rvR_0]
    cases s <;> simp
  · rw [hs h0]
    by_cases h1 : T < 0
    · rw [decide_eq_true h1, if_pos rfl, if_pos h1]
    · rw [decide_eq_false h1, if_neg Bool.false_ne_true, if_neg h1]
theorem val_mono {T1 T2 : Int} (h : T1 ≤ T2) : (if T1 < 0 then -rvR .f32 (FloatKind.f32.format.nearest false T1.natAbs FloatKind.f32.format.leastPlace) else rvR .f32 (FloatKind.f32.format.nearest false T1.natAbs FloatKind.f32.format.leastPlace)) ≤
    if T2 < 0 then -rvR .f32 (FloatKind.f32.format.nearest false T2.natAbs FloatKind.f32.format.leastPlace) else rvR .f32 (FloatKind.f32.format.nearest false T2.natAbs FloatKind.f32.format.leastPlace) := by
  have n1 := rvR_nn .f32 (FloatKind.f32.format.nearest false T1.natAbs FloatKind.f32.format.leastPlace)
  have n2 := rvR_nn .f32 (FloatKind.f32.format.nearest false T2.natAbs FloatKind.f32.format.leastPlace)
  by_cases h1 : T1 < 0
  · rw [if_pos h1]
    by_cases h2 : T2 < 0
    · rw [if_pos h2]
      have := rvR_mono .f32 (nearest_mono FloatKind.f32.format FloatKind.f32.format.leastPlace (show T2.natAbs ≤ T1.natAbs by omega))
      grind
    · rw [if_neg h2]; grind
  · rw [if_neg h1, if_neg (show ¬ T2 < 0 by omega)]
    exact rvR_mono .f32 (nearest_mono FloatKind.f32.format FloatKind.f32.format.leastPlace (show T1.natAbs ≤ T2.natAbs by omega))
theorem add_T {a b : Nat} (ha : Fnt .f32 a) (hb : Fnt .f32 b) : ∃ (T : Int) (s : Bool), (T ≠ 0 → s = decide (T < 0)) ∧ fop .add .f32 a b = FloatKind.f32.format.word s (FloatKind.f32.format.nearest false T.natAbs FloatKind.f32.format.leastPlace) ∧ (T : Rat) * uU .f32 = rv .f32 a + rv .f32 b := by
  obtain ⟨s, r, rfl, hr, hv⟩ := ha.ex
  obtain ⟨t, q, rfl, hq, hw⟩ := hb.ex
  refine ⟨_, _, fun h => ?_, sum_word .f32 s t hr hq, ?_⟩
  · rw [if_neg h]
  · rw [hv, hw, ← sg1_rv, ← sg1_rv]; push_cast; grind
theorem add_mono_r {s a b : Nat} (hs : Fnt .f32 s) (ha : Fnt .f32 a) (hb : Fnt .f32 b) (h : rv .f32 a ≤ rv .f32 b) (f1 : Fnt .f32 (fop .add .f32 s a)) (f2 : Fnt .f32 (fop .add .f32 s b)) : rv .f32 (fop .add .f32 s a) ≤ rv .f32 (fop .add .f32 s b) := by
  obtain ⟨T1, s1, c1, e1, v1⟩ := add_T hs ha
  obtain ⟨T2, s2, c2, e2, v2⟩ := add_T hs hb
  rw [e1] at f1 ⊢
  rw [e2] at f2 ⊢
  rw [val_T c1 f1, val_T c2 f2]
  refine val_mono ?_
  rcases Int.lt_or_le T2 T1 with g | g
  · exfalso
    have h1 : (T2 : Rat) < (T1 : Rat) := by exact_mod_cast g
    have h2 := Rat.mul_lt_mul_of_pos_right h1 u_pos
    rw [v1, v2] at h2
    grind
  · exact g
/-! ### a quarter, a half, three quarters of at most eight numbers -/
abbrev sh1 : Nat := 1048576000
abbrev sh2 : Nat := 1056964608
abbrev sh3 : Nat := 1061158912
theorem shr_123 : isShr sh1 = true ∧ isShr sh2 = true ∧ isShr sh3 = true := by decide +kernel
theorem F32_123 : F32 sh1 ∧ F32 sh2 ∧ F32 sh3 := ⟨⟨by decide +kernel, by decide⟩, ⟨by decide +kernel, by decide⟩, ⟨by decide +kernel, by decide⟩⟩
def qFr (n sh : Nat) : Nat := fop .sub .f32 (qPos n sh) (fint .f32 ((qAt n sh : Nat) : Int))
theorem q8_tab : (List.range 8).all (fun j => decide (qAt (j + 1) sh1 = j / 4) && decide (qAt (j + 1) sh2 = j / 2) && decide (qAt (j + 1) sh3 = 3 * j / 4) &&
    [sh1, sh2, sh3].all (fun sh => decide (qFr (j + 1) sh < 2139095040) && decide (0 ≤ rv .f32 (qFr (j + 1) sh)) && decide (rv .f32 (qFr (j + 1) sh) ≤ 3 / 4)) && decide (qFr 2 sh1 = sh1) && decide (qFr 2 sh3 = sh3)) = true := by decide +kernel
structure Q8 (n : Nat) : Prop where
  a1 : qAt n sh1 = (n - 1) / 4
  a2 : qAt n sh2 = (n - 1) / 2
  a3 : qAt n sh3 = 3 * (n - 1) / 4
  f1 : Fnt .f32 (qFr n sh1) ∧ 0 ≤ rv .f32 (qFr n sh1) ∧ rv .f32 (qFr n sh1) ≤ 3 / 4
  f2 : Fnt .f32 (qFr n sh2) ∧ 0 ≤ rv .f32 (qFr n sh2) ∧ rv .f32 (qFr n sh2) ≤ 3 / 4
  f3 : Fnt .f32 (qFr n sh3) ∧ 0 ≤ rv .f32 (qFr n sh3) ∧ rv .f32 (qFr n sh3) ≤ 3 / 4
  t1 : qFr 2 sh1 = sh1
  t3 : qFr 2 sh3 = sh3
theorem fnt_lt {c : Nat} (h : c < 2139095040) : Fnt .f32 c := by
  have e : FloatKind.f32.format.signWeight = 2147483648 := by decide
  have ei : FloatKind.f32.format.infRung = 2139095040 := by decide
  exact ⟨by rw [e]; omega, by rw [e, ei]; omega⟩
theorem q8_of {n : Nat} (h1 : 1 ≤ n) (h2 : n ≤ 8) : Q8 n := by
  have := List.all_eq_true.1 q8_tab (n - 1) (List.mem_range.2 (by omega))
  rw [show n - 1 + 1 = n by omega] at this
  simp only [Bool.and_eq_true, decide_eq_true_eq, List.all_cons, List.all_nil, and_true] at this
  obtain ⟨⟨⟨⟨⟨a1, a2⟩, a3⟩, ⟨⟨b1, b2⟩, b3⟩, ⟨⟨c1, c2⟩, c3⟩, ⟨⟨d1, d2⟩, d3⟩⟩, e1⟩, e2⟩ := this
  exact ⟨a1, a2, a3, ⟨fnt_lt b1, b2, b3⟩, ⟨fnt_lt c1, c2, c3⟩, ⟨fnt_lt d1, d2, d3⟩, e1, e2⟩
attribute [local irreducible] qAt qPos fop fint rv Fnt qFr
theorem quant_1 {l : List Nat} {sh : Nat} (h : l.length ≤ qAt l.length sh + 1) : quantG l sh = (sortF l).getD (l.length - 1) 0 := by unfold quantG; rw [if_pos h]
theorem quant_b {l : List Nat} {sh : Nat} (h : ¬ l.length ≤ qAt l.length sh + 1) : quantG l sh = btw ((sortF l).getD (qAt l.length sh) 0) ((sortF l).getD (qAt l.length sh + 1) 0) (qFr l.length sh) := by
  unfold quantG btw qFr; rw [if_neg h]
theorem sort_bnd {l : List Nat} (h : ∀ x ∈ l, Bnd x) {i : Nat} (hi : i < l.length) : Bnd ((sortF l).getD i 0) :=
  h _ (sortF_mem (fun x hx => (h x hx).1) (mem_at (by rw [sortF_len]; exact hi)))
theorem sort_le {l : List Nat} (h : ∀ x ∈ l, Bnd x) {i j : Nat} (hij : i ≤ j) (hj : j < l.length) : rv .f32 ((sortF l).getD i 0) ≤ rv .f32 ((sortF l).getD j 0) :=
  srt_at (sortF_ok l fun x hx => (h x hx).1).1 hij (by rw [sortF_len]; exact hj)
/-- what a quantile lies between -/
theorem quant_in {l : List Nat} {sh : Nat} (h : ∀ x ∈ l, Bnd x) (h1 : 1 ≤ l.length) (hf : Fnt .f32 (qFr l.length sh) ∧ 0 ≤ rv .f32 (qFr l.length sh) ∧ rv .f32 (qFr l.length sh) ≤ 3 / 4) :
    Fnt .f32 (quantG l sh) ∧ (qAt l.length sh < l.length → rv .f32 ((sortF l).getD (qAt l.length sh) 0) ≤ rv .f32 (quantG l sh)) ∧ (qAt l.length sh + 1 < l.length → rv .f32 (quantG l sh) ≤ rv .f32 ((sortF l).getD (qAt l.length sh + 1) 0)) := by
  by_cases hq : l.length ≤ qAt l.length sh + 1
  · rw [quant_1 hq]
    exact ⟨(sort_bnd h (by omega)).1, fun hl => sort_le h (by omega) (by omega), fun hl => by omega⟩
  · rw [quant_b hq]
    have b := btw_ok (sort_bnd h (i := qAt l.length sh) (by omega)) (sort_bnd h (i := qAt l.length sh + 1) (by omega)) (sort_le h (by omega) (by omega)) hf.1 hf.2.1 hf.2.2
    exact ⟨b.fv, fun _ => b.v0, fun _ => b.v1⟩
theorem mul_tab : [0, 1, 2, 3, 4, 2147483648].all (fun d => decide (rv .f32 (fop .mul .f32 sh1 d) ≤ rv .f32 (fop .mul .f32 sh3 d))) = true := by decide +kernel
theorem sh_rv : (Fnt .f32 sh1 ∧ rv .f32 sh1 = 1 / 4) ∧ (Fnt .f32 sh3 ∧ rv .f32 sh3 = 3 / 4) := by unfold Fnt; decide +kernel
theorem five_u : rvR .f32 5 = 5 * uU .f32 := by decide +kernel
theorem mul_13 {d : Nat} (hd : Fnt .f32 d) (h0 : 0 ≤ rv .f32 d) (h1 : rv .f32 d ≤ 1000000000000000000) : rv .f32 (fop .mul .f32 sh1 d) ≤ rv .f32 (fop .mul .f32 sh3 d) := by
  have ht := top_ge
  have hu := u_pos
  have hul : uU .f32 ≤ 1 / 1000000000000000000000000000000000000000 := u32
  obtain ⟨⟨s1, s2⟩, s3, s4⟩ := sh_rv
  have hsmall : rv .f32 d < 5 * uU .f32 → rv .f32 (fop .mul .f32 sh1 d) ≤ rv .f32 (fop .mul .f32 sh3 d) := fun hs => by
    have htab : ∀ x ∈ [0, 1, 2, 3, 4, 2147483648], rv .f32 (fop .mul .f32 sh1 x) ≤ rv .f32 (fop .mul .f32 sh3 x) := fun x hx => of_decide_eq_true (List.all_eq_true.1 mul_tab x hx)
    rcases zero_or hd h0 with ⟨a, b⟩ | rfl
    · have : d < 5 := by
        rcases Nat.lt_or_ge d 5 with g | g
        · exact g
        · have := rvR_mono .f32 g
          rw [five_u, ← b] at this
          exact absurd hs (Rat.not_lt.2 this)
      refine htab d ?_
      have : d = 0 ∨ d = 1 ∨ d = 2 ∨ d = 3 ∨ d = 4 := by omega
      rcases this with rfl | rfl | rfl | rfl | rfl <;> simp
    · exact htab _ (by simp)
  by_cases hs : rv .f32 d < 5 * uU .f32
  · exact hsmall hs
  · have hs := Rat.not_lt.1 hs
    obtain ⟨_, a1, a2⟩ := (mul_rds s1 hd).err (M := 1 / 4 * rv .f32 d) (by rw [s2]; exact Rat.le_refl) (by rw [s2]; grind) (by grind)
    obtain ⟨_, b1, b2⟩ := (mul_rds s3 hd).err (M := 3 / 4 * rv .f32 d) (by rw [s4]; exact Rat.le_refl) (by rw [s4]; grind) (by grind)
    rw [s2] at a1; rw [s4] at b2
    rw [ep32] at a1 b2
    grind
theorem quant_le {l : List Nat} (h : ∀ x ∈ l, Bnd x) (h1 : 1 ≤ l.length) (h8 : l.length ≤ 8) : rv .f32 (quantG l sh1) ≤ rv .f32 (quantG l sh3) := by
  have q := q8_of h1 h8
  obtain ⟨f1, l1, u1⟩ := quant_in h h1 q.f1
  obtain ⟨f3, l3, u3⟩ := quant_in h h1 q.f3
  rw [q.a1] at l1 u1
  rw [q.a3] at l3 u3
  by_cases hn : l.length = 2
  · have c1 : ¬ l.length ≤ qAt l.length sh1 + 1 := by rw [q.a1]; omega
    have c3 : ¬ l.length ≤ qAt l.length sh3 + 1 := by rw [q.a3]; omega
    have e1 : qFr l.length sh1 = sh1 := by rw [hn]; exact q.t1
    have e3 : qFr l.length sh3 = sh3 := by rw [hn]; exact q.t3
    rw [quant_b c1, quant_b c3, q.a1, q.a3, e1, e3, hn]
    have b0 := sort_bnd h (i := 0) (by omega)
    have b1 := sort_bnd h (i := 1) (by omega)
    have hle := sort_le h (show 0 ≤ 1 by omega) (show 1 < l.length by omega)
    obtain ⟨⟨s1, s2⟩, s3, s4⟩ := sh_rv
    have k1 := btw_ok b0 b1 hle s1 (by rw [s2]; grind) (by rw [s2]; grind)
    have k3 := btw_ok b0 b1 hle s3 (by rw [s4]; grind) (by rw [s4]; grind)
    have hd : rv .f32 (fop .sub .f32 ((sortF l).getD 1 0) ((sortF l).getD 0 0)) ≤ 1000000000000000000 := by
      obtain ⟨_, g1, g2⟩ := (sub_rds b1.1 b0.1).err (M := 10000000000000000) (by have := b1.2; have := b0.2; grind) (by have := b1.2; have := b0.2; grind) (by have := top_ge; grind)
      rw [ep32] at g1 g2
      have hul : uU .f32 ≤ 1 / 1000000000000000000000000000000000000000 := u32
      have := b1.2; have := b0.2; grind
    have hm := mul_13 k1.fd k1.d0 hd
    show rv .f32 (btw ((sortF l).getD 0 0) ((sortF l).getD 1 0) sh1) ≤ rv .f32 (btw ((sortF l).getD 0 0) ((sortF l).getD 1 0) sh3)
    -- the sum is told by the part that is added
    exact add_mono_r b0.1 k1.fm k3.fm hm k1.fv k3.fv
  · by_cases h11 : l.length = 1
    · have := l3 (by omega)
      have c1 : l.length ≤ qAt l.length sh1 + 1 := by rw [q.a1]; omega
      have c3 : l.length ≤ qAt l.length sh3 + 1 := by rw [q.a3]; omega
      rw [quant_1 c1, quant_1 c3]; exact Rat.le_refl
    · have g1 := u1 (by omega)
      have g3 := l3 (by omega)
      have g2 := sort_le h (show (l.length - 1) / 4 + 1 ≤ 3 * (l.length - 1) / 4 by omega) (by omega)
      exact Rat.le_trans g1 (Rat.le_trans g2 g3)
end Go.Proofs.Ytmnpdipiffmnhaa

