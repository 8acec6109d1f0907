import Derived.Test.YtffkjkiaageghaaZT100
import Derived.Test.YtffkjkiaageghaaZT29
import Derived.Test.YtffkjkiaageghaaZAwH
set_option linter.unusedVariables false
set_option linter.unusedSimpArgs false
set_option maxRecDepth 20000
set_option maxHeartbeats 4000000
namespace Go.Proofs.Ytffkjkiaageghaa
open Go.Aw

theorem set_P {P : Nat → Prop} {m : List Nat} {j x : Nat} (hm : ∀ i, P (m.getD i 0)) (hx : P x) : ∀ i, P ((m.set j x).getD i 0) := fun i => by
  have h0 : P 0 := by have := hm m.length; rwa [List.getD_eq_getElem?_getD, List.getElem?_eq_none (Nat.le_refl _)] at this
  rw [List.getD_eq_getElem?_getD, List.getElem?_set]
  split
  · split
    · exact hx
    · exact h0
  · rw [← List.getD_eq_getElem?_getD]; exact hm i
theorem sink_P {P : Nat → Prop} : ∀ (j : Nat) (m : List Nat), (∀ i, P (m.getD i 0)) → ∀ i, P ((sink j m).getD i 0)
  | 0, m, h => h
  | j + 1, m, h => by
    rw [sink]
    split
    · exact sink_P j _ (set_P (set_P h (h _)) (h _))
    · exact h
theorem srt_P {P : Nat → Prop} {l : List Nat} (h : ∀ i, P (l.getD i 0)) : ∀ k i, P ((srt l k).getD i 0)
  | 0, i => h i
  | k + 1, i => by rw [srt]; exact sink_P _ _ (srt_P h k) i
theorem sort_nd {ks : List Nat} (hks : ∀ x ∈ ks, x ≤ 8) (i : Nat) : ∃ p : Nat, p ≤ 8 ∧ (sortF (ndL ks)).getD i 0 = hf (p : Int) :=
  srt_P (P := fun x => ∃ p : Nat, p ≤ 8 ∧ x = hf (p : Int)) (fun i => ⟨ks.getD i 0, ks_le hks i, ndL_get ks i⟩) _ i

/-! ### the quantile -/
def qv (n p q : Nat) : Nat := fop .add .f32 (hf (p : Int)) (fop .mul .f32 (fop .sub .f32 (q34 n) (fint .f32 (((3 * (n - 1) / 4 : Nat) : Int)))) (fop .sub .f32 (hf (q : Int)) (hf (p : Int))))
theorem qv_all : (List.range 11).all (fun n => (List.range 9).all fun p => (List.range 9).all fun q => fin (qv (n + 2) p q) && decide (gapF (qv (n + 2) p q) (qv (n + 2) p q) = 0)) = true := by decide +kernel
theorem quant_nd {ks : List Nat} (hks : ∀ x ∈ ks, x ≤ 8) (hn : 1 ≤ ks.length ∧ ks.length ≤ 12) : fin (quantF (ndL ks)) = true ∧ gapF (quantF (ndL ks)) (quantF (ndL ks)) = 0 := by
  unfold quantF
  rw [ndL_len]
  split
  · obtain ⟨p, hp, e⟩ := sort_nd hks (ks.length - 1)
    rw [e]
    exact ⟨fin_hf (by omega), gap_hf (by omega)⟩
  · obtain ⟨p, hp, e⟩ := sort_nd hks (3 * (ks.length - 1) / 4)
    obtain ⟨q, hq, e'⟩ := sort_nd hks (3 * (ks.length - 1) / 4 + 1)
    rw [e, e']
    have := List.all_eq_true.1 (List.all_eq_true.1 (List.all_eq_true.1 qv_all (ks.length - 2) (List.mem_range.2 (by omega))) p (List.mem_range.2 (by omega))) q (List.mem_range.2 (by omega))
    rw [show ks.length - 2 + 2 = ks.length by omega] at this
    simp only [Bool.and_eq_true, decide_eq_true_eq] at this
    exact this

/-! ### the best size -/
def szOk (p q : Nat) : Bool := (orderF (fint .f32 (p : Int)) (fint .f32 (q : Int)) 1073741824).2 &&
  fcmp .lss .f64 (gapF (fop .mul .f32 (fop .quo .f32 (fint .f32 (p : Int)) (orderF (fint .f32 (p : Int)) (fint .f32 (q : Int)) 1073741824).1) (fint .f32 (q : Int))) (fop .mul .f32 (fop .quo .f32 (orderF (fint .f32 (p : Int)) (fint .f32 (q : Int)) 1073741824).1 1073741824) 1073741824))
    (fop .mul .f64 4576918229304087675 (fop .add .f64 4607182418800017408 (fconv .f32 .f64 (orderF (fint .f32 (p : Int)) (fint .f32 (q : Int)) 1073741824).1)))
theorem sz_all : (List.range 40).all (fun p => (List.range 20).all fun q => szOk (p + 1) (q + 1)) = true := by decide +kernel
theorem sz_ok {p q : Nat} (hp : 1 ≤ p ∧ p ≤ 40) (hq : 1 ≤ q ∧ q ≤ 20) : szOk p q = true := by
  have := List.all_eq_true.1 (List.all_eq_true.1 sz_all (p - 1) (List.mem_range.2 (by omega))) (q - 1) (List.mem_range.2 (by omega))
  rwa [show p - 1 + 1 = p by omega, show q - 1 + 1 = q by omega] at this

/-! ### the mean, and the point -/
theorem sum_nd {ks : List Nat} (hks : ∀ x ∈ ks, x ≤ 8) (hn : ks.length ≤ 12) : sumF (ndL ks) = hf (kS ks ks.length) := by
  have hk := kS_rng hks ks.length (Nat.le_refl _)
  have e : ndL ks = (ks.map fun k : Nat => (k : Int)).map hf := by simp [ndL]
  have e2 : kS ks ks.length = (ks.map fun k : Nat => (k : Int)).sum := by unfold kS; rw [List.take_length]
  rw [e, sumF_hf (fun x hx => by simp only [List.mem_map] at hx; obtain ⟨k, _, rfl⟩ := hx; omega) (by rw [← e2]; omega), ← e2]
theorem mean_nd {ks : List Nat} (hks : ∀ x ∈ ks, x ≤ 8) (hn : ks.length ≤ 12) : meanF (ndL ks) = fop .quo .f32 (hf (kS ks ks.length)) (fint .f32 ((ks.length : Nat) : Int)) := by
  unfold meanF; rw [sum_nd hks hn, ndL_len]
theorem n_all : (List.range 12).all (fun n => decide (oneK .f32 ≤ fint .f32 ((n + 1 : Nat) : Int)) && decide (fint .f32 ((n + 1 : Nat) : Int) ≤ 1094713344)) = true := by decide +kernel
theorem n_ge {n : Nat} (h : 1 ≤ n ∧ n ≤ 12) : oneK .f32 ≤ fint .f32 (n : Int) ∧ fint .f32 (n : Int) ≤ 1094713344 := by
  have := List.all_eq_true.1 n_all (n - 1) (List.mem_range.2 (by omega))
  rw [show n - 1 + 1 = n by omega, Bool.and_eq_true, decide_eq_true_eq, decide_eq_true_eq] at this
  exact this
theorem hf_pos {x : Int} (h : 0 ≤ x ∧ x ≤ 512) : hf x = hr .f32 x.natAbs := by unfold hf hw; rw [decide_eq_false (by omega)]; exact word_f _ _
theorem hf_le {x y : Int} (h : 0 ≤ x ∧ x ≤ y) (hy : y ≤ 512) : hf x ≤ hf y := by
  rw [hf_pos (by omega), hf_pos (by omega)]
  rcases Int.lt_or_eq_of_le h.2 with g | g
  · exact Nat.le_of_lt (hr_lt .f32 (by omega) (by omega))
  · rw [g]; exact Nat.le_refl _
theorem c96 : hf 96 < 2139095040 ∧ 2 * valR FloatKind.f32.format (hf 96) ≤ valR FloatKind.f32.format 1119879168 := by decide +kernel
theorem mean_le {ks : List Nat} (hks : ∀ x ∈ ks, x ≤ 8) (hn : 1 ≤ ks.length ∧ ks.length ≤ 12) : meanF (ndL ks) ≤ 1119879168 := by
  have hk := kS_rng hks ks.length (Nat.le_refl _)
  have hle := hf_le (x := kS ks ks.length) (y := 96) (by omega) (by omega)
  have hn' := n_ge hn
  have := c96
  rw [mean_nd hks hn.2]
  refine quo_le2 .f32 (by rw [inf32]; omega) hn'.1 (by rw [inf32]; omega) (by rw [inf32]; omega) ?_
  exact Nat.le_trans (Nat.mul_le_mul_left 2 (valR_mono _ hle)) this.2
theorem mul_le {r q R Q C : Nat} (hr : r ≤ R) (hq : q ≤ Q) (hR : R < 2139095040) (hQ : Q < 2139095040) (h : fop .mul .f32 R Q ≤ C) : fop .mul .f32 r q ≤ C := by
  have e1 := mul_word .f32 false false (r := r) (q := q) (by rw [inf32]; omega) (by rw [inf32]; omega)
  have e2 := mul_word .f32 false false (r := R) (q := Q) (by rw [inf32]; omega) (by rw [inf32]; omega)
  rw [word_f, word_f, Bool.xor_self, word_f] at e1 e2
  refine Nat.le_trans ?_ h
  rw [e1, e2]
  exact nearest_mono _ _ (Nat.mul_le_mul (valR_mono _ hr) (valR_mono _ hq))
theorem v_le {ks : List Nat} (hks : ∀ x ∈ ks, x ≤ 8) (hn : 1 ≤ ks.length ∧ ks.length ≤ 12) {ld : Nat} (hl : 1 ≤ ld ∧ ld ≤ 4) : fop .mul .f32 (fint .f32 (ld : Int)) (meanF (ndL ks)) ≤ 1157627904 :=
  mul_le (n_ge (by omega)).2 (mean_le hks hn) (by omega) (by omega) (by decide +kernel)
theorem fin_small2 {c : Nat} (h : c < 2139095040) : fin c = true := by
  have : fin c = finB .f32 c := rfl
  rw [this, finB_eq]
  unfold finR
  rw [sw32, inf32]
  exact decide_eq_true (by omega)
theorem gap_self {v : Nat} (h : v < 2139095040) : gapF v v = 0 := by
  unfold gapF
  have hw : fconv .f32 .f64 v < FloatKind.f64.format.infRung := by have := widen_le h; rw [inf64]; omega
  have hs : fop .sub .f64 (fconv .f32 .f64 v) (fconv .f32 .f64 v) = 0 := by
    have := sub_word .f64 false false hw hw
    rw [word_f] at this
    rw [this]
    have e : sg1 false (valR FloatKind.f64.format (fconv .f32 .f64 v)) + sg1 (!false) (valR FloatKind.f64.format (fconv .f32 .f64 v)) = 0 := by unfold sg1; simp; omega
    rw [e, if_pos rfl]
    decide +kernel
  rw [hs, fmx0]

/-! ### spreads are finite -/
theorem sub_le {r q C : Nat} (hr : r ≤ C) (hq : q ≤ C) (hC : C < 2139095040) : ∃ s t, t ≤ C ∧ fop .sub .f32 r q = FloatKind.f32.format.word s t := by
  have h := sub_word .f32 false false (r := r) (q := q) (by rw [inf32]; omega) (by rw [inf32]; omega)
  rw [word_f, word_f] at h
  refine ⟨_, _, ?_, h⟩
  refine near_le .f32 (by rw [inf32]; omega) ?_
  have h1 := valR_mono FloatKind.f32.format hr
  have h2 := valR_mono FloatKind.f32.format hq
  unfold sg1; simp; omega
theorem sq_le {d s t C D : Nat} {b : Bool} (e : d = FloatKind.f32.format.word b t) (ht : t ≤ C) (hC : C < 2139095040) (hD : fop .mul .f32 C C ≤ D) : fop .mul .f32 d d ≤ D := by
  subst e
  have e1 := mul_word .f32 b b (r := t) (q := t) (by rw [inf32]; omega) (by rw [inf32]; omega)
  have e2 := mul_word .f32 false false (r := C) (q := C) (by rw [inf32]; omega) (by rw [inf32]; omega)
  rw [Bool.xor_self, word_f] at e1
  rw [word_f, Bool.xor_self, word_f] at e2
  refine Nat.le_trans ?_ hD
  rw [e1, e2]
  exact nearest_mono _ _ (Nat.mul_le_mul (valR_mono _ ht) (valR_mono _ ht))
def cD : Nat → Nat
  | 0 => 0
  | j + 1 => fop .add .f32 (cD j) 1175453696
theorem cD_all : (List.range 13).all (fun j => decide (cD j < 2139095040)) = true := by decide +kernel
theorem cD_lt {j : Nat} (h : j ≤ 12) : cD j < 2139095040 := of_decide_eq_true (List.all_eq_true.1 cD_all j (List.mem_range.2 (by omega)))
theorem cD_top : 2 * valR FloatKind.f32.format (cD 12) ≤ valR FloatKind.f32.format 1216348160 := by decide +kernel
theorem cD_mono {j : Nat} : ∀ k, j ≤ k → k ≤ 12 → cD j ≤ cD k
  | 0, h, _ => by rw [show j = 0 by omega]; exact Nat.le_refl _
  | k + 1, h, hk => by
    rcases Nat.lt_or_eq_of_le h with g | g
    · have ih := cD_mono (j := j) k (by omega) (by omega)
      have := cD_lt (j := k) (by omega)
      rw [cD]
      exact Nat.le_trans ih (add_ge .f32 (by rw [inf32]; omega) (by rw [inf32]; omega)).1
    · rw [g]; exact Nat.le_refl _
theorem less_get {ks : List Nat} (m i : Nat) (h : i < ks.length) : (lessL (ndL ks) m).getD i 0 = fop .sub .f32 (hf ((ks.getD i 0 : Nat) : Int)) m := by
  have := ndL_get ks i
  unfold lessL
  rw [List.getD_eq_getElem?_getD] at *
  rw [List.getElem?_map]
  rw [List.getElem?_eq_getElem (by rw [ndL_len]; exact h)] at *
  simp only [Option.map_some, Option.getD_some] at *
  rw [this]
theorem sq_nd {ks : List Nat} (hks : ∀ x ∈ ks, x ≤ 8) (hn : 1 ≤ ks.length ∧ ks.length ≤ 12) : sqF (ndL ks) ≤ cD 12 := by
  have hm := mean_le hks hn
  unfold sqF dotF
  rw [lessL_len, ndL_len]
  have key : ∀ j, j ≤ ks.length → dotN (lessL (ndL ks) (meanF (ndL ks))) (lessL (ndL ks) (meanF (ndL ks))) j ≤ cD j := by
    intro j
    induction j with
    | zero => intro _; exact Nat.le_refl _
    | succ j ih =>
      intro hj
      rw [dotN, cD, less_get _ _ (by omega)]
      have h8 := ks_le hks j
      have h1 := hf_le (x := ((ks.getD j 0 : Nat) : Int)) (y := 96) (by omega) (by omega)
      have h2 : hf 96 ≤ 1119879168 := by decide +kernel
      obtain ⟨s, t, ht, e⟩ := sub_le (r := hf ((ks.getD j 0 : Nat) : Int)) (q := meanF (ndL ks)) (C := 1119879168) (by omega) hm (by omega)
      have h3 := sq_le (s := 0) e ht (by omega) (D := 1175453696) (by decide +kernel)
      have := cD_lt (j := j) (by omega)
      exact add_mono .f32 (ih (by omega)) h3 (by rw [inf32]; omega) (by rw [inf32]; omega)
  exact Nat.le_trans (key ks.length (Nat.le_refl _)) (cD_mono 12 hn.2 (Nat.le_refl _))
theorem spr_nd {ks : List Nat} (hks : ∀ x ∈ ks, x ≤ 8) (hn : 1 ≤ ks.length ∧ ks.length ≤ 12) : sprF (ndL ks) ≤ 2130706432 := by
  have h := sq_nd hks hn
  have h12 := cD_lt (j := 12) (Nat.le_refl _)
  have hn' := n_ge hn
  have hq : fop .quo .f32 (sqF (ndL ks)) (fint .f32 ((ks.length : Nat) : Int)) ≤ 1216348160 :=
    quo_le2 .f32 (by rw [inf32]; omega) hn'.1 (by rw [inf32]; omega) (by rw [inf32]; omega) (Nat.le_trans (Nat.mul_le_mul_left 2 (valR_mono _ h)) cD_top)
  unfold sprF
  rw [ndL_len]
  exact root_pos (by omega)
theorem mul_0 {q : Nat} (h : q < 2139095040) : fop .mul .f32 0 q = 0 := by
  have e := mul_word .f32 false false (r := 0) (q := q) (by rw [inf32]; omega) (by rw [inf32]; omega)
  rw [word_f, word_f, valR_zero, Nat.zero_mul, nearest_zero] at e
  rw [e]; decide +kernel
theorem point_nd {ks : List Nat} (hks : ∀ x ∈ ks, x ≤ 8) (hn : 1 ≤ ks.length ∧ ks.length ≤ 12) {ld : Nat} (hl : 1 ≤ ld ∧ ld ≤ 4) : orderP (ndL ks) (ld : Int) 0 = (fop .mul .f32 (fint .f32 (ld : Int)) (meanF (ndL ks)), true) := by
  have hs := spr_nd hks hn
  have hv := v_le hks hn hl
  have hr : rootF (fint .f32 (ld : Int)) ≤ 2130706432 := root_pos (by have := (n_ge (n := ld) (by omega)).2; omega)
  unfold orderP
  rw [nd_ser hks hn, show inR (ld : Int) 1 32 = true from inR_t.2 (by omega), show fin 0 = true by decide +kernel]
  simp only [Bool.and_self, if_true]
  rw [mul_0 (by omega), mul_0 (by omega)]
  have e : fop .add .f32 (fop .mul .f32 (fint .f32 (ld : Int)) (meanF (ndL ks))) 0 = fop .mul .f32 (fint .f32 (ld : Int)) (meanF (ndL ks)) := by
    rw [add_nn .f32 (by rw [inf32]; omega) (by rw [inf32]; omega), valR_zero, Nat.add_zero, nearest_valR .f32 (by rw [inf32]; omega)]
  rw [e]
  unfold numF
  rw [if_pos (fin_small2 (by omega))]
theorem meanOf_nd {ks : List Nat} (hks : ∀ x ∈ ks, x ≤ 8) (hn : 1 ≤ ks.length ∧ ks.length ≤ 12) : meanOf (ndL ks) = (meanF (ndL ks), true) := by
  have := mean_le hks hn
  unfold meanOf
  rw [if_pos (nd_ser hks hn)]
  unfold numF
  rw [if_pos (fin_small2 (by omega))]
end Go.Proofs.Ytffkjkiaageghaa
