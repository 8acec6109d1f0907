import Derived.Test.YtpdnjcblkjjegaaVT33
import Derived.Test.YtpdnjcblkjjegaaVT23
import Derived.Test.YtpdnjcblkjjegaaVT87
set_option linter.unusedVariables false
set_option linter.unusedSimpArgs false
set_option maxRecDepth 20000
set_option maxHeartbeats 8000000
namespace Go.Proofs.Ytpdnjcblkjjegaa
open Go.Aw

/-! ### what is not below nought over what is above it -/
def SPw (c : Nat) : Prop := isNan .f32 c = true ∨ c ≤ 2139095040
def spD : Ieee.Datum → Prop
  | .nan _ _ => True
  | .infinity s => s = false
  | .number s _ _ => s = false
theorem SP_read {c : Nat} (h : SPw c) : spD (FloatKind.f32.format.read c) := by
  rcases h with h | h
  · obtain ⟨s, t, e⟩ := datum_nan h
    rw [show FloatKind.f32.format.read c = .nan s t from e]; trivial
  · have hs : (c / FloatKind.f32.format.signWeight % 2 == 1) = false := by rw [sw32, Nat.div_eq_of_lt (by omega)]; rfl
    have hm : c % FloatKind.f32.format.signWeight = c := by rw [sw32]; exact Nat.mod_eq_of_lt (by omega)
    rcases Nat.lt_or_ge c 2139095040 with h1 | h1
    · obtain ⟨m, i, e, e0, _⟩ := read_fin (k := .f32) (c := c) (by rw [hm, inf32]; exact h1)
      rw [e, hs]; exact rfl
    · rw [read_inf (k := .f32) (c := c) (by rw [hm, inf32]; omega), hs]; exact rfl
theorem SP_write {op : BinOp} {a b : Nat} {o : Option Ieee.Datum} (h : floatBits op .f32 a b = o.map FloatKind.f32.format.write) (ho : ∀ x, o = some x → spD x ∧ x.isNaN = false) : SPw (fop op .f32 a b) := by
  unfold fop
  rw [h]
  cases o with
  | none => exact .inl (nan0_nan .f32)
  | some x =>
    obtain ⟨h1, h2⟩ := ho x rfl
    simp only [Option.map_some]
    cases x with
    | nan s t => cases h2
    | infinity s =>
      have h1' : s = false := h1
      subst h1'
      exact .inr (by decide +kernel)
    | number s m e =>
      have h1' : s = false := h1
      subst h1'
      show SPw (canon .f32 (FloatKind.f32.format.nearest false m e))
      rw [nearest_sign, canon_word .f32 false (nearest_inf _ _ _)]
      refine .inr ?_
      rw [word_f]
      have := nearest_inf FloatKind.f32.format m e
      rwa [inf32] at this
theorem SP_mul {a b : Nat} (ha : SPw a) (hb : SPw b) : SPw (fop .mul .f32 a b) := by
  refine SP_write (o := (FloatKind.f32.format.read a).product (FloatKind.f32.format.read b)) rfl fun x hx => ?_
  have h1 := SP_read ha
  have h2 := SP_read hb
  revert h1 h2 hx
  cases FloatKind.f32.format.read a with
  | nan s t => simp [Ieee.Datum.product]
  | infinity s =>
    cases FloatKind.f32.format.read b with
    | nan s t => simp [Ieee.Datum.product]
    | infinity t => intro hx h1 h2; simp only [spD] at h1 h2; subst h1; subst h2; simp only [Ieee.Datum.product, Option.some.injEq] at hx; subst hx; exact ⟨rfl, rfl⟩
    | number t n j =>
      intro hx h1 h2; simp only [spD] at h1 h2; subst h1; subst h2
      simp only [Ieee.Datum.product] at hx
      split at hx
      · cases hx
      · simp only [Option.some.injEq] at hx; subst hx; exact ⟨rfl, rfl⟩
  | number s m i =>
    cases FloatKind.f32.format.read b with
    | nan s t => simp [Ieee.Datum.product]
    | infinity t =>
      intro hx h1 h2; simp only [spD] at h1 h2; subst h1; subst h2
      simp only [Ieee.Datum.product] at hx
      split at hx
      · cases hx
      · simp only [Option.some.injEq] at hx; subst hx; exact ⟨rfl, rfl⟩
    | number t n j =>
      intro hx h1 h2; simp only [spD] at h1 h2; subst h1; subst h2
      simp only [Ieee.Datum.product, Option.some.injEq] at hx
      subst hx; exact ⟨rfl, rfl⟩
theorem NN_quo {a b : Nat} (ha : NN a) (hb : SPw b) : NN (fop .quo .f32 a b) := by
  refine NN_write (o := (FloatKind.f32.format.read a).quotient (FloatKind.f32.format.fractionBits + 2) (FloatKind.f32.format.read b)) rfl fun x hx => ?_
  have h1 := NN_read ha
  have h2 := SP_read hb
  revert h1 h2 hx
  cases FloatKind.f32.format.read a with
  | nan s t => simp [Ieee.Datum.quotient]
  | infinity s =>
    cases FloatKind.f32.format.read b with
    | nan s t => simp [Ieee.Datum.quotient]
    | infinity t => simp [Ieee.Datum.quotient]
    | number t n j =>
      intro hx h1 h2; simp only [nnD, spD] at h1 h2; subst h1; subst h2
      simp only [Ieee.Datum.quotient, Option.some.injEq] at hx; subst hx; exact ⟨rfl, rfl⟩
  | number s m i =>
    cases FloatKind.f32.format.read b with
    | nan s t => simp [Ieee.Datum.quotient]
    | infinity t =>
      intro hx h1 h2
      simp only [Ieee.Datum.quotient, Option.some.injEq] at hx; subst hx; exact ⟨.inr rfl, rfl⟩
    | number t n j =>
      intro hx h1 h2; simp only [nnD, spD] at h1 h2; subst h2
      simp only [Ieee.Datum.quotient] at hx
      split at hx
      · split at hx
        · cases hx
        · rename_i hm
          have hs : s = false := h1.resolve_right hm
          subst hs
          simp only [Option.some.injEq] at hx; subst hx; exact ⟨rfl, rfl⟩
      · simp only [Option.some.injEq] at hx; subst hx
        refine ⟨?_, rfl⟩
        simp only [nnD]
        rcases h1 with h1 | h1
        · left; rw [h1]; rfl
        · right; subst h1; simp
theorem above_SP {c : Nat} (hc : F32 c) (h : above c = true) : SPw c := by
  simp only [above, Bool.and_eq_true] at h
  obtain ⟨h1, h2⟩ := h
  have h1' : finB .f32 c = true := h1
  rw [finB_eq] at h1'
  unfold finR at h1'
  rw [sw32, inf32, decide_eq_true_eq] at h1'
  have hn : isNan .f32 c = false := by rw [isNan_rung, sw32, inf32]; exact decide_eq_false (by omega)
  have h0n : isNan .f32 0 = false := by decide +kernel
  have hlt := hc.2
  right
  rcases Nat.lt_or_ge c 2147483648 with g | g
  · rw [Nat.mod_eq_of_lt g] at h1'; omega
  · exfalso
    unfold fcmp at h2
    simp only [] at h2
    rw [order_sv .f32 hn h0n] at h2
    have e1 : sv .f32 c = -((c % 2147483648 : Nat) : Int) := by
      unfold sv
      rw [sw32, show c / 2147483648 = 1 by omega]; rfl
    have e2 : sv .f32 0 = 0 := by decide +kernel
    rw [e1, e2] at h2
    by_cases h0 : c % 2147483648 = 0
    · rw [cmp_eq (by omega)] at h2; cases h2
    · rw [cmp_lt (by omega)] at h2; cases h2

/-! ### weights of numbers in states -/
def wgD (a : List Nat) (x i : Nat) : Nat := fop .sub .f32 x (a.getD i 0)
def wgY (a b : List Nat) (x i : Nat) : Nat := fop .sub .f32 0 (fop .quo .f32 (fop .mul .f32 (wgD a x i) (wgD a x i)) (fop .mul .f32 1073741824 (b.getD i 0)))
def wgt (a b : List Nat) (x i : Nat) : Nat := fop .quo .f32 (exN (wgY a b x i)) (rootF (b.getD i 0))
theorem wgY_neg {a b : List Nat} (hb : ∀ x ∈ b, F32 x) (h : b.all above = true) {x i : Nat} (hi : i < b.length) : Neg0 (wgY a b x i) := by
  have hm : b.getD i 0 ∈ b := by rw [List.getD_eq_getElem?_getD, List.getElem?_eq_getElem hi]; exact List.getElem_mem _
  refine neg0_sub (F32_fop _ _ _) (NN_quo (NN_sq _) (SP_mul (.inr (by decide)) (above_SP (hb _ hm) (List.all_eq_true.1 h _ hm))))
attribute [local irreducible] QRun LexD AWp TCall TMut fop fint fcmp fconv exN
theorem l05Weight_c (a b c d : List Nat) (x i : Nat) (hb : ∀ x ∈ b, F32 x) (h : b.all above = true) (hi : i < a.length) (hi2 : i < b.length) (ka : a.length ≤ 3) (kb : b.length ≤ 3) :
    TCall Try.prog 42 [.ref [.fl a, .fl b, .fl c, .fl d], .v (.int .i64 (i : Nat)), .f .f32 x] (.t (.f .f32 (wgt a b x i))) [] := by
  refine tcall_of Try.func42 rfl (by kernel_rfl) (Nat.le_of_ble_eq_true rfl) rfl ?_
  simp only [argsL, argAV, argCs, argS]
  repeat (first | refine w_q ?_ | refine w_s ?_ | refine w_t ?_ | refine w_k ?_ | refine y_q ?_ | refine y_s ?_ | refine y_t ?_ | refine y_k ?_ | refine u_n ?_ | refine u_q ?_ | refine u_g ?_ | refine u_d ?_ | refine u_b ?_ | refine u_x ?_ | refine u_r ?_ | refine u_s ?_)
  (first | (refine c_q (l01Exp_c (wgY a b x i) (wgY_neg hb h hi2)) (h := ?_)) | (refine z_q (l01Exp_c (wgY a b x i) (wgY_neg hb h hi2)) (h := ?_)))
  repeat (first | refine w_q ?_ | refine w_s ?_ | refine w_t ?_ | refine w_k ?_ | refine y_q ?_ | refine y_s ?_ | refine y_t ?_ | refine y_k ?_ | refine u_n ?_ | refine u_q ?_ | refine u_g ?_ | refine u_d ?_ | refine u_b ?_ | refine u_x ?_ | refine u_r ?_ | refine u_s ?_)
  (first | (refine c_q (l01Sqrt_c (b.getD i 0)) (h := ?_)) | (refine z_q (l01Sqrt_c (b.getD i 0)) (h := ?_)))
  repeat (first | refine w_q ?_ | refine w_s ?_ | refine w_t ?_ | refine w_k ?_ | refine y_q ?_ | refine y_s ?_ | refine y_t ?_ | refine y_k ?_ | refine u_n ?_ | refine u_q ?_ | refine u_g ?_ | refine u_d ?_ | refine u_b ?_ | refine u_x ?_ | refine u_r ?_ | refine u_s ?_)
  (refine u_0 ?_; (repeat' (first | exact RetRelL.nil | refine RetRel.nil rfl ?_ | refine RetRelL.cons ?_ ?_ | refine rr_tup ?_ | refine rr_agg ?_ | refine rr_own rfl ?_ | exact RetRel.arg | exact RetRel.argc | refine rr_t ?_)); all_goals rfl)
theorem weight_c (a b c d : List Nat) (x i : Nat) (hb : ∀ x ∈ b, F32 x) (h : b.all above = true) (hi : i < a.length) (hi2 : i < b.length) (ka : a.length ≤ 3) (kb : b.length ≤ 3) :
    TCall Try.prog 37 [R4 a b c d, .f .f32 x, .v (.int .i64 (i : Nat))] (.t (.f .f32 (wgt a b x i))) [] := by
  refine tcall_of Try.func37 rfl (by kernel_rfl) (Nat.le_of_ble_eq_true rfl) rfl ?_
  simp only [argsL, argAV, argCs, argS]
  repeat (first | refine w_q ?_ | refine w_s ?_ | refine w_t ?_ | refine w_k ?_ | refine y_q ?_ | refine y_s ?_ | refine y_t ?_ | refine y_k ?_ | refine u_n ?_ | refine u_q ?_ | refine u_g ?_ | refine u_d ?_ | refine u_b ?_ | refine u_x ?_ | refine u_r ?_ | refine u_s ?_ | refine w_r (q_build tyOk rfl rfl rfl rfl rfl rfl rfl rfl) (h := ?_) | refine y_r (q_build tyOk rfl rfl rfl rfl rfl rfl rfl rfl) (h := ?_))
  (first | (refine c_q (expNumber_c (wgY a b x i) (wgY_neg hb h hi2)) (h := ?_)) | (refine z_q (expNumber_c (wgY a b x i) (wgY_neg hb h hi2)) (h := ?_)))
  repeat (first | refine w_q ?_ | refine w_s ?_ | refine w_t ?_ | refine w_k ?_ | refine y_q ?_ | refine y_s ?_ | refine y_t ?_ | refine y_k ?_ | refine u_n ?_ | refine u_q ?_ | refine u_g ?_ | refine u_d ?_ | refine u_b ?_ | refine u_x ?_ | refine u_r ?_ | refine u_s ?_ | refine w_r (q_build tyOk rfl rfl rfl rfl rfl rfl rfl rfl) (h := ?_) | refine y_r (q_build tyOk rfl rfl rfl rfl rfl rfl rfl rfl) (h := ?_))
  (first | (refine c_q (rootNumber_c (b.getD i 0)) (h := ?_)) | (refine z_q (rootNumber_c (b.getD i 0)) (h := ?_)))
  repeat (first | refine w_q ?_ | refine w_s ?_ | refine w_t ?_ | refine w_k ?_ | refine y_q ?_ | refine y_s ?_ | refine y_t ?_ | refine y_k ?_ | refine u_n ?_ | refine u_q ?_ | refine u_g ?_ | refine u_d ?_ | refine u_b ?_ | refine u_x ?_ | refine u_r ?_ | refine u_s ?_ | refine w_r (q_build tyOk rfl rfl rfl rfl rfl rfl rfl rfl) (h := ?_) | refine y_r (q_build tyOk rfl rfl rfl rfl rfl rfl rfl rfl) (h := ?_))
  (refine u_0 ?_; (repeat' (first | exact RetRelL.nil | refine RetRel.nil rfl ?_ | refine RetRelL.cons ?_ ?_ | refine rr_tup ?_ | refine rr_agg ?_ | refine rr_own rfl ?_ | exact RetRel.arg | exact RetRel.argc | refine rr_t ?_)); all_goals rfl)
end Go.Proofs.Ytpdnjcblkjjegaa

