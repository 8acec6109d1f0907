import Derived.Test.YtmnpdipiffmnhaaVT165
import Derived.Test.YtmnpdipiffmnhaaVT109
import Derived.Test.YtmnpdipiffmnhaaVT119
import Derived.Test.YtmnpdipiffmnhaaVAwG
set_option linter.unusedVariables false
set_option linter.unusedSimpArgs false
set_option maxRecDepth 20000
set_option maxHeartbeats 8000000
namespace Go.Proofs.Ytmnpdipiffmnhaa
open Go.Aw

/-! ### what is left of a number that is cut to a whole one -/
theorem fin_RB (x : Nat) : fin x = finR .f32 x := by
  have h : fin x = finB .f32 x := rfl
  rw [h, finB_eq]
theorem fnt_fin {c : Nat} (h : F32 c) (hf : fin c = true) : Fnt .f32 c := by
  rw [fin_RB] at hf
  have e : FloatKind.f32.format.signWeight = 2147483648 := by decide
  exact ⟨by have := h.2; rw [e]; omega, of_decide_eq_true hf⟩
theorem fin_fnt {c : Nat} (h : Fnt .f32 c) : fin c = true := by rw [fin_RB]; exact decide_eq_true h.2
/-- the whole part of a word's number -/
def trN (k : FloatKind) (c : Nat) : Nat := valR k.format (c % k.format.signWeight) / 2 ^ lpN k
theorem cut_div (s : Bool) (n d : Nat) : Ieee.Toward.zero.cut s n d = n / 2 ^ d := by
  unfold Ieee.Toward.cut
  simp only [Bool.toNat_false, Nat.add_zero, Nat.shiftLeft_eq, Nat.one_mul]
  rcases Nat.le_total d (n.log2 + 2) with h | h
  · rw [Nat.min_eq_left h]
  · rw [Nat.min_eq_right h]
    have h1 : n < 2 ^ (n.log2 + 1) := Nat.lt_log2_self
    have h2 : n < 2 ^ (n.log2 + 2) := Nat.lt_of_lt_of_le h1 (Nat.pow_le_pow_right (by omega) (by omega))
    have h3 : n < 2 ^ d := Nat.lt_of_lt_of_le h2 (Nat.pow_le_pow_right (by omega) h)
    rw [Nat.div_eq_of_lt h2, Nat.div_eq_of_lt h3]
theorem cut_dn (n d : Nat) : Ieee.Toward.down.cut false n d = n / 2 ^ d := by
  rw [← cut_div false n d]; unfold Ieee.Toward.cut; simp
theorem pow_cut (m i lp : Nat) : (m <<< (-(lp : Int) + (i : Int)).toNat) / 2 ^ (-(-(lp : Int) + (i : Int))).toNat = m * 2 ^ i / 2 ^ lp := by
  rw [Nat.shiftLeft_eq]
  rcases Nat.le_total i lp with h | h
  · rw [show (-(lp : Int) + (i : Int)).toNat = 0 by omega, show (-(-(lp : Int) + (i : Int))).toNat = lp - i by omega]
    obtain ⟨d, rfl⟩ : ∃ d, lp = i + d := ⟨lp - i, by omega⟩
    rw [Nat.pow_add, show i + d - i = d by omega, Nat.mul_comm (2 ^ i), Nat.mul_div_mul_right _ _ (Nat.two_pow_pos i)]; simp
  · rw [show (-(lp : Int) + (i : Int)).toNat = i - lp by omega, show (-(-(lp : Int) + (i : Int))).toNat = 0 by omega]
    obtain ⟨d, rfl⟩ : ∃ d, i = lp + d := ⟨i - lp, by omega⟩
    rw [Nat.pow_add, show lp + d - lp = d by omega, Nat.mul_comm (2 ^ lp), ← Nat.mul_assoc, Nat.mul_div_cancel _ (Nat.two_pow_pos lp)]; simp
theorem trunc_z {k : FloatKind} {c : Nat} (h : Fnt k c) : (k.decode c).toInt .zero = some (Ieee.signed (c / k.format.signWeight % 2 == 1) (trN k c) 0) := by
  obtain ⟨m, i, e, hv⟩ := read_val h.2
  have hd : k.decode c = k.format.read c := rfl
  rw [hd, e]
  simp only [Ieee.Datum.toInt, Ieee.Datum.integral]
  rw [cut_div, lp_N, pow_cut, hv]
  rfl
theorem down_z {k : FloatKind} {c : Nat} (h : Fnt k c) (hs : (c / k.format.signWeight % 2 == 1) = false) : (k.decode c).integral .down = .number false (trN k c) 0 := by
  obtain ⟨m, i, e, hv⟩ := read_val h.2
  have hd : k.decode c = k.format.read c := rfl
  rw [hd, e, hs]
  simp only [Ieee.Datum.integral]
  rw [cut_dn, lp_N, pow_cut, hv]
  rfl
theorem trN_rv (k : FloatKind) (c : Nat) : (trN k c : Rat) ≤ rvR k (c % k.format.signWeight) ∧ rvR k (c % k.format.signWeight) < (trN k c : Rat) + 1 := by
  unfold rvR trN
  generalize valR k.format (c % k.format.signWeight) = V
  have hU := uU_pos k
  have h2 := uU_two k
  have hp : 0 < 2 ^ lpN k := Nat.two_pow_pos _
  generalize 2 ^ lpN k = D at *
  have g1 : V / D * D ≤ V := Nat.div_mul_le_self V D
  have g2 : V < (V / D + 1) * D := by rw [Nat.add_mul, Nat.one_mul]; have := Nat.div_add_mod V D; have := Nat.mod_lt V hp; rw [Nat.mul_comm]; omega
  generalize V / D = q at *
  have k1 : ((q * D : Nat) : Rat) ≤ (V : Rat) := by exact_mod_cast g1
  have k2 : (V : Rat) < (((q + 1) * D : Nat) : Rat) := by exact_mod_cast g2
  have k3 := Rat.mul_le_mul_of_nonneg_right k1 (Rat.le_of_lt hU)
  have k4 := Rat.mul_lt_mul_of_pos_right k2 hU
  push_cast at k3 k4 h2
  refine ⟨?_, ?_⟩
  · calc (q : Rat) = q * D * uU k := by rw [Rat.mul_assoc, h2, Rat.mul_one]
      _ ≤ _ := k3
  · calc (V : Rat) * uU k < (q + 1) * D * uU k := k4
      _ = q + 1 := by rw [Rat.mul_assoc, h2, Rat.mul_one]
theorem nat_between {a b : Nat} {x : Rat} (h1 : (a : Rat) ≤ x) (h2 : x < (b : Rat) + 1) : a ≤ b := by
  have : (a : Rat) < ((b + 1 : Nat) : Rat) := by push_cast; grind
  have : a < b + 1 := by exact_mod_cast this
  omega
theorem zero_or {c : Nat} (h : Fnt .f32 c) (h0 : 0 ≤ rv .f32 c) : (c < 2147483648 ∧ rv .f32 c = rvR .f32 c) ∨ c = 2147483648 := by
  obtain ⟨s, r, rfl, hr, hv⟩ := h.ex
  have e : FloatKind.f32.format.signWeight = 2147483648 := by decide
  have ei := inf_sw .f32
  cases s with
  | false =>
    refine .inl ⟨?_, by rw [hv]; rfl⟩
    show r < _; omega
  | true =>
    refine .inr ?_
    rw [hv] at h0
    have h1 : rvR .f32 r ≤ 0 := by simp at h0; grind
    by_cases hr0 : r = 0
    · subst hr0; rfl
    · have h2 := rvR_mono .f32 (show 1 ≤ r by omega)
      have h3 : 0 < rvR .f32 1 := by decide +kernel
      grind
theorem int_all : (List.range 64).all (fun n => decide (fint .f32 ((n : Int) + 1) < 2139095040) && decide (1 ≤ fint .f32 ((n : Int) + 1)) && decide (rvR .f32 (fint .f32 ((n : Int) + 1)) = (n : Rat) + 1) && decide (rvR .f32 (fint .f32 ((n : Int) + 1) - 1) ≤ (n : Rat) + 1 - 1 / 33554432) &&
    decide (fint .f64 (n : Int) < FloatKind.f64.format.infRung) && decide (rv .f64 (fint .f64 (n : Int)) = (n : Rat)) && !isNan .f64 (canon .f64 (FloatKind.f64.encode (.number false n 0))) && decide ((FloatKind.f64.decode (canon .f64 (FloatKind.f64.encode (.number false n 0)))).toInt .zero = some (n : Int))) = true := by decide +kernel
theorem zero_tab : isNan .f64 (fconv .f32 .f64 2147483648) = false ∧ isNan .f64 (flV (fconv .f32 .f64 2147483648)) = false ∧ (FloatKind.f64.decode (flV (fconv .f32 .f64 2147483648))).toInt .zero = some 0 ∧ (FloatKind.f32.decode 2147483648).toInt .zero = some 0 ∧ trN .f32 2147483648 = 0 ∧ rv .f32 2147483648 = 0 := by decide +kernel
theorem wide_pos {p : Nat} (hp : p < 2147483648) (hr : p < FloatKind.f32.format.infRung) : (fconv .f32 .f64 p / FloatKind.f64.format.signWeight % 2 == 1) = false := by
  have hword := fconv_word (k := .f32) (k' := .f64) false (r := p) hr
  rw [show FloatKind.f32.format.word false p = p from rfl] at hword
  rw [hword]
  have h1 := nearest_inf FloatKind.f64.format (valR FloatKind.f32.format p) FloatKind.f32.format.leastPlace
  have h2 := inf_sw .f64
  exact (word_parts .f64 false (Nat.lt_of_le_of_lt h1 h2)).2.1
theorem rv_pos {w : Nat} (h : Fnt .f64 w) (hs : (w / FloatKind.f64.format.signWeight % 2 == 1) = false) : rv .f64 w = rvR .f64 (w % FloatKind.f64.format.signWeight) := by
  have h1 := h.word
  rw [hs] at h1
  have h2 := rv_word .f64 false h.2
  rw [← h1] at h2
  rw [h2, if_neg Bool.false_ne_true]
theorem floor_rv {p : Nat} (h : Fnt .f32 p) (h0 : 0 ≤ rv .f32 p) (h1 : rv .f32 p ≤ 63) : isNan .f64 (fconv .f32 .f64 p) = false ∧ isNan .f64 (flV (fconv .f32 .f64 p)) = false ∧ (FloatKind.f64.decode (flV (fconv .f32 .f64 p))).toInt .zero = some ((trN .f32 p : Nat) : Int) ∧
    (FloatKind.f32.decode p).toInt .zero = some ((trN .f32 p : Nat) : Int) ∧ (trN .f32 p : Rat) ≤ rv .f32 p ∧ trN .f32 p ≤ 63 := by
  have e : FloatKind.f32.format.signWeight = 2147483648 := by decide
  rcases zero_or h h0 with ⟨hp, hrv⟩ | rfl
  · have hm : p % FloatKind.f32.format.signWeight = p := by rw [e]; omega
    have hs : (p / FloatKind.f32.format.signWeight % 2 == 1) = false := by rw [e, Nat.div_eq_of_lt hp]; rfl
    obtain ⟨t1, t2⟩ := trN_rv .f32 p
    rw [hm, ← hrv] at t1 t2
    have hn63 : trN .f32 p ≤ 63 := nat_between t1 (by grind)
    have htr := trunc_z h
    rw [hs] at htr
    generalize hn : trN .f32 p = n at *
    have tab := List.all_eq_true.1 int_all n (List.mem_range.2 (by omega))
    simp only [Bool.and_eq_true, decide_eq_true_eq, Bool.not_eq_true'] at tab
    obtain ⟨⟨⟨⟨⟨⟨⟨a1, a2⟩, a3⟩, a4⟩, a5⟩, a6⟩, a7⟩, a8⟩ := tab
    generalize fint .f32 ((n : Int) + 1) = R at *
    have hpR : p ≤ R - 1 := by
      rcases Nat.lt_or_ge p R with g | g
      · omega
      · have := rvR_mono .f32 g
        grind
    have hup := rvR_mono .f32 hpR
    obtain ⟨er, w1, w2, w3, w4⟩ := wide_e (c := p) (M := 64) ⟨h, by grind, by grind⟩ (by unfold okM; constructor <;> grind)
    have f64n : Fnt .f64 (fint .f64 (n : Int)) := ⟨by have := inf_sw .f64; omega, by rw [Nat.mod_eq_of_lt (by have := inf_sw .f64; omega)]; exact a5⟩
    have hge := (wide_rds h).ge f64n w4 (by rw [a6]; exact t1)
    rw [a6] at hge
    have hws := wide_pos hp (by rw [← hm]; exact h.2)
    generalize fconv .f32 .f64 p = w at *
    have hwv := rv_pos w4 hws
    obtain ⟨u1, u2⟩ := trN_rv .f64 w
    rw [← hwv] at u1 u2
    have hwn : trN .f64 w = n := by
      have k1 : trN .f64 w ≤ n := nat_between u1 (by rw [w1]; grind)
      have k2 : n ≤ trN .f64 w := nat_between hge (by grind)
      omega
    have hfl : flV w = canon .f64 (FloatKind.f64.encode (.number false n 0)) := by unfold flV; rw [down_z w4 hws, hwn]
    rw [hfl]
    exact ⟨w4.notnan, a7, a8, by rw [htr]; simp [Ieee.signed], t1, hn63⟩
  · obtain ⟨z1, z2, z3, z4, z5, z6⟩ := zero_tab
    rw [z5]
    exact ⟨z1, z2, z3, z4, by rw [z6]; exact Rat.le_refl, by omega⟩
end Go.Proofs.Ytmnpdipiffmnhaa

