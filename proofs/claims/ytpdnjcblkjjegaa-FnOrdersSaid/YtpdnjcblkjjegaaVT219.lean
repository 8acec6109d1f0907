import Derived.Test.YtpdnjcblkjjegaaVT218
set_option linter.unusedVariables false
set_option linter.unusedSimpArgs false
namespace Go.Proofs.Ytpdnjcblkjjegaa
open Go.Aw

/-! ### differences keep their order; quotients by one -/
def rhoI (T : Int) : Rat := if T < 0 then -rvR .f32 (FloatKind.f32.format.nearest false T.natAbs FloatKind.f32.format.leastPlace) else rvR .f32 (FloatKind.f32.format.nearest false T.natAbs FloatKind.f32.format.leastPlace)
theorem rvR0 : rvR .f32 0 = 0 := by unfold rvR; rw [valR_zero]; simp
theorem rhoI_mono {T S : Int} (h : T ≤ S) : rhoI T ≤ rhoI S := by
  unfold rhoI
  by_cases h1 : T < 0
  · rw [if_pos h1]
    by_cases h2 : S < 0
    · rw [if_pos h2]
      have := rvR_mono .f32 (nearest_mono FloatKind.f32.format FloatKind.f32.format.leastPlace (show S.natAbs ≤ T.natAbs by omega))
      grind
    · rw [if_neg h2]
      have p1 := rvR_nn .f32 (FloatKind.f32.format.nearest false T.natAbs FloatKind.f32.format.leastPlace)
      have p2 := rvR_nn .f32 (FloatKind.f32.format.nearest false S.natAbs FloatKind.f32.format.leastPlace)
      grind
  · rw [if_neg h1, if_neg (by omega)]
    exact rvR_mono .f32 (nearest_mono _ _ (by omega))
theorem rhoI_neg (T : Int) : rhoI (-T) = -rhoI T := by
  unfold rhoI
  rw [Int.natAbs_neg]
  rcases Int.lt_trichotomy T 0 with h | h | h
  · rw [if_neg (by omega), if_pos h]; grind
  · subst h
    simp only [Int.neg_zero, Int.natAbs_zero, nearest_zero, rvR0]
    simp
  · rw [if_pos (by omega), if_neg (by omega)]
theorem sub_rho {a b : Nat} (ha : Fnt .f32 a) (hb : Fnt .f32 b) (hc : Fnt .f32 (fop .sub .f32 a b)) : ∃ T : Int, (T : Rat) * uU .f32 = rv .f32 a - rv .f32 b ∧ rv .f32 (fop .sub .f32 a b) = rhoI T := by
  obtain ⟨s, r, rfl, hr, hv⟩ := ha.ex
  obtain ⟨t, q, rfl, hq, hw⟩ := hb.ex
  refine ⟨sg1 s (valR FloatKind.f32.format r) + sg1 (!t) (valR FloatKind.f32.format q), ?_, ?_⟩
  · rw [hv, hw, ← sg1_rv]
    have : (if t = true then -rvR .f32 q else rvR .f32 q) = - (((sg1 (!t) (valR FloatKind.f32.format q) : Int) : Rat) * uU .f32) := by rw [sg1_rv]; cases t <;> simp
    rw [this]; push_cast; grind
  · rw [sub_word .f32 s t hr hq] at hc ⊢
    generalize hT : sg1 s (valR FloatKind.f32.format r) + sg1 (!t) (valR FloatKind.f32.format q) = T at *
    have hi := nearest_inf FloatKind.f32.format T.natAbs FloatKind.f32.format.leastPlace
    have hr' : FloatKind.f32.format.nearest false T.natAbs FloatKind.f32.format.leastPlace < FloatKind.f32.format.infRung := by
      have := hc.2
      rw [(word_parts .f32 _ (r := FloatKind.f32.format.nearest false T.natAbs FloatKind.f32.format.leastPlace) (by have := inf_sw .f32; omega)).1] at this
      exact this
    rw [rv_word .f32 _ hr']
    unfold rhoI
    by_cases h0 : T = 0
    · subst h0
      simp only [Int.natAbs_zero, nearest_zero, rvR0]
      simp
    · rw [if_neg h0]
      by_cases h1 : T < 0
      · rw [decide_eq_true h1, if_pos h1]; rfl
      · rw [decide_eq_false h1, if_neg h1]; rfl
theorem sub_le_sub {a b c d : Nat} (ha : Fnt .f32 a) (hb : Fnt .f32 b) (hc : Fnt .f32 c) (hd : Fnt .f32 d) (f1 : Fnt .f32 (fop .sub .f32 a b)) (f2 : Fnt .f32 (fop .sub .f32 c d)) :
    (rv .f32 a - rv .f32 b ≤ rv .f32 c - rv .f32 d → rv .f32 (fop .sub .f32 a b) ≤ rv .f32 (fop .sub .f32 c d)) ∧
    (rv .f32 b - rv .f32 a ≤ rv .f32 c - rv .f32 d → -rv .f32 (fop .sub .f32 a b) ≤ rv .f32 (fop .sub .f32 c d)) := by
  obtain ⟨T, t1, t2⟩ := sub_rho ha hb f1
  obtain ⟨S, s1, s2⟩ := sub_rho hc hd f2
  rw [← s1, t2, s2]
  have hU := uU_pos .f32
  constructor
  · rw [← t1]
    intro h
    exact rhoI_mono (by have := Rat.le_of_mul_le_mul_right h hU; exact_mod_cast this)
  · have e : rv .f32 b - rv .f32 a = ((-T : Int) : Rat) * uU .f32 := by rw [Rat.intCast_neg]; grind
    rw [e, ← rhoI_neg]
    intro h
    exact rhoI_mono (by have := Rat.le_of_mul_le_mul_right h hU; exact_mod_cast this)
theorem read_lt {k : FloatKind} {c : Nat} (hr : c % k.format.signWeight < k.format.infRung) :
    ∃ (m i : Nat), k.format.read c = .number (c / k.format.signWeight % 2 == 1) m (k.format.leastPlace + (i : Int)) ∧ m * 2 ^ i = valR k.format (c % k.format.signWeight) ∧ m < 2 * k.format.binade := by
  have hB : 0 < k.format.binade := Nat.two_pow_pos _
  unfold Ieee.Format.read valR
  dsimp only
  by_cases h : c % k.format.signWeight < k.format.binade
  · exact ⟨c % k.format.signWeight, 0, by rw [if_pos h]; simp, by rw [if_pos h]; simp, by omega⟩
  · exact ⟨k.format.binade + c % k.format.signWeight % k.format.binade, c % k.format.signWeight / k.format.binade - 1, by rw [if_neg h, if_pos hr], by rw [if_neg h], by
      have := Nat.mod_lt (c % k.format.signWeight) hB; omega⟩
theorem quo_one {c : Nat} (hc : Fnt .f32 c) : fop .quo .f32 c 1065353216 = c := by
  obtain ⟨s, r, rfl, hr, hv⟩ := hc.ex
  obtain ⟨w1, w2, w3⟩ := word_parts .f32 s (r := r) (by have := inf_sw .f32; omega)
  obtain ⟨m, i, h1, h2, h3⟩ := read_lt (k := .f32) (c := FloatKind.f32.format.word s r) (by rw [w1]; exact hr)
  rw [w1] at h2
  rw [w2] at h1
  have g1 : FloatKind.f32.format.read 1065353216 = .number false 8388608 (-23) := by rfl
  have hfb : FloatKind.f32.format.fractionBits = 23 := by rfl
  have hbn : FloatKind.f32.format.binade = 8388608 := by rfl
  rw [hbn] at h3
  have hl : m.log2 ≤ 23 := by
    by_cases hm : m = 0
    · subst hm; decide
    · have := (Nat.log2_lt hm (k := 24)).2 (by omega); omega
  obtain ⟨w, hw⟩ : ∃ w, 48 - m.log2 = 23 + w := ⟨25 - m.log2, by omega⟩
  have hf : floatBits .quo .f32 (FloatKind.f32.format.word s r) 1065353216 = some (FloatKind.f32.format.nearest (s ^^ false) (m * 2 ^ (w + 1)) (FloatKind.f32.format.leastPlace + (i : Int) - ((w + 1 : Nat) : Int))) := by
    unfold floatBits; simp only []; unfold Ieee.Format.div
    rw [h1, g1]
    have e8 : Nat.log2 8388608 = 23 := by decide
    simp only [Ieee.Datum.quotient, Option.map_some, Ieee.Format.write, hfb, Nat.shiftLeft_eq, e8, show (23 + 2 + 23 - m.log2) = 23 + w by omega]
    have e1 : m * 2 ^ (23 + w) = 8388608 * (m * 2 ^ w) := by rw [Nat.pow_add]; grind
    rw [e1, Nat.mul_div_cancel_left _ (by decide), Nat.mul_mod_right]
    have e2 : 2 * (m * 2 ^ w) + ((0 : Nat) != 0).toNat = m * 2 ^ (w + 1) := by rw [Nat.pow_succ]; simp; grind
    rw [if_neg (by decide)]
    rw [e2]
    have e3 : FloatKind.f32.format.leastPlace + (i : Int) - -23 - ((23 + w : Nat) : Int) - 1 = FloatKind.f32.format.leastPlace + (i : Int) - ((w + 1 : Nat) : Int) := by omega
    rw [e3]
    simp only [Option.map_some, Ieee.Format.write]
  rw [fop_eq hf, Bool.xor_false]
  congr 1
  rw [nearest_scale]
  have := nearest_scale FloatKind.f32.format false m i (FloatKind.f32.format.leastPlace + (i : Int))
  rw [show FloatKind.f32.format.leastPlace + (i : Int) - (i : Int) = FloatKind.f32.format.leastPlace by omega, h2, nearest_valR .f32 hr] at this
  exact this.symm
theorem one_rvR : rvR .f32 (oneK .f32) = 1 := by decide +kernel
/-- a quotient of what is no more in size is no more than one -/
theorem quo_ab {a b : Nat} (ha : Fnt .f32 a) (hb : Fnt .f32 b) (hb0 : 0 < rv .f32 b) (h : Ab (rv .f32 a) (rv .f32 b)) : Fnt .f32 (fop .quo .f32 a b) ∧ Ab (rv .f32 (fop .quo .f32 a b)) 1 := by
  obtain ⟨s, r, rfl, hr, hv⟩ := ha.ex
  obtain ⟨t, q, rfl, hq, hw⟩ := hb.ex
  have p1 := rvR_nn .f32 r
  have p2 := rvR_nn .f32 q
  obtain ⟨h1, h2⟩ := h
  rw [hw] at hb0 h1 h2
  rw [hv] at h1 h2
  have ht : t = false := by
    cases t
    · rfl
    · simp at hb0; grind
  subst ht
  rw [if_neg Bool.false_ne_true] at hb0 h1 h2
  have hrq' : rvR .f32 r ≤ rvR .f32 q := by
    cases s
    · simp only [Bool.false_eq_true, if_false] at h1; exact h1
    · simp only [if_true] at h2; grind
  have hrq : r ≤ q := by
    rcases Nat.lt_or_ge q r with h3 | h3
    · have := rvR_lt .f32 h3; grind
    · exact h3
  have hq0 : 0 < q := by
    rcases Nat.eq_zero_or_pos q with h3 | h3
    · subst h3; rw [rvR0] at hb0; grind
    · exact h3
  obtain ⟨r', g1, g2⟩ := quo_le1 .f32 s false hrq hq hq0
  rw [g2]
  have hi : r' < FloatKind.f32.format.infRung := by have := one_inf .f32; omega
  refine ⟨Fn_word .f32 _ hi, ?_⟩
  rw [rv_word .f32 _ hi]
  have m1 := rvR_mono .f32 g1
  have m0 := rvR_nn .f32 r'
  rw [one_rvR] at m1
  split <;> constructor <;> grind

/-! ### the errors of the delayed sums -/
theorem E_err {a : List Nat} {k : Nat → Int} (h : Ser a k) {j : Nat} (hj : j ≤ a.length) : Fnt .f32 (dlF (offL a) j) ∧ Ab (rv .f32 (dlF (offL a) j) - dk (rc (offL a)) a.length j) (gmm * wW (rc (offL a)) a.length j + tau) := by
  have hl : (offL a).length = a.length := lessL_len _ _
  have hs := off_Sm h
  have e1 : dlF (offL a) j = dlN (offL a) j (a.length - j) := by
    unfold dlF
    have := dlN_stop (a := offL a) (g := j) (by omega) j
    rw [hl, show a.length - j + j = a.length by omega] at this
    rw [hl]; exact this
  rw [e1]
  refine ⟨(dl_fin hs (by omega)).1, ?_⟩
  obtain ⟨d1, d2⟩ := dl_err hs (g := j) (m := a.length - j) (by omega)
  have hq := qq_wD (rc (offL a)) hj
  change 2 * qq (pp (rc (offL a)) j) (a.length - j) ≤ wW (rc (offL a)) a.length j at hq
  have hq0 : 0 ≤ qq (pp (rc (offL a)) j) (a.length - j) := by
    rw [qq_w]; exact sm_nn fun j _ => Rat.mul_nonneg (natN _) (pp_nn _ _ _)
  have hm : ((a.length - j : Nat) : Rat) ≤ 29 := by have := h.l29; exact_mod_cast (show a.length - j ≤ 29 by omega)
  have hm0 : (0 : Rat) ≤ ((a.length - j : Nat) : Rat) := natN _
  have hU := uU_pos .f32
  have hU2 := uU_small
  have hup := uu_pos
  have key : (1 + 2 * ((a.length - j : Nat) : Rat) * uu) * (uu * qq (pp (rc (offL a)) j) (a.length - j) + ((a.length - j : Nat) : Rat) * uU .f32) ≤ gmm * wW (rc (offL a)) a.length j + tau := by
    generalize qq (pp (rc (offL a)) j) (a.length - j) = Q at *
    generalize wW (rc (offL a)) a.length j = W at *
    generalize ((a.length - j : Nat) : Rat) = M at *
    generalize uU .f32 = η at *
    have q1 : uu * Q + M * η ≤ uu * W / 2 + 29 * η := by
      have := Rat.mul_nonneg (show 0 ≤ 29 - M by grind) (Rat.le_of_lt hU)
      have := Rat.mul_nonneg (Rat.le_of_lt hup) (show 0 ≤ W - 2 * Q by grind)
      grind
    have q0 : 0 ≤ uu * Q + M * η := by
      have := Rat.mul_nonneg hm0 (Rat.le_of_lt hU)
      have := Rat.mul_nonneg (Rat.le_of_lt hup) hq0
      grind
    have q2 : 1 + 2 * M * uu ≤ 1 + 58 * uu := by
      have := Rat.mul_nonneg (show 0 ≤ 29 - M by grind) (Rat.le_of_lt hup)
      grind
    have q3 := Rat.mul_le_mul_of_nonneg_right q2 q0
    have q4 := Rat.mul_le_mul_of_nonneg_left q1 (show 0 ≤ 1 + 58 * uu by grind)
    unfold gmm tau
    have e : (1 + 58 * uu) * (uu * W / 2 + 29 * η) = (1 + 58 * uu) * uu / 2 * W + (1 + 58 * uu) * (29 * η) := by grind
    rw [e] at q4
    have : (1 + 58 * uu) * (29 * η) ≤ 30 * η := by unfold uu; grind
    grind
  have hdk : dk (rc (offL a)) a.length j = sm (fun i => rc (offL a) i * rc (offL a) (i + j)) (a.length - j) := rfl
  rw [hdk]
  constructor <;> grind
theorem W_le {a : List Nat} {k : Nat → Int} (h : Ser a k) (c : Nat → Rat) (j : Nat) : 0 ≤ wW c a.length j ∧ wW c a.length j ≤ 60 * dk c a.length 0 := by
  refine ⟨wW_nn _ _ _, ?_⟩
  unfold wW
  rw [dk0, ← sm_mul]
  refine sm_le fun i hi => ?_
  have hw : (wD a.length j i : Rat) ≤ 60 := by
    have : wD a.length j i ≤ 60 := by have := h.l29; unfold wD; split <;> omega
    exact_mod_cast this
  exact Rat.mul_le_mul_of_nonneg_right hw (mulself_nn _)
theorem w2_sum {c : Nat → Rat} {n : Nat} (hz : ∀ i, n ≤ i → c i = 0) (hN : n ≤ 29) :
    1099511627776 * (3 * wW c n 0 + 4 * wW c n 1 + wW c n 2 + 120 * dk c n 0) ≤ sm (fun m => (w2I 29 m : Rat) * (c m * c m)) 29 := by
  have h := sm_split (fun m => (w2I 29 m : Rat) * (c m * c m)) n (29 - n)
  rw [show n + (29 - n) = 29 by omega] at h
  rw [h, sm_zero (n := 29 - n) (fun i hi => by rw [hz (i + n) (by omega)]; simp), Rat.add_zero]
  unfold wW
  rw [dk0, ← sm_mul, ← sm_mul, ← sm_mul, ← sm_add, ← sm_add, ← sm_add, ← sm_mul]
  refine sm_le fun m hm => ?_
  have hw : 1099511627776 * (3 * (wD n 0 m : Rat) + 4 * (wD n 1 m : Rat) + (wD n 2 m : Rat) + 120) ≤ (w2I 29 m : Rat) := by
    unfold w2I
    rw [if_pos (by omega)]
    have m0 := natM (wD_mono hN 0 m)
    have m1 := natM (wD_mono hN 1 m)
    have m2 := natM (wD_mono hN 2 m)
    simp only [Rat.intCast_add, Rat.intCast_mul, Rat.intCast_ofNat, Rat.intCast_natCast, Rat.natCast_add, Rat.natCast_mul, Rat.natCast_ofNat]
    grind
  have := Rat.mul_le_mul_of_nonneg_right hw (mulself_nn (c m))
  grind
theorem form2 {c : Nat → Rat} {n : Nat} (hz : ∀ i, n ≤ i → c i = 0) (hN : n ≤ 29) {f : Q5} (hr : runQ (fsF (fun j => mkP f (w2I 29 j)) 33 0) sV0 = true) :
    1099511627776 * (3 * wW c n 0 + 4 * wW c n 1 + wW c n 2 + 120 * dk c n 0) ≤ smQ f c 29 := by
  have hf := formP (n := 29) (by decide) (w := w2I 29) hr c
  rw [yw_sum c (fun m => (w2I 29 m : Rat))] at hf
  have := w2_sum hz hN
  grind
theorem pos_rgH : (rgH.all fun p => decide (0 < p.2)) = true := by decide
theorem chH : chn (-2064) rgH 2064 = true := by decide
theorem form_h {c : Nat → Rat} {n : Nat} (hz : ∀ i, n ≤ i → c i = 0) (hN : n ≤ 29) {t : Rat} (ht : Ab t 2) :
    uu * (3 * wW c n 0 + 4 * wW c n 1 + wW c n 2 + 120 * dk c n 0) ≤ (2 + t * t) * dk c n 0 - 4 * t * dk c n 1 + 2 * dk c n 2 := by
  obtain ⟨p, pm, p1, p2⟩ := chn_cov chH (1024 * t) (by have := ht.2; rw [show ((-2064 : Int) : Rat) = -2064 from rfl]; grind) (by have := ht.1; rw [show ((2064 : Int) : Rat) = 2064 from rfl]; grind)
  have hok := List.all_eq_true.1 certH p pm
  have hd := of_decide_eq_true (List.all_eq_true.1 pos_rgH p pm)
  unfold okH at hok
  simp only [Bool.and_eq_true] at hok
  have f1 := form2 hz hN hok.1
  have f2 := form2 hz hN hok.2
  have hD0 : 0 ≤ dk c n 0 := by rw [dk0]; exact sm_nn fun j _ => mulself_nn _
  have hdR : (0 : Rat) < (p.2 : Rat) := by exact_mod_cast hd
  rw [Rat.intCast_sub] at p1
  rw [Rat.intCast_add] at p2
  unfold smQ f2h at f1 f2
  rw [dk_pad hz hN, dk_pad hz hN, dk_pad hz hN, dk_pad hz hN, dk_pad hz hN] at f1 f2
  simp only [Rat.intCast_add, Rat.intCast_sub, Rat.intCast_mul, Rat.intCast_neg, Rat.intCast_ofNat] at f1 f2
  generalize 3 * wW c n 0 + 4 * wW c n 1 + wW c n 2 + 120 * dk c n 0 = W at *
  generalize dk c n 0 = D0 at *
  generalize dk c n 1 = D1 at *
  generalize dk c n 2 = D2 at *
  generalize dk c n 3 = D3 at *
  generalize dk c n 4 = D4 at *
  generalize (p.2 : Rat) = d at *
  generalize hG : (p.1 : Rat) = G at *
  obtain ⟨s, hs⟩ : ∃ s, 1024 * t = G + s := ⟨1024 * t - G, by grind⟩
  have a1 := Rat.mul_le_mul_of_nonneg_left f1 (show 0 ≤ d + s by grind)
  have a2 := Rat.mul_le_mul_of_nonneg_left f2 (show 0 ≤ d - s by grind)
  have a3 := Rat.mul_nonneg (Rat.mul_nonneg (Rat.le_of_lt hdR) (mulself_nn s)) hD0
  have e : t = (G + s) / 1024 := by grind
  refine Rat.le_of_mul_le_mul_left (c := d) ?_ hdR
  rw [e]
  unfold uu
  grind

end Go.Proofs.Ytpdnjcblkjjegaa

