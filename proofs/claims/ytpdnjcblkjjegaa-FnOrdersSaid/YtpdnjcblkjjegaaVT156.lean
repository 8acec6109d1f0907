import Derived.Test.YtpdnjcblkjjegaaVT154
set_option linter.unusedVariables false
set_option linter.unusedSimpArgs false
set_option maxRecDepth 20000
set_option maxHeartbeats 8000000
namespace Go.Proofs.Ytpdnjcblkjjegaa
open Go.Aw
attribute [local irreducible] QRun LexD TCall TMut fop fint fcmp fconv gI gP gE gS gT gB gOk gF gV absF MX famR hid but

/-! ### the program's elimination: k by k -/
def ToS (α : List (Nat × AV)) (l : List (Nat × Blk)) (fm : Hp) (ρ : Fr) (η : Hp) : Prop := ∃ π, wkF π ρ α ∧ (∀ i B, ovH (lkH l) fm i = some B → BTo π η (ovH (lkH l) fm) i B) ∧ ∀ i j, (ovH (lkH l) fm i).isSome → (ovH (lkH l) fm j).isSome → π i = π j → i = j
/-- whatever way the first part goes: behind it the state is told as 'α', 'l', 'fm' -/
theorem awp_join {P : Program} {N : Nat} {Q : Exit → Fr → Hp → Prop} {ρ : Fr} {η : Hp} {c d : Code} (α : List (Nat × AV)) (l : List (Nat × Blk)) (fm : Hp) (h1 : AWp P N c (thenA (ToS α l fm) Q) ρ η) (h2 : AWp P N d Q (lkF α) (ovH (lkH l) fm)) : AWp P N (.seq c d) Q ρ η :=
  awp_sq (awp_mono h1 fun e ρ' η' q => by
    cases e with
    | normal => obtain ⟨π, a, b, i⟩ := q; exact awp_weakN π α _ a b i h2
    | _ => exact q)
theorem HX_set {n len k a : Nat} {f : Nat → Nat} (hk : k < n) : (HX n len f).set k (.own a 0 len) = HX n len (up f k a) := by
  unfold HX up
  refine List.ext_getElem (by simp) fun i h1 h2 => ?_
  simp only [List.length_set, List.length_map, List.length_range] at h1
  rw [List.getElem_set]
  by_cases h : k = i
  · subst h; simp
  · simp [h, Ne.symm h]
theorem gRow_sw (n : Nat) (A : Mx) (k p t : Nat) : gRow n (gS A k p) t = gRow n A (if t = k then p else if t = p then k else t) := by
  unfold gRow gS
  refine List.map_congr_left fun c _ => ?_
  split
  · rfl
  · split <;> rfl
theorem gW_def (n : Nat) (A : Mx) (k : Nat) : gW n A k = gS A k (gP A k (n - k)) := rfl
theorem upup (f : Nat → Nat) (k a c : Nat) : up (up f k a) k c = up f k c := by
  funext t; unfold up; split <;> rfl
theorem up_swap {b k t : Nat} (hbk : b ≠ k) : up (up (up (up (hid 26) b 500) k 501) k 500) b 501 t = one (hid 26 b) 501 (up (hid 26) k 500 t) := by
  by_cases h : t = b
  · subst h; rw [up_eq, up_ne hbk, one_eq]
  · rw [up_ne h]
    by_cases h2 : t = k
    · subst h2; rw [up_eq, up_eq, one_ne (Ne.symm (hid_nei 500 rfl b))]
    · rw [up_ne h2, up_ne h2, up_ne h, up_ne h2, one_ne fun he => h (hid_inj he)]
theorem good_up3 {b k n : Nat} (t : Nat) (_ : t < n) : bigN ≤ up (up (up (up (hid 26) b 500) k 501) k 500) b 501 t ∨ up (up (up (up (hid 26) b 500) k 501) k 500) b 501 t ∈ [500, 501] := by
  unfold up; split
  · exact .inr (by simp)
  · split
    · exact .inr (by simp)
    · exact .inl (hid_big 26 t)
theorem gW_kk (n : Nat) (A : Mx) (k c : Nat) : gW n A k k c = A (gP A k (n - k)) c := by unfold gW gS; rw [if_pos rfl]
theorem gOk_noV {n : Nat} {M : Mx} {k : Nat} (h : fcmp .gtr .f32 (absF (gI n M k (gP (gI n M k) k (n - k)) k)) 897988541 = false) : gOk n M (k + 1) = false := by
  rw [gOk_S, gV_def, h]; simp
theorem gF_all {n : Nat} {M : Mx} (h : ∀ r, r < n → (gRow n M r).all fin = true) : gF n M = true := by
  rw [gF_def]; exact List.all_eq_true.2 fun r hr => h r (List.mem_range.1 hr)
theorem gEr_lt {n k r0 r : Nat} {B : Mx} (h : r < r0) : gRow n (gEr B k r0) r = gRow n (gE B k) r := by
  unfold gRow gEr; refine List.map_congr_left fun c _ => ?_
  rw [if_pos h]
theorem gEr_ge {n k r0 r : Nat} {B : Mx} (h : r0 ≤ r) : gRow n (gEr B k r0) r = gRow n B r := by
  unfold gRow gEr; refine List.map_congr_left fun c _ => ?_
  rw [if_neg (by omega)]
theorem gE_le {n k r : Nat} {B : Mx} (h : r ≤ k) : gRow n (gE B k) r = gRow n B r := by
  unfold gRow gE; refine List.map_congr_left fun c _ => ?_
  rw [if_neg (by omega)]
theorem gErc_row0 (n k r : Nat) (B : Mx) : gRow n (gErc B k r (k + 1)) r = gRow n B r := by rw [gErc_0]; exact gEr_ge (Nat.le_refl r)
theorem gErc_rowN (n k r : Nat) (B : Mx) : gRow n (gErc B k r (n + 1)) r = gRow n (gE B k) r := by
  unfold gRow gErc; refine List.map_congr_left fun c hc => ?_
  have := List.mem_range.1 hc
  rw [if_neg (Nat.lt_irrefl r), if_pos ⟨rfl, this⟩]
theorem gErc_at {k r c : Nat} {B : Mx} : gErc B k r c r c = B r c := by
  unfold gErc; rw [if_neg (Nat.lt_irrefl r), if_neg (fun h => Nat.lt_irrefl c h.2)]
theorem gErc_set {n k r c : Nat} {B : Mx} (hk : k < r) (hc : k < c) (hn : c ≤ n) : (gRow n (gErc B k r c) r).set c (fop .sub .f32 (B r c) (fop .mul .f32 (fop .quo .f32 (B r k) (B k k)) (B k c))) = gRow n (gErc B k r (c + 1)) r := by
  rw [← gErc_up hk hc]
  unfold gRow
  refine List.ext_getElem (by simp) fun i h1 h2 => ?_
  simp only [List.length_set, List.length_map, List.length_range] at h1
  rw [List.getElem_set]
  by_cases h : c = i
  · subst h; simp [upM]
  · simp [h, upM, Ne.symm h]
theorem gF_E {n k : Nat} {B : Mx} (h0 : gF n B = true) (h : ∀ r, k < r → r < n → (gRow n (gE B k) r).all fin = true) : gF n (gE B k) = true := gF_all fun r hr => by
  by_cases hk : k < r
  · exact h r hk hr
  · rw [gE_le (by omega)]; rw [gF_def] at h0; exact List.all_eq_true.1 h0 r (List.mem_range.2 hr)
theorem gEr_step {n k r t : Nat} {B : Mx} (h : t ≠ r) : gRow n (gEr B k r) t = gRow n (gEr B k (r + 1)) t := by
  rcases Nat.lt_or_ge t r with h1 | h1
  · rw [gEr_lt h1, gEr_lt (by omega)]
  · rw [gEr_ge h1, gEr_ge (by omega)]
theorem own_un2 (i a o n : Nat) : AV.own 26 o n = ren (one (hid 26 i) a) (.own 26 o n) := by
  show _ = AV.own (one (hid 26 i) a 26) o n
  rw [one_ne (Ne.symm (hid_nei 26 rfl i))]
theorem own_z {id l l' m : Nat} (h : l = l') : AV.own id l m = AV.own id l' m := by rw [h]
theorem fam_un2 {η0 : Hp} {ef n a i : Nat} {R R' : Nat → List Nat} {p p' : Nat → Bool} (h0 : ovH η0 (famR ef n R p) a = some (.sl ef (.fl (R' i)))) (hp : ∀ t, t < n → t ≠ i → p' t = true → p t = true ∧ R t = R' t) (t : Nat) (ht : t < n) (h : p' t = true) : ovH η0 (famR ef n R p) (one (hid 26 i) a (hid 26 t)) = some (.sl ef (.fl (R' t))) := by
  by_cases he : t = i
  · subst he; rw [one_eq]; exact h0
  · rw [one_ne fun hc => he (hid_inj hc), ← (hp t ht he h).2]; exact ov_at ht (hp t ht he h).1
attribute [local irreducible] AWp HX gRow up gW gEr gErc
theorem cf_4 {n : Nat} {M : Mx} {F : List Nat × Bool} (h1 : 1 ≤ n) (hn : n ≤ 6) (hno : ∀ k, k ≤ n → gOk n M k = false → F = ([], false)) (hyes : gOk n M n = true → F = ifAllF (gB n (gI n M n) n)) :
    AWp Try.prog Try.f103.ntmps (tlF Try.f103 4) (RetQ Try.prog Try.f103 (cfR F) (cfH F)) (lkF [(6, .t (.v (.int .i64 (n : Nat)))), (7, .own 26 0 n)])
      (ovH (lkH [(26, .nest 24 (HX n (n + 1) (hid 26)) [] noRem)]) (famR 30 n (gRow n M) allB)) := by
  have hfm0 := famR_ok 30 n (gRow n M) allB
  refine V2 ?_
  refine awp_loopN (X := Nat) (fun k => k ≤ n ∧ (k ≠ 0 → gOk n M k = true)) (fun k => [(6, .t (.v (.int .i64 (n : Nat)))), (7, .own 26 0 n), (57, .t (.v (.int .i64 (n : Nat)))), (58, .t (.v (.int .i64 (k : Nat))))])
    (fun k => ovH (lkH [(26, .nest 24 (HX n (n + 1) (hid 26)) [] noRem)]) (famR 30 n (gRow n (gI n M k)) allB)) (fun k => n - k)
    0 (famN_of (H := fun _ => [(26, .nest 24 (HX n (n + 1) (hid 26)) [] noRem)]) (fm := fun k => famR 30 n (gRow n (gI n M k)) allB) 0 (fun i => i) ⟨by omega, fun h => absurd rfl h⟩ ⟨rfl, rfl, rfl, rfl, trivial⟩ ⟨HX_bto rfl good_hid (fun _ _ => rfl), trivial⟩ (fam_bto fun t ht hp => by rw [gI_0]; exact ov_at ht hp) (fun _ _ _ _ h => h)) (fun k hk => ?_)
  obtain ⟨hk, hok⟩ := hk
  generalize hA : gI n M k = A at *
  have hfm1 := famR_ok 30 n (gRow n A) allB
  refine V2 ?_
  refine awp_cond (b := _) rfl (fun h => ?_) (fun h => ?_)
  · simp only [icmp, decide_eq_true_eq] at h
    have hkn : k < n := by omega
    refine V2 ?_
    refine awp_loopN (X := Nat) (fun m => k + m ≤ n ∧ ∀ r, r < m → (gRow n A (k + r)).all fin = true) (fun m => [(6, .t (.v (.int .i64 (n : Nat)))), (7, .own 26 0 n), (13, .t (.v (.int .i64 (k : Nat)))), (14, .t (.v (.int .i64 (gP A k m : Nat)))), (15, .t (.v (.int .i64 (k + m : Nat)))), (57, .t (.v (.int .i64 (n : Nat)))), (58, .t (.v (.int .i64 (k : Nat))))])
      (fun m => ovH (lkH [(500, .sl 30 (.fl (gRow n A (gP A k m)))), (26, .nest 24 (HX n (n + 1) (up (hid 26) (gP A k m) 500)) [500] noRem)]) (famR 30 n (gRow n A) (but allB (gP A k m)))) (fun m => n - m)
      0 (famN_of (H := fun m => [(500, .sl 30 (.fl (gRow n A (gP A k m)))), (26, .nest 24 (HX n (n + 1) (up (hid 26) (gP A k m) 500)) [500] noRem)]) (fm := fun m => famR 30 n (gRow n A) (but allB (gP A k m))) 0 (one 500 (hid 26 (gP A k 0))) ⟨by omega, fun r hr => by omega⟩
        ⟨rfl, rfl, rfl, iE9' (by rw [show gP A k 0 = k from gP_z A k]), rfl, rfl, rfl, trivial⟩
        ⟨.inl (ov_at (by rw [gP_z]; exact hkn) rfl), HX_bto rfl good_hid (fun t _ => up_pi rfl (hid_nei 500 rfl) t), trivial⟩ (fam_bto (fam_fo rfl fun t h => but_le h)) (inj_one (ov_no (but_eq _ _)))) (fun m hm => ?_)
    obtain ⟨hm, hfin⟩ := hm
    generalize hb : gP A k m = b at *
    have hfm2 := famR_ok 30 n (gRow n A) (but allB b)
    refine V2 ?_
    refine awp_cond (b := _) rfl (fun h2 => ?_) (fun h2 => ?_)
    ·
      -- [[
      simp only [icmp, decide_eq_true_eq] at h2
      have hin : k + m < n := by omega
      have hgl := gRow_len n A
      have hkl : k ≤ n := by omega
      have hgk := fun r => gRow_get (M := A) (r := r) hkl
      have hbad : (gRow n A (k + m)).all fin = false → F = ([], false) := fun hf => by
        have hgf := gF_row hin hf
        by_cases h0 : k = 0
        · subst h0; exact hno 0 (by omega) (by rw [gOk_z, ← gI_0 n M, hA]; exact hgf)
        · have := gOk_F (hok h0)
          rw [hA, hgf] at this; cases this
      by_cases hm0 : m = 0
      · subst hm0
        obtain rfl : b = k := by rw [← hb, gP_z]
        have hgb := hgl b
        have hcell2 : (HX n (n + 1) (up (hid 26) b 500))[b]? = some (.own 500 0 (n + 1)) := by rw [HX_get hkn, up_eq]
        have hcell : (HX n (n + 1) (up (hid 26) b 500))[b + 0]? = some (.own 500 0 (n + 1)) := by rw [HX_get hin, Nat.add_zero, up_eq]
        refine V2 ?_
        (first | (refine kw_r (q_load_nest (off := 0 + (b + 0)) (by rw [Nat.zero_add]; exact hcell) (HX_good good_up) tyOk rfl rfl rfl rfl rfl rfl rfl) (h := ?_)) | (refine ky_r (q_load_nest (off := 0 + (b + 0)) (by rw [Nat.zero_add]; exact hcell) (HX_good good_up) tyOk rfl rfl rfl rfl rfl rfl rfl) (h := ?_)))
        refine V2 ?_
        (first | (refine kc_q (areFinite_c (gRow n A b) (by rw [hgl]; omega)) (h := ?_)) | (refine kz_q (areFinite_c (gRow n A b) (by rw [hgl]; omega)) (h := ?_)))
        refine V2 ?_
        refine awp_cond (b := _) rfl (fun h3 => ?_) (fun h3 => ?_)
        · simp only [Bool.not_eq_true'] at h3
          rw [hbad h3]
          refine V2 ?_
          (refine u_1 ?_; (repeat' (first | exact RetRelL.nil | refine RetRel.nil rfl ?_ | refine RetRelL.cons ?_ ?_ | refine rr_tup ?_ | refine rr_agg ?_ | refine rr_own rfl ?_ | exact RetRel.arg | exact RetRel.argc | refine rr_t ?_)); all_goals rfl)
        simp only [Bool.not_eq_false'] at h3
        refine u_s ?_
        refine V2 ?_
        (first | (refine kw_r (q_load_nest (off := 0 + (b + 0)) (by rw [Nat.zero_add]; exact hcell) (HX_good good_up) tyOk rfl rfl rfl rfl rfl rfl rfl) (h := ?_)) | (refine ky_r (q_load_nest (off := 0 + (b + 0)) (by rw [Nat.zero_add]; exact hcell) (HX_good good_up) tyOk rfl rfl rfl rfl rfl rfl rfl) (h := ?_)))
        refine V2 ?_
        try (first | (refine kw_r (q_idx_own (b) tyOk rfl rfl rfl rfl rfl rfl rfl (by omega) (by first | omega | (simp only [T.len]; omega) | assumption)) (h := ?_)) | (refine ky_r (q_idx_own (b) tyOk rfl rfl rfl rfl rfl rfl rfl (by omega) (by first | omega | (simp only [T.len]; omega) | assumption)) (h := ?_)))
        refine V2 ?_
        (first | refine kc_q (absolute_c _) (h := ?_) | refine kz_q (absolute_c _) (h := ?_))
        refine V2 ?_
        (first | (refine kw_r (q_load_nest (off := 0 + b) (by rw [Nat.zero_add]; exact hcell2) (HX_good good_up) tyOk rfl rfl rfl rfl rfl rfl rfl) (h := ?_)) | (refine ky_r (q_load_nest (off := 0 + b) (by rw [Nat.zero_add]; exact hcell2) (HX_good good_up) tyOk rfl rfl rfl rfl rfl rfl rfl) (h := ?_)))
        refine V2 ?_
        try (first | (refine kw_r (q_idx_own (b) tyOk rfl rfl rfl rfl rfl rfl rfl (by omega) (by first | omega | (simp only [T.len]; omega) | assumption)) (h := ?_)) | (refine ky_r (q_idx_own (b) tyOk rfl rfl rfl rfl rfl rfl rfl (by omega) (by first | omega | (simp only [T.len]; omega) | assumption)) (h := ?_)))
        refine V2 ?_
        (first | refine kc_q (absolute_c _) (h := ?_) | refine kz_q (absolute_c _) (h := ?_))
        refine V2 ?_
        refine awp_cond (b := _) rfl (fun h4 => ?_) (fun h4 => ?_)
        · rw [gtr_self] at h4; cases h4
        refine u_s ?_
        refine V2 ?_
        have e1 : gP A b (0 + 1) = b := gP_one A b
        exact ⟨0 + 1, by omega, famN_of (H := fun m => [(500, .sl 30 (.fl (gRow n A (gP A b m)))), (26, .nest 24 (HX n (n + 1) (up (hid 26) (gP A b m) 500)) [500] noRem)]) (fm := fun m => famR 30 n (gRow n A) (but allB (gP A b m))) (0 + 1) (fun i => i) ⟨by omega, fun r hr => by (have e0 : r = 0 := by omega); subst e0; exact h3⟩
          ⟨rfl, rfl, rfl, iE9' (by rw [e1]), iE9' (by omega), rfl, rfl, trivial⟩ ⟨.inl (by rw [e1]; rfl), HX_bto rfl good_up (fun t _ => by rw [e1]), trivial⟩ (fam_bto fun t ht hp => ov_at ht (by rw [← e1]; exact hp)) (fun _ _ _ _ h => h)⟩
      have hbn : b < k + m := by
        rcases gP_lt A k m with h | h
        · rw [← hb]; exact h
        · rw [← hb]; omega
      have hib : k + m ≠ b := by omega
      have hbk : k ≤ b := by rw [← hb]; exact gP_ge A k m
      have hi501 : up (hid 26) b 500 (k + m) = hid 26 (k + m) := up_ne hib
      refine awp_re (one 501 (hid 26 (k + m))) [(6, .t (.v (.int .i64 (n : Nat)))), (7, .own 26 0 n), (13, .t (.v (.int .i64 (k : Nat)))), (14, .t (.v (.int .i64 (b : Nat)))), (15, .t (.v (.int .i64 (k + m : Nat)))), (57, .t (.v (.int .i64 (n : Nat)))), (58, .t (.v (.int .i64 (k : Nat))))]
        [(501, .sl 30 (.fl (gRow n A (k + m)))), (500, .sl 30 (.fl (gRow n A b))), (26, .nest 24 (HX n (n + 1) (up (up (hid 26) b 500) (k + m) 501)) [500, 501] noRem)] (famR 30 n (gRow n A) (but (but allB b) (k + m)))
        ⟨rfl, rfl, rfl, rfl, rfl, rfl, rfl, trivial⟩ ⟨.inl (ov_at hin (but_of hib rfl)), .inl rfl, HX_bto rfl good_up (fun t _ => up_pi hi501.symm (up_nei rfl (by decide)) t), trivial⟩ (fam_bto (fam_fo rfl fun t h => but_le h)) (inj_one (ov_no (but_eq _ _))) ?_
      have hfm3 := famR_ok 30 n (gRow n A) (but (but allB b) (k + m))
      have hgb := hgl b
      have hgi := hgl (k + m)
      have hcell2 : (HX n (n + 1) (up (up (hid 26) b 500) (k + m) 501))[b]? = some (.own 500 0 (n + 1)) := by rw [HX_get (by omega), up_ne (by omega), up_eq]
      have hcell : (HX n (n + 1) (up (up (hid 26) b 500) (k + m) 501))[k + m]? = some (.own 501 0 (n + 1)) := by rw [HX_get hin, up_eq]
      refine V2 ?_
      (first | (refine kw_r (q_load_nest (off := 0 + (k + m)) (by rw [Nat.zero_add]; exact hcell) (HX_good good_up2) tyOk rfl rfl rfl rfl rfl rfl rfl) (h := ?_)) | (refine ky_r (q_load_nest (off := 0 + (k + m)) (by rw [Nat.zero_add]; exact hcell) (HX_good good_up2) tyOk rfl rfl rfl rfl rfl rfl rfl) (h := ?_)))
      refine V2 ?_
      (first | (refine kc_q (areFinite_c (gRow n A (k + m)) (by rw [hgl]; omega)) (h := ?_)) | (refine kz_q (areFinite_c (gRow n A (k + m)) (by rw [hgl]; omega)) (h := ?_)))
      refine V2 ?_
      refine awp_cond (b := _) rfl (fun h3 => ?_) (fun h3 => ?_)
      · simp only [Bool.not_eq_true'] at h3
        rw [hbad h3]
        refine V2 ?_
        (refine u_1 ?_; (repeat' (first | exact RetRelL.nil | refine RetRel.nil rfl ?_ | refine RetRelL.cons ?_ ?_ | refine rr_tup ?_ | refine rr_agg ?_ | refine rr_own rfl ?_ | exact RetRel.arg | exact RetRel.argc | refine rr_t ?_)); all_goals rfl)
      simp only [Bool.not_eq_false'] at h3
      refine u_s ?_
      refine V2 ?_
      (first | (refine kw_r (q_load_nest (off := 0 + (k + m)) (by rw [Nat.zero_add]; exact hcell) (HX_good good_up2) tyOk rfl rfl rfl rfl rfl rfl rfl) (h := ?_)) | (refine ky_r (q_load_nest (off := 0 + (k + m)) (by rw [Nat.zero_add]; exact hcell) (HX_good good_up2) tyOk rfl rfl rfl rfl rfl rfl rfl) (h := ?_)))
      refine V2 ?_
      try (first | (refine kw_r (q_idx_own (k) tyOk rfl rfl rfl rfl rfl rfl rfl (by omega) (by first | omega | (simp only [T.len]; omega) | assumption)) (h := ?_)) | (refine ky_r (q_idx_own (k) tyOk rfl rfl rfl rfl rfl rfl rfl (by omega) (by first | omega | (simp only [T.len]; omega) | assumption)) (h := ?_)))
      refine V2 ?_
      (first | refine kc_q (absolute_c _) (h := ?_) | refine kz_q (absolute_c _) (h := ?_))
      refine V2 ?_
      (first | (refine kw_r (q_load_nest (off := 0 + b) (by rw [Nat.zero_add]; exact hcell2) (HX_good good_up2) tyOk rfl rfl rfl rfl rfl rfl rfl) (h := ?_)) | (refine ky_r (q_load_nest (off := 0 + b) (by rw [Nat.zero_add]; exact hcell2) (HX_good good_up2) tyOk rfl rfl rfl rfl rfl rfl rfl) (h := ?_)))
      refine V2 ?_
      try (first | (refine kw_r (q_idx_own (k) tyOk rfl rfl rfl rfl rfl rfl rfl (by omega) (by first | omega | (simp only [T.len]; omega) | assumption)) (h := ?_)) | (refine ky_r (q_idx_own (k) tyOk rfl rfl rfl rfl rfl rfl rfl (by omega) (by first | omega | (simp only [T.len]; omega) | assumption)) (h := ?_)))
      refine V2 ?_
      (first | refine kc_q (absolute_c _) (h := ?_) | refine kz_q (absolute_c _) (h := ?_))
      refine V2 ?_
      refine awp_cond (b := _) rfl (fun h4 => ?_) (fun h4 => ?_)
      · rw [Nat.zero_add, hgk, hgk] at h4
        have e1 : gP A k (m + 1) = k + m := by rw [gP_S, hb, if_pos h4]
        refine awp_re (one (hid 26 b) 500) [(6, .t (.v (.int .i64 (n : Nat)))), (7, .own 26 0 n), (13, .t (.v (.int .i64 (k : Nat)))), (14, .t (.v (.int .i64 (b : Nat)))), (15, .t (.v (.int .i64 (k + m : Nat)))), (57, .t (.v (.int .i64 (n : Nat)))), (58, .t (.v (.int .i64 (k : Nat))))]
          [(501, .sl 30 (.fl (gRow n A (k + m)))), (26, .nest 24 (HX n (n + 1) (up (hid 26) (k + m) 501)) [501] noRem)] (famR 30 n (gRow n A) (but allB (k + m)))
          ⟨rfl, own_un _ _ _, rfl, rfl, rfl, rfl, rfl, trivial⟩ ⟨.inl (sm_un rfl rfl), HX_bto (sm_un rfl rfl) good_up2 (fun t _ => up_sw hib rfl t), trivial⟩ (fam_bto (fam_un rfl fun t h1 h2 => ⟨by rw [but_ne (fun he => by rw [he, but_eq] at h2; cases h2), but_ne h1]; rfl, rfl⟩)) (inj_one (ov_sm rfl rfl)) ?_
        have hfm4 := famR_ok 30 n (gRow n A) (but allB (k + m))
        refine awp_re (one 500 501) [(6, .t (.v (.int .i64 (n : Nat)))), (7, .own 26 0 n), (13, .t (.v (.int .i64 (k : Nat)))), (14, .t (.v (.int .i64 (b : Nat)))), (15, .t (.v (.int .i64 (k + m : Nat)))), (57, .t (.v (.int .i64 (n : Nat)))), (58, .t (.v (.int .i64 (k : Nat))))]
          [(500, .sl 30 (.fl (gRow n A (k + m)))), (26, .nest 24 (HX n (n + 1) (up (hid 26) (k + m) 500)) [500] noRem)] (famR 30 n (gRow n A) (but allB (k + m)))
          ⟨rfl, rfl, rfl, rfl, rfl, rfl, rfl, trivial⟩ ⟨.inl rfl, HX_bto rfl good_up (fun t _ => up_rn rfl t), trivial⟩ (fam_bto (fam_fo rfl fun t h => h)) (inj_one (ov_sm rfl rfl)) ?_
        refine V2 ?_
        exact ⟨m + 1, by omega, famN_of (H := fun m => [(500, .sl 30 (.fl (gRow n A (gP A k m)))), (26, .nest 24 (HX n (n + 1) (up (hid 26) (gP A k m) 500)) [500] noRem)]) (fm := fun m => famR 30 n (gRow n A) (but allB (gP A k m))) (m + 1) (fun i => i) ⟨by omega, fun r hr => (Nat.lt_or_eq_of_le (Nat.le_of_lt_succ hr)).elim (fun h => hfin r h) (fun h => by rw [h]; exact h3)⟩
          ⟨rfl, rfl, rfl, iE9' (by rw [e1]), iE9' (by omega), rfl, rfl, trivial⟩ ⟨.inl (by rw [e1]; rfl), HX_bto rfl good_up (fun t _ => by rw [e1]), trivial⟩ (fam_bto fun t ht hp => ov_at ht (by rw [← e1]; exact hp)) (fun _ _ _ _ h => h)⟩
      · rw [Nat.zero_add, hgk, hgk] at h4
        have e1 : gP A k (m + 1) = b := by rw [gP_S, hb, if_neg (by rw [h4]; decide)]
        refine awp_re (one (hid 26 (k + m)) 501) [(6, .t (.v (.int .i64 (n : Nat)))), (7, .own 26 0 n), (13, .t (.v (.int .i64 (k : Nat)))), (14, .t (.v (.int .i64 (b : Nat)))), (15, .t (.v (.int .i64 (k + m : Nat)))), (57, .t (.v (.int .i64 (n : Nat)))), (58, .t (.v (.int .i64 (k : Nat))))]
          [(500, .sl 30 (.fl (gRow n A b))), (26, .nest 24 (HX n (n + 1) (up (hid 26) b 500)) [500] noRem)] (famR 30 n (gRow n A) (but allB b))
          ⟨rfl, own_un _ _ _, rfl, rfl, rfl, rfl, rfl, trivial⟩ ⟨.inl (sm_un rfl rfl), HX_bto (sm_un rfl rfl) good_up2 (fun t _ => up_ip hi501.symm (up_inj rfl hib) t), trivial⟩ (fam_bto (fam_un rfl fun t h1 h2 => ⟨by rw [but_ne h1]; exact h2, rfl⟩)) (inj_one (ov_sm rfl rfl)) ?_
        refine u_s ?_
        refine V2 ?_
        exact ⟨m + 1, by omega, famN_of (H := fun m => [(500, .sl 30 (.fl (gRow n A (gP A k m)))), (26, .nest 24 (HX n (n + 1) (up (hid 26) (gP A k m) 500)) [500] noRem)]) (fm := fun m => famR 30 n (gRow n A) (but allB (gP A k m))) (m + 1) (fun i => i) ⟨by omega, fun r hr => (Nat.lt_or_eq_of_le (Nat.le_of_lt_succ hr)).elim (fun h => hfin r h) (fun h => by rw [h]; exact h3)⟩
          ⟨rfl, rfl, rfl, iE9' (by rw [e1]), iE9' (by omega), rfl, rfl, trivial⟩ ⟨.inl (by rw [e1]; rfl), HX_bto rfl good_up (fun t _ => by rw [e1]), trivial⟩ (fam_bto fun t ht hp => ov_at ht (by rw [← e1]; exact hp)) (fun _ _ _ _ h => h)⟩
      -- ]]
    simp only [icmp, decide_eq_false_iff_not] at h2
    have hnk : n - k = m := by omega
    have hbn : b < n := by
      rw [← hb, ← hnk]; exact gP_n hkn
    have hgl := gRow_len n A
    refine u_x ?_
    refine awp_join [(6, .t (.v (.int .i64 (n : Nat)))), (7, .own 26 0 n), (13, .t (.v (.int .i64 (k : Nat)))), (57, .t (.v (.int .i64 (n : Nat)))), (58, .t (.v (.int .i64 (k : Nat))))]
      [(500, .sl 30 (.fl (gRow n (gW n A k) k))), (26, .nest 24 (HX n (n + 1) (up (hid 26) k 500)) [500] noRem)] (famR 30 n (gRow n (gW n A k)) (but allB k)) ?_ ?_
    ·
      -- [[
      by_cases hbk : b = k
      · subst hbk
        have hW : ∀ t, gRow n (gW n A b) t = gRow n A t := fun t => by
          rw [gW_def, hnk, hb, gRow_sw]
          by_cases h : t = b
          · subst h; rw [if_pos rfl]
          · rw [if_neg h, if_neg h]
        have hcell : (HX n (n + 1) (up (hid 26) b 500))[b]? = some (.own 500 0 (n + 1)) := by rw [HX_get hkn, up_eq]
        refine V2 ?_
        (first | (refine kw_r (q_load_nest (off := 0 + b) (by rw [Nat.zero_add]; exact hcell) (HX_good good_up) tyOk rfl rfl rfl rfl rfl rfl rfl) (h := ?_)) | (refine ky_r (q_load_nest (off := 0 + b) (by rw [Nat.zero_add]; exact hcell) (HX_good good_up) tyOk rfl rfl rfl rfl rfl rfl rfl) (h := ?_)))
        refine V2 ?_
        (first | (refine kw_r (q_load_nest (off := 0 + b) (by rw [Nat.zero_add]; exact hcell) (HX_good good_up) tyOk rfl rfl rfl rfl rfl rfl rfl) (h := ?_)) | (refine ky_r (q_load_nest (off := 0 + b) (by rw [Nat.zero_add]; exact hcell) (HX_good good_up) tyOk rfl rfl rfl rfl rfl rfl rfl) (h := ?_)))
        refine V2 ?_
        refine ky_t (hq := q_store_nest (v := .own 500 0 (n + 1)) (by rw [HX_len]; omega) tyOk rfl rfl rfl rfl rfl rfl rfl rfl) (h := ?_)
        refine V2 ?_
        refine ky_t (hq := q_store_nest (v := .own 500 0 (n + 1)) (by rw [List.length_set, HX_len]; omega) tyOk rfl rfl rfl rfl rfl rfl rfl rfl) (h := ?_)
        rw [Nat.zero_add, HX_set hkn, HX_set hkn, upup, upup]
        refine V2 ?_
        exact ⟨fun i => i, ⟨rfl, rfl, rfl, rfl, rfl, trivial⟩, wkB_ov ⟨.inl (by rw [hW]; rfl), HX_bto rfl good_up (fun t _ => rfl), trivial⟩ (fam_bto fun t ht hp => by rw [hW]; exact ov_at ht hp), fun _ _ _ _ h => h⟩
      · have hkb : k ≠ b := fun h => hbk h.symm
        have hW : ∀ t, gRow n (gW n A k) t = gRow n A (if t = k then b else if t = b then k else t) := fun t => by rw [gW_def, hnk, hb, gRow_sw]
        have hWk : gRow n A b = gRow n (gW n A k) k := by rw [hW, if_pos rfl]
        have hWb : gRow n A k = gRow n (gW n A k) b := by rw [hW, if_neg hbk, if_pos rfl]
        refine awp_re (one 501 (hid 26 k)) [(6, .t (.v (.int .i64 (n : Nat)))), (7, .own 26 0 n), (13, .t (.v (.int .i64 (k : Nat)))), (14, .t (.v (.int .i64 (b : Nat)))), (57, .t (.v (.int .i64 (n : Nat)))), (58, .t (.v (.int .i64 (k : Nat))))]
          [(501, .sl 30 (.fl (gRow n A k))), (500, .sl 30 (.fl (gRow n A b))), (26, .nest 24 (HX n (n + 1) (up (up (hid 26) b 500) k 501)) [500, 501] noRem)] (famR 30 n (gRow n A) (but (but allB b) k))
          ⟨rfl, rfl, rfl, rfl, rfl, rfl, trivial⟩ ⟨.inl (ov_at hkn (but_of hkb rfl)), .inl rfl, HX_bto rfl good_up (fun t _ => up_pi (up_ne hkb).symm (up_nei rfl (by decide)) t), trivial⟩ (fam_bto (fam_fo rfl fun t h => but_le h)) (inj_one (ov_no (but_eq _ _))) ?_
        have hfm3 := famR_ok 30 n (gRow n A) (but (but allB b) k)
        have hcell2 : (HX n (n + 1) (up (up (hid 26) b 500) k 501))[b]? = some (.own 500 0 (n + 1)) := by rw [HX_get hbn, up_ne hbk, up_eq]
        have hcell : (HX n (n + 1) (up (up (hid 26) b 500) k 501))[k]? = some (.own 501 0 (n + 1)) := by rw [HX_get hkn, up_eq]
        refine V2 ?_
        (first | (refine kw_r (q_load_nest (off := 0 + b) (by rw [Nat.zero_add]; exact hcell2) (HX_good good_up2) tyOk rfl rfl rfl rfl rfl rfl rfl) (h := ?_)) | (refine ky_r (q_load_nest (off := 0 + b) (by rw [Nat.zero_add]; exact hcell2) (HX_good good_up2) tyOk rfl rfl rfl rfl rfl rfl rfl) (h := ?_)))
        refine V2 ?_
        (first | (refine kw_r (q_load_nest (off := 0 + k) (by rw [Nat.zero_add]; exact hcell) (HX_good good_up2) tyOk rfl rfl rfl rfl rfl rfl rfl) (h := ?_)) | (refine ky_r (q_load_nest (off := 0 + k) (by rw [Nat.zero_add]; exact hcell) (HX_good good_up2) tyOk rfl rfl rfl rfl rfl rfl rfl) (h := ?_)))
        refine V2 ?_
        refine ky_t (hq := q_store_nest (v := .own 500 0 (n + 1)) (by rw [HX_len]; omega) tyOk rfl rfl rfl rfl rfl rfl rfl rfl) (h := ?_)
        refine V2 ?_
        refine ky_t (hq := q_store_nest (v := .own 501 0 (n + 1)) (by rw [List.length_set, HX_len]; omega) tyOk rfl rfl rfl rfl rfl rfl rfl rfl) (h := ?_)
        rw [Nat.zero_add, Nat.zero_add, HX_set hkn, HX_set hbn]
        refine V2 ?_
        exact ⟨one (hid 26 b) 501, ⟨rfl, own_un _ _ _, rfl, rfl, rfl, trivial⟩, wkB_ov ⟨.inl (sm_un rfl (by rw [← hWk]; rfl)), HX_bto (sm_un rfl rfl) good_up3 (fun t _ => up_swap hbk), trivial⟩
          (fam_bto (fam_un (by rw [← hWb]; rfl) fun t h1 h2 => ⟨by rw [but_ne (fun he => by rw [he, but_eq] at h2; cases h2), but_ne h1]; rfl, by rw [hW, if_neg (fun he => by rw [he, but_eq] at h2; cases h2), if_neg h1]⟩)), inj_one (ov_sm rfl rfl)⟩
      -- ]]
    · have hokk : gOk n M k = true := by
        by_cases h0 : k = 0
        · subst h0
          rw [gOk_z, ← gI_0 n M, hA]
          exact gF_all fun r hr => by have := hfin r (by omega); rwa [Nat.zero_add] at this
        · exact hok h0
      have hkk := gW_kk n A k k
      have hnV := @gOk_noV n M k
      rw [hA] at hnV
      have hBl := gRow_len n (gW n A k)
      have hBg := gRow_get (M := gW n A k) (r := k) (show k ≤ n by omega)
      generalize hB : gW n A k = B at *
      have hfm5 := famR_ok 30 n (gRow n B) (but allB k)
      have hbk := hBl k
      have hcell : (HX n (n + 1) (up (hid 26) k 500))[k]? = some (.own 500 0 (n + 1)) := by rw [HX_get hkn, up_eq]
      refine V2 ?_
      (first | (refine kw_r (q_load_nest (off := 0 + k) (by rw [Nat.zero_add]; exact hcell) (HX_good good_up) tyOk rfl rfl rfl rfl rfl rfl rfl) (h := ?_)) | (refine ky_r (q_load_nest (off := 0 + k) (by rw [Nat.zero_add]; exact hcell) (HX_good good_up) tyOk rfl rfl rfl rfl rfl rfl rfl) (h := ?_)))
      refine V2 ?_
      try (first | (refine kw_r (q_idx_own (k) tyOk rfl rfl rfl rfl rfl rfl rfl (by omega) (by first | omega | (simp only [T.len]; omega) | assumption)) (h := ?_)) | (refine ky_r (q_idx_own (k) tyOk rfl rfl rfl rfl rfl rfl rfl (by omega) (by first | omega | (simp only [T.len]; omega) | assumption)) (h := ?_)))
      refine V2 ?_
      (first | refine kc_q (absolute_c _) (h := ?_) | refine kz_q (absolute_c _) (h := ?_))
      refine V2 ?_
      rw [Nat.zero_add, hBg, hkk]
      refine awp_cond (b := _) rfl (fun h4 => ?_) (fun h4 => ?_)
      · simp only [Bool.not_eq_true'] at h4
        rw [hno (k + 1) (by omega) (hnV h4)]
        refine V2 ?_
        (refine u_1 ?_; (repeat' (first | exact RetRelL.nil | refine RetRel.nil rfl ?_ | refine RetRelL.cons ?_ ?_ | refine rr_tup ?_ | refine rr_agg ?_ | refine rr_own rfl ?_ | exact RetRel.arg | exact RetRel.argc | refine rr_t ?_)); all_goals rfl)
      simp only [Bool.not_eq_false'] at h4
      have hnVt : gV n (gI n M k) k = true := by rw [gV_def, hA]; exact h4
      refine u_s ?_
      refine V2 ?_
      have hI : gI n M (k + 1) = gE B k := by rw [gI_S, hA, ← gW_def, hB]
      have hBF : gF n B = true := by rw [← hB, ← hA, gW_def]; exact gS_F hkn (gP_n hkn) (gOk_F hokk)
      by_cases hlast : k + 1 = n
      · have hk1 : ((k : Int) + 1) = ((n : Nat) : Int) := by omega
        (first | (refine kw_r (q_slice_end tyOk rfl rfl rfl rfl rfl rfl (by exact ⟨_, _, rfl, hk1⟩)) (h := ?_)) | (refine ky_r (q_slice_end tyOk rfl rfl rfl rfl rfl rfl (by exact ⟨_, _, rfl, hk1⟩)) (h := ?_)))
        refine V2 ?_
        refine awp_loopN (X := Nat) (fun _ => True) (fun _ => [(6, .t (.v (.int .i64 (n : Nat)))), (7, .own 26 0 n), (13, .t (.v (.int .i64 (k : Nat)))), (57, .t (.v (.int .i64 (n : Nat)))), (58, .t (.v (.int .i64 (k : Nat)))), (119, .t (.ffl [])), (120, .t (.v (.int .i64 (0 : Nat)))), (121, .t (.v (.int .i64 (0 : Nat))))])
          (fun _ => ovH (lkH [(500, .sl 30 (.fl (gRow n B k))), (26, .nest 24 (HX n (n + 1) (up (hid 26) k 500)) [500] noRem)]) (famR 30 n (gRow n B) (but allB k))) (fun _ => 0)
          0 (famN_of (H := fun _ => [(500, .sl 30 (.fl (gRow n B k))), (26, .nest 24 (HX n (n + 1) (up (hid 26) k 500)) [500] noRem)]) (fm := fun _ => famR 30 n (gRow n B) (but allB k)) 0 (fun i => i) trivial ⟨rfl, rfl, rfl, rfl, rfl, rfl, rfl, rfl, trivial⟩
            ⟨.inl rfl, HX_bto rfl good_up (fun t _ => rfl), trivial⟩ (fam_bto fun t ht hp => ov_at ht hp) (fun _ _ _ _ h => h)) (fun i _ => ?_)
        refine V2 ?_
        refine awp_cond (b := _) rfl (fun h5 => ?_) (fun h5 => ?_)
        · simp [icmp] at h5
        refine V2 ?_
        exact ⟨k + 1, by omega, famN_of (H := fun _ => [(26, .nest 24 (HX n (n + 1) (hid 26)) [] noRem)]) (fm := fun k => famR 30 n (gRow n (gI n M k)) allB) (k + 1) (one (hid 26 k) 500) ⟨by omega, fun _ => by rw [gOk_S, hokk, hnVt, hI, gF_E hBF (fun r h1 h2 => by omega)]; rfl⟩
          ⟨rfl, own_un _ _ _, rfl, iE9' (by omega), trivial⟩ ⟨HX_bto (sm_un rfl rfl) good_up (fun t _ => up_ip rfl (fun t h => hid_inj h) t), trivial⟩ (fam_bto (fam_un2 (by rw [hI, gE_le (Nat.le_refl k)]; rfl) fun t ht h1 _ => ⟨but_of h1 rfl, by rw [hI, gE_le (by omega)]⟩)) (inj_one (ov_sm rfl rfl))⟩
      · have hk1 : ((k : Int) + 1) = ((k + 1 : Nat) : Int) := by omega
        (first | (refine kw_r (q_slice_own (k + 1) n tyOk rfl rfl rfl rfl rfl rfl (by exact ⟨_, _, rfl, hk1⟩) (by exact rfl) (by omega) (by omega) (by omega)) (h := ?_)) | (refine ky_r (q_slice_own (k + 1) n tyOk rfl rfl rfl rfl rfl rfl (by exact ⟨_, _, rfl, hk1⟩) (by exact rfl) (by omega) (by omega) (by omega)) (h := ?_)))
        refine V2 ?_
        refine awp_loopN (X := Nat) (fun i => k + 1 + i ≤ n ∧ ∀ r, k < r → r < k + 1 + i → (gRow n (gE B k) r).all fin = true) (fun i => [(6, .t (.v (.int .i64 (n : Nat)))), (7, .own 26 0 n), (13, .t (.v (.int .i64 (k : Nat)))), (57, .t (.v (.int .i64 (n : Nat)))), (58, .t (.v (.int .i64 (k : Nat)))), (119, .own 26 (k + 1) (n - (k + 1))), (120, .t (.v (.int .i64 ((n - (k + 1) : Nat))))), (121, .t (.v (.int .i64 (i : Nat))))])
          (fun i => ovH (lkH [(500, .sl 30 (.fl (gRow n B k))), (26, .nest 24 (HX n (n + 1) (up (hid 26) k 500)) [500] noRem)]) (famR 30 n (gRow n (gEr B k (k + 1 + i))) (but allB k))) (fun i => n - i)
          0 (famN_of (H := fun _ => [(500, .sl 30 (.fl (gRow n B k))), (26, .nest 24 (HX n (n + 1) (up (hid 26) k 500)) [500] noRem)]) (fm := fun i => famR 30 n (gRow n (gEr B k (k + 1 + i))) (but allB k)) 0 (fun i => i) ⟨by omega, fun r h1 h2 => by omega⟩ ⟨rfl, rfl, rfl, rfl, rfl, own_z (Nat.zero_add _), rfl, rfl, trivial⟩
            ⟨.inl rfl, HX_bto rfl good_up (fun t _ => rfl), trivial⟩ (fam_bto fun t ht hp => by rw [gEr_0]; exact ov_at ht hp) (fun _ _ _ _ h => h)) (fun i hi => ?_)
        obtain ⟨hi, hfr⟩ := hi
        have hfm6 := famR_ok 30 n (gRow n (gEr B k (k + 1 + i))) (but allB k)
        refine V2 ?_
        refine awp_cond (b := _) rfl (fun h5 => ?_) (fun h5 => ?_)
        · simp only [icmp, decide_eq_true_eq] at h5
          have hrn : k + 1 + i < n := by omega
          have hEr := gEr_ge (n := n) (k := k) (B := B) (Nat.le_refl (k + 1 + i))
          have hrk : k + 1 + i ≠ k := by omega
          have hi501 : up (hid 26) k 500 (k + 1 + i) = hid 26 (k + 1 + i) := up_ne hrk
          have hbadE : (gRow n (gE B k) (k + 1 + i)).all fin = false → F = ([], false) := fun hf => hno (k + 1) (by omega) (by rw [gOk_S, hI, gF_row hrn hf, Bool.and_false])
          have hbadQ : fin (fop .quo .f32 (B (k + 1 + i) k) (B k k)) = false → F = ([], false) := fun hf => hno (k + 1) (by omega) (by rw [gOk_S, hI, gE_bad hkn (by omega) hrn hf, Bool.and_false])
          refine awp_re (one 501 (hid 26 (k + 1 + i))) [(6, .t (.v (.int .i64 (n : Nat)))), (7, .own 26 0 n), (13, .t (.v (.int .i64 (k : Nat)))), (57, .t (.v (.int .i64 (n : Nat)))), (58, .t (.v (.int .i64 (k : Nat)))), (119, .own 26 (k + 1) (n - (k + 1))), (120, .t (.v (.int .i64 ((n - (k + 1) : Nat))))), (121, .t (.v (.int .i64 (i : Nat))))]
            [(501, .sl 30 (.fl (gRow n B (k + 1 + i)))), (500, .sl 30 (.fl (gRow n B k))), (26, .nest 24 (HX n (n + 1) (up (up (hid 26) k 500) (k + 1 + i) 501)) [500, 501] noRem)] (famR 30 n (gRow n (gEr B k (k + 1 + i))) (but (but allB k) (k + 1 + i)))
            ⟨rfl, rfl, rfl, rfl, rfl, rfl, rfl, rfl, trivial⟩ ⟨.inl (by rw [← hEr]; exact ov_at hrn (but_of hrk rfl)), .inl rfl, HX_bto rfl good_up (fun t _ => up_pi hi501.symm (up_nei rfl (by decide)) t), trivial⟩ (fam_bto (fam_fo rfl fun t h => but_le h)) (inj_one (ov_no (but_eq _ _))) ?_
          have hfm7 := famR_ok 30 n (gRow n (gEr B k (k + 1 + i))) (but (but allB k) (k + 1 + i))
          have hri := hBl (k + 1 + i)
          have hgr := gRow_get (M := B) (r := k + 1 + i) (show k ≤ n by omega)
          have hcellr : (HX n (n + 1) (up (up (hid 26) k 500) (k + 1 + i) 501))[k + 1 + i]? = some (.own 501 0 (n + 1)) := by rw [HX_get hrn, up_eq]
          have hcellk : (HX n (n + 1) (up (up (hid 26) k 500) (k + 1 + i) 501))[k]? = some (.own 500 0 (n + 1)) := by rw [HX_get hkn, up_ne (by omega), up_eq]
          refine V2 ?_
          (first | (refine kw_r (q_load_nest (off := k + 1 + i) hcellr (HX_good good_up2) tyOk rfl rfl rfl rfl rfl rfl rfl) (h := ?_)) | (refine ky_r (q_load_nest (off := k + 1 + i) hcellr (HX_good good_up2) tyOk rfl rfl rfl rfl rfl rfl rfl) (h := ?_)))
          refine V2 ?_
          try (first | (refine kw_r (q_idx_own (k) tyOk rfl rfl rfl rfl rfl rfl rfl (by omega) (by first | omega | (simp only [T.len]; omega) | assumption)) (h := ?_)) | (refine ky_r (q_idx_own (k) tyOk rfl rfl rfl rfl rfl rfl rfl (by omega) (by first | omega | (simp only [T.len]; omega) | assumption)) (h := ?_)))
          refine V2 ?_
          (first | (refine kw_r (q_load_nest (off := 0 + k) (by rw [Nat.zero_add]; exact hcellk) (HX_good good_up2) tyOk rfl rfl rfl rfl rfl rfl rfl) (h := ?_)) | (refine ky_r (q_load_nest (off := 0 + k) (by rw [Nat.zero_add]; exact hcellk) (HX_good good_up2) tyOk rfl rfl rfl rfl rfl rfl rfl) (h := ?_)))
          refine V2 ?_
          try (first | (refine kw_r (q_idx_own (k) tyOk rfl rfl rfl rfl rfl rfl rfl (by omega) (by first | omega | (simp only [T.len]; omega) | assumption)) (h := ?_)) | (refine ky_r (q_idx_own (k) tyOk rfl rfl rfl rfl rfl rfl rfl (by omega) (by first | omega | (simp only [T.len]; omega) | assumption)) (h := ?_)))
          refine V2 ?_
          refine awp_loopN (X := Nat) (fun c => k + 1 + c ≤ n + 1) (fun c => [(6, .t (.v (.int .i64 (n : Nat)))), (7, .own 26 0 n), (13, .t (.v (.int .i64 (k : Nat)))), (57, .t (.v (.int .i64 (n : Nat)))), (58, .t (.v (.int .i64 (k : Nat)))), (119, .own 26 (k + 1) (n - (k + 1))), (120, .t (.v (.int .i64 ((n - (k + 1) : Nat))))), (121, .t (.v (.int .i64 (i : Nat)))), (17, .own 501 0 (n + 1)), (18, .t (.f .f32 (fop .quo .f32 (B (k + 1 + i) k) (B k k)))), (19, .t (.v (.int .i64 (k + 1 + c : Nat))))])
            (fun c => ovH (lkH [(501, .sl 30 (.fl (gRow n (gErc B k (k + 1 + i) (k + 1 + c)) (k + 1 + i)))), (500, .sl 30 (.fl (gRow n B k))), (26, .nest 24 (HX n (n + 1) (up (up (hid 26) k 500) (k + 1 + i) 501)) [500, 501] noRem)]) (famR 30 n (gRow n (gEr B k (k + 1 + i))) (but (but allB k) (k + 1 + i)))) (fun c => n + 1 - c)
            0 (famN_of (H := fun c => [(501, .sl 30 (.fl (gRow n (gErc B k (k + 1 + i) (k + 1 + c)) (k + 1 + i)))), (500, .sl 30 (.fl (gRow n B k))), (26, .nest 24 (HX n (n + 1) (up (up (hid 26) k 500) (k + 1 + i) 501)) [500, 501] noRem)]) (fm := fun _ => famR 30 n (gRow n (gEr B k (k + 1 + i))) (but (but allB k) (k + 1 + i))) 0 (fun i => i) (by omega) ⟨rfl, rfl, rfl, rfl, rfl, rfl, rfl, rfl, rfl, fE2 (by rw [Nat.zero_add, hgr, hBg]), iE9' (by omega), trivial⟩
              ⟨.inl (by rw [Nat.add_zero, gErc_row0]; rfl), .inl rfl, HX_bto rfl good_up2 (fun t _ => rfl), trivial⟩ (fam_bto fun t ht hp => ov_at ht hp) (fun _ _ _ _ h => h)) (fun c hc => ?_)
          have hgl5 := gRow_len n (gErc B k (k + 1 + i) (k + 1 + c)) (k + 1 + i)
          refine V2 ?_
          refine awp_cond (b := _) rfl (fun h6 => ?_) (fun h6 => ?_)
          · simp only [icmp, decide_eq_true_eq] at h6
            have hcn : k + 1 + c ≤ n := by omega
            have hst := gErc_set (n := n) (k := k) (r := k + 1 + i) (c := k + 1 + c) (B := B) (by omega) (by omega) hcn
            have hgc := gRow_get (M := gErc B k (k + 1 + i) (k + 1 + c)) (r := k + 1 + i) hcn
            have hgk := gRow_get (M := B) (r := k) hcn
            rw [gErc_at] at hgc
            refine V2 ?_
            try (first | (refine kw_r (q_idx_own (k + 1 + c) tyOk rfl rfl rfl rfl rfl rfl rfl (by omega) (by first | omega | (simp only [T.len]; omega) | assumption)) (h := ?_)) | (refine ky_r (q_idx_own (k + 1 + c) tyOk rfl rfl rfl rfl rfl rfl rfl (by omega) (by first | omega | (simp only [T.len]; omega) | assumption)) (h := ?_)))
            refine V2 ?_
            (first | (refine kw_r (q_load_nest (off := 0 + k) (by rw [Nat.zero_add]; exact hcellk) (HX_good good_up2) tyOk rfl rfl rfl rfl rfl rfl rfl) (h := ?_)) | (refine ky_r (q_load_nest (off := 0 + k) (by rw [Nat.zero_add]; exact hcellk) (HX_good good_up2) tyOk rfl rfl rfl rfl rfl rfl rfl) (h := ?_)))
            refine V2 ?_
            try (first | (refine kw_r (q_idx_own (k + 1 + c) tyOk rfl rfl rfl rfl rfl rfl rfl (by omega) (by first | omega | (simp only [T.len]; omega) | assumption)) (h := ?_)) | (refine ky_r (q_idx_own (k + 1 + c) tyOk rfl rfl rfl rfl rfl rfl rfl (by omega) (by first | omega | (simp only [T.len]; omega) | assumption)) (h := ?_)))
            refine V2 ?_
            try (first | (refine kw_r (q_idx_own (k + 1 + c) tyOk rfl rfl rfl rfl rfl rfl rfl (by omega) (by first | omega | (simp only [T.len]; omega) | assumption)) (h := ?_)) | (refine ky_r (q_idx_own (k + 1 + c) tyOk rfl rfl rfl rfl rfl rfl rfl (by omega) (by first | omega | (simp only [T.len]; omega) | assumption)) (h := ?_)))
            refine V2 ?_
            exact ⟨c + 1, by omega, famN_of (H := fun c => [(501, .sl 30 (.fl (gRow n (gErc B k (k + 1 + i) (k + 1 + c)) (k + 1 + i)))), (500, .sl 30 (.fl (gRow n B k))), (26, .nest 24 (HX n (n + 1) (up (up (hid 26) k 500) (k + 1 + i) 501)) [500, 501] noRem)]) (fm := fun _ => famR 30 n (gRow n (gEr B k (k + 1 + i))) (but (but allB k) (k + 1 + i))) (c + 1) (fun i => i) (by omega) ⟨rfl, rfl, rfl, rfl, rfl, rfl, rfl, rfl, rfl, rfl, iE9' (by omega), trivial⟩
              ⟨.inl (by simp only [Nat.zero_add, hgc, hgk, hst]; rfl), .inl rfl, HX_bto rfl good_up2 (fun t _ => rfl), trivial⟩ (fam_bto fun t ht hp => ov_at ht hp) (fun _ _ _ _ h => h)⟩
          simp only [icmp, decide_eq_false_iff_not] at h6
          have hcn : k + 1 + c = n + 1 := by omega
          rw [hcn, gErc_rowN]
          have hgl6 := gRow_len n (gE B k) (k + 1 + i)
          refine V2 ?_
          (first | (refine kc_q (areFinite_c [fop .quo .f32 (B (k + 1 + i) k) (B k k)] (by simp)) (h := ?_)) | (refine kz_q (areFinite_c [fop .quo .f32 (B (k + 1 + i) k) (B k k)] (by simp)) (h := ?_)))
          rw [show [fop .quo .f32 (B (k + 1 + i) k) (B k k)].all fin = fin (fop .quo .f32 (B (k + 1 + i) k) (B k k)) from Bool.and_true _]
          generalize hq : fop .quo .f32 (B (k + 1 + i) k) (B k k) = q at *
          cases h7 : fin q with
          | false =>
            rw [hbadQ h7]
            refine V2 ?_
            refine awp_cond (b := _) rfl (fun h9 => ?_) (fun h9 => by cases h9)
            refine V2 ?_
            (refine u_1 ?_; (repeat' (first | exact RetRelL.nil | refine RetRel.nil rfl ?_ | refine RetRelL.cons ?_ ?_ | refine rr_tup ?_ | refine rr_agg ?_ | refine rr_own rfl ?_ | exact RetRel.arg | exact RetRel.argc | refine rr_t ?_)); all_goals rfl)
          | true =>
            refine V2 ?_
            (first | (refine kc_q (areFinite_c (gRow n (gE B k) (k + 1 + i)) (by rw [hgl6]; omega)) (h := ?_)) | (refine kz_q (areFinite_c (gRow n (gE B k) (k + 1 + i)) (by rw [hgl6]; omega)) (h := ?_)))
            cases h8 : (gRow n (gE B k) (k + 1 + i)).all fin with
            | false =>
              rw [hbadE h8]
              refine V2 ?_
              refine awp_cond (b := _) rfl (fun h9 => ?_) (fun h9 => by cases h9)
              refine V2 ?_
              (refine u_1 ?_; (repeat' (first | exact RetRelL.nil | refine RetRel.nil rfl ?_ | refine RetRelL.cons ?_ ?_ | refine rr_tup ?_ | refine rr_agg ?_ | refine rr_own rfl ?_ | exact RetRel.arg | exact RetRel.argc | refine rr_t ?_)); all_goals rfl)
            | true =>
              refine V2 ?_
              refine awp_cond (b := _) rfl (fun h9 => by cases h9) (fun h9 => ?_)
              refine u_s ?_
              refine V2 ?_
              exact ⟨i + 1, by omega, famN_of (H := fun _ => [(500, .sl 30 (.fl (gRow n B k))), (26, .nest 24 (HX n (n + 1) (up (hid 26) k 500)) [500] noRem)]) (fm := fun i => famR 30 n (gRow n (gEr B k (k + 1 + i))) (but allB k)) (i + 1) (one (hid 26 (k + 1 + i)) 501) ⟨by omega, fun r g1 g2 => (Nat.lt_or_eq_of_le (Nat.le_of_lt_succ g2)).elim (fun h => hfr r g1 h) (fun h => by rw [h]; exact h8)⟩
                ⟨rfl, own_un _ _ _, rfl, rfl, rfl, own_un2 _ _ _ _, rfl, iE9' (by omega), trivial⟩ ⟨.inl (sm_un rfl rfl), HX_bto (sm_un rfl rfl) good_up2 (fun t _ => up_ip hi501.symm (up_inj rfl hrk) t), trivial⟩
                (fam_bto (fam_un2 (by rw [show k + 1 + (i + 1) = k + 1 + i + 1 from rfl, gEr_lt (Nat.lt_succ_self _)]; rfl) fun t ht h1 h2 => ⟨by rw [but_ne h1]; exact h2, gEr_step h1⟩)) (inj_one (ov_sm rfl rfl))⟩
        simp only [icmp, decide_eq_false_iff_not] at h5
        have hin : k + 1 + i = n := by omega
        refine V2 ?_
        exact ⟨k + 1, by omega, famN_of (H := fun _ => [(26, .nest 24 (HX n (n + 1) (hid 26)) [] noRem)]) (fm := fun k => famR 30 n (gRow n (gI n M k)) allB) (k + 1) (one (hid 26 k) 500) ⟨by omega, fun _ => by rw [gOk_S, hokk, hnVt, hI, gF_E hBF (fun r h1 h2 => hfr r h1 (by omega))]; rfl⟩
          ⟨rfl, own_un _ _ _, rfl, iE9' (by omega), trivial⟩ ⟨HX_bto (sm_un rfl rfl) good_up (fun t _ => up_ip rfl (fun t h => hid_inj h) t), trivial⟩ (fam_bto (fam_un2 (by rw [hI, gE_le (Nat.le_refl k)]; rfl) fun t ht h1 _ => ⟨but_of h1 rfl, by rw [hI, gEr_lt (by omega)]⟩)) (inj_one (ov_sm rfl rfl))⟩
  simp only [icmp, decide_eq_false_iff_not] at h
  obtain rfl : k = n := by omega
  have hok := hok (by omega)
  rw [hyes hok, hA]
  refine u_x ?_
  refine awp_re (fun i => i) [(6, .t (.v (.int .i64 (k : Nat)))), (7, .own 26 0 k)] [(26, .nest 24 (NL (MX k A)) [] noRem)] noFam ⟨rfl, rfl, trivial⟩ ⟨HX_dataM rfl (fun t ht => ov_at ht rfl) (fun t _ => ov_nof t), trivial⟩ (fun i B _ h => by cases h) (fun _ _ _ _ h => h) ?_
  refine awp_off [(6, .t (.v (.int .i64 (k : Nat)))), (7, .own 26 0 k)] [(26, .sl 24 (.ffl (MX k A)))] ⟨rfl, rfl, trivial⟩ ⟨NL_ffl rfl, trivial⟩ ?_
  exact cf_5 h1 hn
end Go.Proofs.Ytpdnjcblkjjegaa

