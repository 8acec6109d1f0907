import Derived.Test.YtpdnjcblkjjegaaVT152
import Derived.Test.YtpdnjcblkjjegaaVAwM
import Derived.Test.YtpdnjcblkjjegaaVAwN
set_option linter.unusedVariables false
set_option linter.unusedSimpArgs false
set_option maxRecDepth 20000
set_option maxHeartbeats 8000000
namespace Go.Proofs.Ytpdnjcblkjjegaa
open Go.Aw

/-! ### the program's elimination: back from the last row -/
def MX (n : Nat) (A : Mx) : List (List Nat) := (List.range n).map (gRow n A)
theorem MX_len (n : Nat) (A : Mx) : (MX n A).length = n := by simp [MX]
theorem MX_get {n k : Nat} {A : Mx} (h : k < n) : (MX n A).getD k [] = gRow n A k := by simp [MX, List.getD_eq_getElem?_getD, h]
abbrev cfR (r : List Nat × Bool) : RV := .tup [.own 0 r.1.length, .t (.v (.bool r.2))]
abbrev cfH (r : List Nat × Bool) : List (Nat × Blk) := [(0, .sl 30 (.fl r.1))]
attribute [local irreducible] QRun LexD AWp TCall TMut fop fint fcmp fconv gI gP gE gS gT gB gOk gF gV absF MX gRow
theorem cf_5 {n : Nat} {A : Mx} (h1 : 1 ≤ n) (hn : n ≤ 6) :
    AWp Try.prog Try.f103.ntmps (tlF Try.f103 5) (RetQ Try.prog Try.f103 (cfR (ifAllF (gB n A n))) (cfH (ifAllF (gB n A n)))) (lkF [(6, .t (.v (.int .i64 (n : Nat)))), (7, .own 26 0 n)])
      (lkH [(26, .sl 24 (.ffl (MX n A)))]) := by
  have hml := MX_len n A
  refine V1 ?_
  refine w_rs (q_make n tyOk rfl rfl rfl rfl rfl rfl rfl rfl rfl rfl rfl (by simp only []; omega) (by omega)) (h := ?_)
  refine V1 ?_
  refine awp_loop (X := Nat) (fun t => t ≤ n) (fun t => [(6, .t (.v (.int .i64 (n : Nat)))), (7, .own 26 0 n), (20, .own 173 0 n), (21, .t (.v (.int .i64 ((n : Int) - 1 - (t : Nat)))))])
    (fun t => [(26, .sl 24 (.ffl (MX n A))), (173, .sl 30 (.fl (List.replicate (n - t) 0 ++ gB n A t)))]) (fun t => n - t)
    0 ⟨by omega, fun i => i, ⟨rfl, rfl, rfl, iE9' (by omega), trivial⟩, ⟨rfl, sl_eq (by rw [gB_0, List.append_nil]; rfl), trivial⟩, injOn_id _⟩ (fun t ht => ?_)
  have hbt := gB_len n A t
  have hxl : (List.replicate (n - t) 0 ++ gB n A t).length = n := by rw [List.length_append, List.length_replicate, hbt]; omega
  refine V1 ?_
  refine awp_if rfl (fun h2 => ?_) (fun h2 => ?_)
  · simp only [icmp, decide_eq_true_eq] at h2
    have htn : t < n := by omega
    have hke : ((n : Int) - 1 - (t : Nat)) = ((n - (t + 1) : Nat) : Int) := by omega
    have hbs := gB_S n A t
    have hst := gB_set (x := fop .quo .f32 (gT A (n - (t + 1)) n (gB n A t) t) (A (n - (t + 1)) (n - (t + 1)))) hbt htn
    have hat := fun i (hi : i < t) => gB_at (xs := gB n A t) hbt (by omega : t ≤ n) hi
    rw [hke]
    generalize hkd : n - (t + 1) = k at *
    have hk : k < n := by omega
    have hrk := MX_get (A := A) hk
    have hrl := gRow_len n A k
    have hgn := gRow_get (M := A) (r := k) (Nat.le_refl n)
    have hlr : ((MX n A).getD k []).length = n + 1 := by rw [hrk, hrl]
    refine V1 ?_
    rw [Nat.zero_add, hrk]
    try (first | (refine w_r (q_idx_tree (n) tyOk rfl rfl rfl rfl rfl rfl rfl rfl (by omega) (by first | omega | (simp only [T.len]; omega) | assumption)) (h := ?_)) | (refine y_r (q_idx_tree (n) tyOk rfl rfl rfl rfl rfl rfl rfl rfl (by omega) (by first | omega | (simp only [T.len]; omega) | assumption)) (h := ?_)))
    refine V1 ?_
    rw [hgn]
    refine V1 ?_
    refine awp_loop (X := Nat) (fun i => i ≤ t) (fun i => [(6, .t (.v (.int .i64 (n : Nat)))), (7, .own 26 0 n), (20, .own 173 0 n), (21, .t (.v (.int .i64 (k : Nat)))), (22, .t (.f .f32 (gT A k n (gB n A t) i))), (23, .t (.v (.int .i64 (k + 1 + i : Nat))))])
      (fun i => [(26, .sl 24 (.ffl (MX n A))), (173, .sl 30 (.fl (List.replicate (n - t) 0 ++ gB n A t)))]) (fun i => t - i)
      0 ⟨by omega, fun i => i, ⟨rfl, rfl, rfl, rfl, fE2 (gT_0 _ _ _ _).symm, iE9' (by omega), trivial⟩, ⟨rfl, rfl, trivial⟩, injOn_id _⟩ (fun i hi => ?_)
    refine V1 ?_
    refine awp_if rfl (fun h3 => ?_) (fun h3 => ?_)
    · simp only [icmp, decide_eq_true_eq] at h3
      have hit : i < t := by omega
      have g2 := hat i hit
      rw [show n - t + i = k + 1 + i by omega] at g2
      have hgi := gRow_get (M := A) (r := k) (show k + 1 + i ≤ n by omega)
      refine V1 ?_
      rw [Nat.zero_add, hrk]
      try (first | (refine w_r (q_idx_tree (k + 1 + i) tyOk rfl rfl rfl rfl rfl rfl rfl rfl (by omega) (by first | omega | (simp only [T.len]; omega) | assumption)) (h := ?_)) | (refine y_r (q_idx_tree (k + 1 + i) tyOk rfl rfl rfl rfl rfl rfl rfl rfl (by omega) (by first | omega | (simp only [T.len]; omega) | assumption)) (h := ?_)))
      refine V1 ?_
      exact ⟨i + 1, by omega, by omega, fun i => i, ⟨rfl, rfl, rfl, rfl, fE2 (by rw [hgi, Nat.zero_add, g2, gT_S]), iE9' (by omega), trivial⟩, ⟨rfl, rfl, trivial⟩, injOn_id _⟩
    simp only [icmp, decide_eq_false_iff_not] at h3
    obtain rfl : i = t := by omega
    have hgk := gRow_get (M := A) (r := k) (show k ≤ n by omega)
    refine V1 ?_
    rw [Nat.zero_add, hrk]
    try (first | (refine w_r (q_idx_tree (k) tyOk rfl rfl rfl rfl rfl rfl rfl rfl (by omega) (by first | omega | (simp only [T.len]; omega) | assumption)) (h := ?_)) | (refine y_r (q_idx_tree (k) tyOk rfl rfl rfl rfl rfl rfl rfl rfl (by omega) (by first | omega | (simp only [T.len]; omega) | assumption)) (h := ?_)))
    refine V1 ?_
    exact ⟨i + 1, by omega, by omega, fun i => i, ⟨rfl, rfl, rfl, iE9' (by omega), trivial⟩, ⟨rfl, sl_eq (congrArg T.fl (by rw [hgk, Nat.zero_add, hst, ← hbs, hkd])), trivial⟩, injOn_id _⟩
  simp only [icmp, decide_eq_false_iff_not] at h2
  obtain rfl : n = t := by omega
  have hx0 : List.replicate (n - n) 0 ++ gB n A n = gB n A n := by rw [Nat.sub_self]; rfl
  rw [hx0]
  cases h5 : (gB n A n).all fin with
  | true =>
    rw [show ifAllF (gB n A n) = (gB n A n, true) by simp only [ifAllF, h5]; rfl]
    refine V1 ?_
    (first | (refine c_q (ifAll_t (gB n A n) (by omega) h5) (h := ?_)) | (refine z_q (ifAll_t (gB n A n) (by omega) h5) (h := ?_)))
    refine V1 ?_
    refine ret_ok tyOk (by first | exact .inr rfl | exact .inl rfl) (pi1 173) rfl (by repeat (first | exact .nil | (apply ResAl.cons; first | exact .tmp | exact .cell rfl rfl rfl rfl rfl rfl | exact .cell1 rfl rfl rfl rfl rfl))) ?_ ⟨rfl, trivial⟩ (injO_1 _ _ _)
    repeat' (first | exact RetRelL.nil | refine RetRel.nil rfl ?_ | refine RetRelL.cons ?_ ?_ | refine rr_tup ?_ | refine rr_agg ?_ | refine rr_own rfl ?_ | exact RetRel.arg | exact RetRel.argc | refine rr_t ?_)
    all_goals first | rfl | exact hbt.symm
  | false =>
    rw [show ifAllF (gB n A n) = ([], false) by simp only [ifAllF, h5]; rfl]
    refine V1 ?_
    (first | (refine c_q (ifAll_f (gB n A n) (by omega) h5) (h := ?_)) | (refine z_q (ifAll_f (gB n A n) (by omega) h5) (h := ?_)))
    refine V1 ?_
    (refine u_1 ?_; (repeat' (first | exact RetRelL.nil | refine RetRel.nil rfl ?_ | refine RetRelL.cons ?_ ?_ | refine rr_tup ?_ | refine rr_agg ?_ | refine rr_own rfl ?_ | exact RetRel.arg | exact RetRel.argc | refine rr_t ?_)); all_goals rfl)
end Go.Proofs.Ytpdnjcblkjjegaa

set_option linter.unusedVariables false
set_option linter.unusedSimpArgs false
set_option maxRecDepth 20000
set_option maxHeartbeats 8000000
namespace Go.Proofs.Ytpdnjcblkjjegaa
open Go.Aw

/-! ### the program's elimination: names of rows -/
theorem up_pi {f : Nat → Nat} {i a b : Nat} (hb : b = f i) (hne : ∀ t, f t ≠ a) (t : Nat) : f t = one a b (up f i a t) := by
  by_cases h : t = i
  · subst h; rw [up_eq, one_eq, hb]
  · rw [up_ne h, one_ne (hne t)]
theorem up_ip {g : Nat → Nat} {i a b : Nat} (hb : b = g i) (hinj : ∀ t, g t = g i → t = i) (t : Nat) : up g i a t = one b a (g t) := by
  subst hb
  by_cases h : t = i
  · subst h; rw [up_eq, one_eq]
  · rw [up_ne h, one_ne fun he => h (hinj t he)]
theorem hid_nei (a : Nat) (h : Nat.blt a bigN = true) (t : Nat) : hid 26 t ≠ a := hid_ne (Nat.le_of_ble_eq_true h)
theorem up_nei {b a c : Nat} (h : Nat.blt a bigN = true) (hc : c ≠ a) (t : Nat) : up (hid 26) b c t ≠ a := by
  unfold up; split
  · exact hc
  · exact hid_nei a h t
theorem up_inj {b a i : Nat} (hc : Nat.blt a bigN = true) (hi : i ≠ b) (t : Nat) (h : up (hid 26) b a t = up (hid 26) b a i) : t = i := by
  rw [up_ne hi] at h
  unfold up at h
  split at h
  · exact absurd h.symm (hid_nei a hc i)
  · exact hid_inj h
theorem good_up {b a n : Nat} (t : Nat) (_ : t < n) : bigN ≤ up (hid 26) b a t ∨ up (hid 26) b a t ∈ [a] := by
  unfold up; split
  · exact .inr (by simp)
  · exact .inl (hid_big 26 t)
theorem good_up2 {b a i c n : Nat} (t : Nat) (_ : t < n) : bigN ≤ up (up (hid 26) b a) i c t ∨ up (up (hid 26) b a) i c t ∈ [a, c] := by
  unfold up; split
  · exact .inr (by simp)
  · split
    · exact .inr (by simp)
    · exact .inl (hid_big 26 t)
theorem good_hid {n : Nat} {vis : List Nat} (t : Nat) (_ : t < n) : bigN ≤ hid 26 t ∨ hid 26 t ∈ vis := .inl (hid_big 26 t)
theorem fam_fo {η0 : Hp} {ef n a b : Nat} {R : Nat → List Nat} {p p' : Nat → Bool} (ha : Nat.blt a bigN = true) (hp : ∀ t, p' t = true → p t = true) (t : Nat) (ht : t < n) (h : p' t = true) : ovH η0 (famR ef n R p) (one a b (hid 26 t)) = some (.sl ef (.fl (R t))) := by
  rw [one_ne (hid_nei a ha t)]; exact ov_at ht (hp t h)
theorem fam_un {η0 : Hp} {ef n a i : Nat} {R R' : Nat → List Nat} {p p' : Nat → Bool} (h0 : ovH η0 (famR ef n R p) a = some (.sl ef (.fl (R' i)))) (hp : ∀ t, t ≠ i → p' t = true → p t = true ∧ R t = R' t) (t : Nat) (ht : t < n) (h : p' t = true) : ovH η0 (famR ef n R p) (one (hid 26 i) a (hid 26 t)) = some (.sl ef (.fl (R' t))) := by
  by_cases he : t = i
  · subst he; rw [one_eq]; exact h0
  · rw [one_ne fun hc => he (hid_inj hc), ← (hp t he h).2]; exact ov_at ht (hp t he h).1
theorem but_le {p : Nat → Bool} {k t : Nat} (h : but p k t = true) : p t = true := by
  by_cases he : t = k
  · subst he; rw [but_eq] at h; cases h
  · rwa [but_ne he] at h
theorem but_of {p : Nat → Bool} {k t : Nat} (hne : t ≠ k) (h : p t = true) : but p k t = true := by rw [but_ne hne]; exact h
theorem gOk_S (n : Nat) (M : Mx) (k : Nat) : gOk n M (k + 1) = (gOk n M k && gV n (gI n M k) k && gF n (gI n M (k + 1))) := rfl
theorem gF_def (n : Nat) (M : Mx) : gF n M = (List.range n).all fun r => (gRow n M r).all fin := rfl
theorem gOk_z (n : Nat) (M : Mx) : gOk n M 0 = gF n M := rfl
theorem ov_nof {η : Hp} (t : Nat) : (ovH η noFam (hid 26 t)).isSome = false := by rw [ovH_ge (hid_big _ _)]; rfl
theorem HX_dataM {n e i ef : Nat} {A : Mx} {η η' : Hp} {vis : List Nat} (h1 : η i = some (.nest e (HX n (n + 1) (hid 26)) vis noRem)) (hR : ∀ t, t < n → η (hid 26 t) = some (.sl ef (.fl (gRow n A t)))) (hn : ∀ t, t < n → (η' (hid 26 t)).isSome = false) : BTo (fun i => i) η η' i (.nest e (NL (MX n A)) [] noRem) := HX_data h1 hR (fun t _ => gRow_len n A t) hn
theorem gP_z (M : Mx) (k : Nat) : gP M k 0 = k := rfl
theorem ov_sm {l : List (Nat × Blk)} {fm : Hp} {b : Nat} (hb : Nat.blt b bigN = true) (h : lkH l b = none) : (ovH (lkH l) fm b).isSome = false := by
  unfold ovH; rw [hb, cond_true, h]; rfl
theorem own_un (i a n : Nat) : AV.own 26 0 n = ren (one (hid 26 i) a) (.own 26 0 n) := by
  show _ = AV.own (one (hid 26 i) a 26) 0 n
  rw [one_ne (Ne.symm (hid_nei 26 rfl i))]
theorem sm_un {η : Hp} {i a s : Nat} {B : Blk} (hs : Nat.blt s bigN = true) (h : η s = some B) : η (one (hid 26 i) a s) = some B := by
  rw [one_ne (Ne.symm (hid_nei s hs i))]; exact h
theorem up_sw {b i a c : Nat} (hib : i ≠ b) (hc : Nat.blt c bigN = true) (t : Nat) : up (up (hid 26) b a) i c t = one (hid 26 b) a (up (hid 26) i c t) := by
  by_cases h : t = i
  · subst h; rw [up_eq, up_eq, one_ne (Ne.symm (hid_nei c hc b))]
  · rw [up_ne h, up_ne h]
    by_cases h2 : t = b
    · subst h2; rw [up_eq, one_eq]
    · rw [up_ne h2, one_ne fun he => h2 (hid_inj he)]
theorem up_rn {i a c : Nat} (ha : Nat.blt a bigN = true) (t : Nat) : up (hid 26) i c t = one a c (up (hid 26) i a t) := by
  by_cases h : t = i
  · subst h; rw [up_eq, up_eq, one_eq]
  · rw [up_ne h, up_ne h, one_ne (hid_nei a ha t)]
/-- a slice's end: no cells -/
theorem q_slice_end {P : Program} {o : Oper} {F : List Nat} {ρ : Fr} {η : Hp} {ty : Ty} {t u : TypeId} {e eu : TE} {x : Operand} {lo : Option Operand} {id off n : Nat} (hT : TyOk P ty) (ho : o.op = .slice t x lo none none)
    (ht : ty.get t = some e) (hsl : e.d = .sl u) (hu : ty.get u = some eu) (hs : eu.size = 1) (hx : (evA ρ x).own? = some (id, off, n)) (hlo : bnd ρ lo 0 n) : QRun P o F [] ρ η (.t (.ffl [])) (lkH []) := by
  refine qrun_val fun vs w0 μ η' a w g1 g2 g3 => ?_
  have hx' := VR_own (g3 x (by simp [ho, Op.operands])) hx
  rw [VR] at hx'
  have hl' := bnd_run hlo (a := a) (fun y hy => g3 y (by simp [ho, Op.operands, hy]))
  have hh' := bnd_run (ρ := ρ) (x := none) (dflt := n) (m := n) rfl (a := a) (fun y hy => g3 y (by simp at hy))
  rcases hx' with ⟨hμ, rfl, rfl, hv⟩ | ⟨b, cap, e0, m, hμ, hv, hshape, hm, hcap⟩
  · have hr := slice_run (P := P) (w := w) (a := none) hT ht hsl hu hs hl' hh' (Nat.le_refl _) (Nat.le_refl _) (Nat.le_refl _)
    simp only [Option.map_none] at hr
    refine ⟨.slice none 0 0, w.drawn, by simp [execOp, ho, hv, hr], ?_⟩
    rw [VR]
    exact (TR_sl _ _ (.ffl []) rfl _).2 ⟨_, _, _, rfl, rfl, Nat.le_refl _, .inl rfl⟩
  · have hr := slice_run (P := P) (w := w) (a := some ⟨b, off, none⟩) hT ht hsl hu hs hl' hh' (Nat.le_refl _) (Nat.le_refl _) hcap
    simp only [Option.map_none] at hr
    refine ⟨_, w.drawn, by simp [execOp, ho, hv, hr]; rfl, ?_⟩
    rw [VR]
    exact (TR_sl _ _ (.ffl []) rfl _).2 ⟨_, _, _, rfl, by simp [T.len], Nat.zero_le _, .inl (by simp)⟩
end Go.Proofs.Ytpdnjcblkjjegaa

