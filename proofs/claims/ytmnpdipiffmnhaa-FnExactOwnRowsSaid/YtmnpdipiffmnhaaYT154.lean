import Derived.Test.YtmnpdipiffmnhaaYT153
import Derived.Test.YtmnpdipiffmnhaaZAwN
set_option linter.unusedVariables false
set_option linter.unusedSimpArgs false
set_option maxRecDepth 20000
set_option maxHeartbeats 8000000
namespace Go.Proofs.Ytmnpdipiffmnhaa
open Go.Aw

/-! ### the program's elimination: names of rows -/
theorem up_pi {f : Nat → Nat} {i a b : Nat} (hb : b = f i) (hne : ∀ t, f t ≠ a) (t : Nat) : f t = one a b (up f i a t) := by
  by_cases h : t = i
  · subst h; rw [up_eq, one_eq, hb]
  · rw [up_ne h, one_ne (hne t)]
theorem up_ip {g : Nat → Nat} {i a b : Nat} (hb : b = g i) (hinj : ∀ t, g t = g i → t = i) (t : Nat) : up g i a t = one b a (g t) := by
  subst hb
  by_cases h : t = i
  · subst h; rw [up_eq, one_eq]
  · rw [up_ne h, one_ne fun he => h (hinj t he)]
theorem hid_nei (a : Nat) (h : Nat.blt a bigN = true) (t : Nat) : hid 26 t ≠ a := hid_ne (Nat.le_of_ble_eq_true h)
theorem up_nei {b a c : Nat} (h : Nat.blt a bigN = true) (hc : c ≠ a) (t : Nat) : up (hid 26) b c t ≠ a := by
  unfold up; split
  · exact hc
  · exact hid_nei a h t
theorem up_inj {b a i : Nat} (hc : Nat.blt a bigN = true) (hi : i ≠ b) (t : Nat) (h : up (hid 26) b a t = up (hid 26) b a i) : t = i := by
  rw [up_ne hi] at h
  unfold up at h
  split at h
  · exact absurd h.symm (hid_nei a hc i)
  · exact hid_inj h
theorem good_up {b a n : Nat} (t : Nat) (_ : t < n) : bigN ≤ up (hid 26) b a t ∨ up (hid 26) b a t ∈ [a] := by
  unfold up; split
  · exact .inr (by simp)
  · exact .inl (hid_big 26 t)
theorem good_up2 {b a i c n : Nat} (t : Nat) (_ : t < n) : bigN ≤ up (up (hid 26) b a) i c t ∨ up (up (hid 26) b a) i c t ∈ [a, c] := by
  unfold up; split
  · exact .inr (by simp)
  · split
    · exact .inr (by simp)
    · exact .inl (hid_big 26 t)
theorem good_hid {n : Nat} {vis : List Nat} (t : Nat) (_ : t < n) : bigN ≤ hid 26 t ∨ hid 26 t ∈ vis := .inl (hid_big 26 t)
theorem fam_fo {η0 : Hp} {ef n a b : Nat} {R : Nat → List Nat} {p p' : Nat → Bool} (ha : Nat.blt a bigN = true) (hp : ∀ t, p' t = true → p t = true) (t : Nat) (ht : t < n) (h : p' t = true) : ovH η0 (famR ef n R p) (one a b (hid 26 t)) = some (.sl ef (.fl (R t))) := by
  rw [one_ne (hid_nei a ha t)]; exact ov_at ht (hp t h)
theorem fam_un {η0 : Hp} {ef n a i : Nat} {R R' : Nat → List Nat} {p p' : Nat → Bool} (h0 : ovH η0 (famR ef n R p) a = some (.sl ef (.fl (R' i)))) (hp : ∀ t, t ≠ i → p' t = true → p t = true ∧ R t = R' t) (t : Nat) (ht : t < n) (h : p' t = true) : ovH η0 (famR ef n R p) (one (hid 26 i) a (hid 26 t)) = some (.sl ef (.fl (R' t))) := by
  by_cases he : t = i
  · subst he; rw [one_eq]; exact h0
  · rw [one_ne fun hc => he (hid_inj hc), ← (hp t he h).2]; exact ov_at ht (hp t he h).1
theorem but_le {p : Nat → Bool} {k t : Nat} (h : but p k t = true) : p t = true := by
  by_cases he : t = k
  · subst he; rw [but_eq] at h; cases h
  · rwa [but_ne he] at h
theorem but_of {p : Nat → Bool} {k t : Nat} (hne : t ≠ k) (h : p t = true) : but p k t = true := by rw [but_ne hne]; exact h
theorem gOk_S (n : Nat) (M : Mx) (k : Nat) : gOk n M (k + 1) = (gOk n M k && gV n (gI n M k) k && gF n (gI n M (k + 1))) := rfl
theorem gF_def (n : Nat) (M : Mx) : gF n M = (List.range n).all fun r => (gRow n M r).all fin := rfl
theorem gOk_z (n : Nat) (M : Mx) : gOk n M 0 = gF n M := rfl
theorem ov_nof {η : Hp} (t : Nat) : (ovH η noFam (hid 26 t)).isSome = false := by rw [ovH_ge (hid_big _ _)]; rfl
theorem HX_dataM {n e i ef : Nat} {A : Mx} {η η' : Hp} {vis : List Nat} (h1 : η i = some (.nest e (HX n (n + 1) (hid 26)) vis noRem)) (hR : ∀ t, t < n → η (hid 26 t) = some (.sl ef (.fl (gRow n A t)))) (hn : ∀ t, t < n → (η' (hid 26 t)).isSome = false) : BTo (fun i => i) η η' i (.nest e (NL (MX n A)) [] noRem) := HX_data h1 hR (fun t _ => gRow_len n A t) hn
theorem gP_z (M : Mx) (k : Nat) : gP M k 0 = k := rfl
theorem ov_sm {l : List (Nat × Blk)} {fm : Hp} {b : Nat} (hb : Nat.blt b bigN = true) (h : lkH l b = none) : (ovH (lkH l) fm b).isSome = false := by
  unfold ovH; rw [hb, cond_true, h]; rfl
theorem own_un (i a n : Nat) : AV.own 26 0 n = ren (one (hid 26 i) a) (.own 26 0 n) := by
  show _ = AV.own (one (hid 26 i) a 26) 0 n
  rw [one_ne (Ne.symm (hid_nei 26 rfl i))]
theorem sm_un {η : Hp} {i a s : Nat} {B : Blk} (hs : Nat.blt s bigN = true) (h : η s = some B) : η (one (hid 26 i) a s) = some B := by
  rw [one_ne (Ne.symm (hid_nei s hs i))]; exact h
theorem up_sw {b i a c : Nat} (hib : i ≠ b) (hc : Nat.blt c bigN = true) (t : Nat) : up (up (hid 26) b a) i c t = one (hid 26 b) a (up (hid 26) i c t) := by
  by_cases h : t = i
  · subst h; rw [up_eq, up_eq, one_ne (Ne.symm (hid_nei c hc b))]
  · rw [up_ne h, up_ne h]
    by_cases h2 : t = b
    · subst h2; rw [up_eq, one_eq]
    · rw [up_ne h2, one_ne fun he => h2 (hid_inj he)]
theorem up_rn {i a c : Nat} (ha : Nat.blt a bigN = true) (t : Nat) : up (hid 26) i c t = one a c (up (hid 26) i a t) := by
  by_cases h : t = i
  · subst h; rw [up_eq, up_eq, one_eq]
  · rw [up_ne h, up_ne h, one_ne (hid_nei a ha t)]
/-- a slice's end: no cells -/
theorem q_slice_end {P : Program} {o : Oper} {F : List Nat} {ρ : Fr} {η : Hp} {ty : Ty} {t u : TypeId} {e eu : TE} {x : Operand} {lo : Option Operand} {id off n : Nat} (hT : TyOk P ty) (ho : o.op = .slice t x lo none none)
    (ht : ty.get t = some e) (hsl : e.d = .sl u) (hu : ty.get u = some eu) (hs : eu.size = 1) (hx : (evA ρ x).own? = some (id, off, n)) (hlo : bnd ρ lo 0 n) : QRun P o F [] ρ η (.t (.ffl [])) (lkH []) := by
  refine qrun_val fun vs w0 μ η' a w g1 g2 g3 => ?_
  have hx' := VR_own (g3 x (by simp [ho, Op.operands])) hx
  rw [VR] at hx'
  have hl' := bnd_run hlo (a := a) (fun y hy => g3 y (by simp [ho, Op.operands, hy]))
  have hh' := bnd_run (ρ := ρ) (x := none) (dflt := n) (m := n) rfl (a := a) (fun y hy => g3 y (by simp at hy))
  rcases hx' with ⟨hμ, rfl, rfl, hv⟩ | ⟨b, cap, e0, m, hμ, hv, hshape, hm, hcap⟩
  · have hr := slice_run (P := P) (w := w) (a := none) hT ht hsl hu hs hl' hh' (Nat.le_refl _) (Nat.le_refl _) (Nat.le_refl _)
    simp only [Option.map_none] at hr
    refine ⟨.slice none 0 0, w.drawn, by simp [execOp, ho, hv, hr], ?_⟩
    rw [VR]
    exact (TR_sl _ _ (.ffl []) rfl _).2 ⟨_, _, _, rfl, rfl, Nat.le_refl _, .inl rfl⟩
  · have hr := slice_run (P := P) (w := w) (a := some ⟨b, off, none⟩) hT ht hsl hu hs hl' hh' (Nat.le_refl _) (Nat.le_refl _) hcap
    simp only [Option.map_none] at hr
    refine ⟨_, w.drawn, by simp [execOp, ho, hv, hr]; rfl, ?_⟩
    rw [VR]
    exact (TR_sl _ _ (.ffl []) rfl _).2 ⟨_, _, _, rfl, by simp [T.len], Nat.zero_le _, .inl (by simp)⟩
end Go.Proofs.Ytmnpdipiffmnhaa
