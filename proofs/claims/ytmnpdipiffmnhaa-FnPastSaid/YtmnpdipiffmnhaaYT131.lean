import Derived.Test.YtmnpdipiffmnhaaYT129
import Derived.Test.YtmnpdipiffmnhaaYT40
import Derived.Test.YtmnpdipiffmnhaaYT77
import Derived.Test.YtmnpdipiffmnhaaYT27
import Derived.Test.YtmnpdipiffmnhaaYT106
import Derived.Test.YtmnpdipiffmnhaaYT111
set_option linter.unusedVariables false
set_option linter.unusedSimpArgs false
set_option maxRecDepth 20000
set_option maxHeartbeats 8000000
namespace Go.Proofs.Ytmnpdipiffmnhaa
open Go.Aw

/-! ### numbers that small terms tell are bounded -/
theorem okR {M : Rat} (a : 1 / 1000 ≤ M) (b : M ≤ 1000) : okM M := by unfold okM; constructor <;> grind
structure TmI (terms : List Nat) (m : Nat) : Prop where
  ft : ∀ i, i < terms.length → Bd (terms.getD i 0) (3 / 8)
  l2 : terms.length ≤ 2
  fm : Bd m 2
theorem TmI.terms {terms : List Nat} {m : Nat} (h : TmI terms m) : isTerms terms = true := by
  unfold isTerms
  rw [decide_eq_true (show terms.length ≤ 6 by have := h.l2; omega)]
  refine List.all_eq_true.2 fun c hc => ?_
  obtain ⟨i, hi, rfl⟩ := List.getElem_of_mem hc
  have := finB_Fn (h.ft i hi).1
  rw [List.getD_eq_getElem?_getD, List.getElem?_eq_getElem hi] at this
  exact this
theorem toldG_bd {terms b : List Nat} {m : Nat} (h : TmI terms m) (hb : ∀ i, i < b.length → Bd (b.getD i 0) 24) (i : Nat) : Bd (toldG b m i) (2603 / 100) := by
  unfold toldG
  split
  · exact subB (hb _ (by omega)) h.fm (okR (by decide +kernel) (by decide +kernel)) (by decide +kernel)
  · exact ⟨f0_32.1, by rw [f0_32.2]; decide +kernel, by rw [f0_32.2]; decide +kernel⟩
theorem told_bd {terms b : List Nat} {m : Nat} (h : TmI terms m) (hb : ∀ i, i < b.length → Bd (b.getD i 0) 24) : Bd (toldF b terms m) (2168 / 100) := by
  have h0 : Bd 0 0 := ⟨f0_32.1, by rw [f0_32.2]; decide +kernel, by rw [f0_32.2]; decide +kernel⟩
  have hm : ∀ i, i < terms.length → Bd (fop .mul .f32 (terms.getD i 0) (toldG b m i)) (978 / 100) := fun i hi =>
    mulB (h.ft i hi) (toldG_bd h hb i) (okR (by decide +kernel) (by decide +kernel)) (by decide +kernel)
  have hl := h.l2
  have hs : Bd (tl1 (toldG b m) terms terms.length) (1961 / 100) := by
    have hc : terms.length = 0 ∨ terms.length = 1 ∨ terms.length = 2 := by omega
    rcases hc with e | e | e
    · rw [e]; exact h0.mono (by decide +kernel)
    · rw [e]
      exact (addB h0 (hm 0 (by omega)) (L := 98 / 10) (okR (by decide +kernel) (by decide +kernel)) (by decide +kernel)).mono (by decide +kernel)
    · rw [e]
      show Bd (fop .add .f32 (fop .add .f32 0 (fop .mul .f32 (terms.getD 0 0) (toldG b m 0))) (fop .mul .f32 (terms.getD 1 0) (toldG b m 1))) _
      exact addB (addB h0 (hm 0 (by omega)) (L := 98 / 10) (okR (by decide +kernel) (by decide +kernel)) (by decide +kernel)) (hm 1 (by omega)) (okR (by decide +kernel) (by decide +kernel)) (by decide +kernel)
  exact addB h.fm hs (okR (by decide +kernel) (by decide +kernel)) (by decide +kernel)
/-- a rest that is drawn -/
theorem shr_bd {s : Int} (h : 0 ≤ s ∧ s ≤ 4294967295) : Fnt .f32 (shrF s) ∧ 0 ≤ rv .f32 (shrF s) ∧ rv .f32 (shrF s) ≤ 1 := by
  have h1 : 0 ≤ s / 256 ∧ s / 256 ≤ 16777215 := by omega
  have hd : Fnt .f32 1266679808 ∧ rv .f32 1266679808 = 16777216 := by unfold Fnt; decide +kernel
  have c1 : ((s / 256 : Int) : Rat) ≤ ((16777215 : Int) : Rat) := Rat.intCast_le_intCast.2 h1.2
  have c2 : ((0 : Int) : Rat) ≤ ((s / 256 : Int) : Rat) := Rat.intCast_le_intCast.2 h1.1
  have e1 : ((16777215 : Int) : Rat) = 16777215 := rfl
  have e2 : ((0 : Int) : Rat) = 0 := rfl
  rw [e1] at c1; rw [e2] at c2
  have r := fint_rds .f32 (s / 256)
  have hF := (int32 (n := s / 256) (M := 16777215) c1 (by grind) (by unfold okM; constructor <;> decide +kernel))
  obtain ⟨e, _, _, _, hf⟩ := hF
  have h0 := f0_32
  have g1 := r.ge h0.1 hf (by rw [h0.2]; exact c2)
  have g2 := r.le hd.1 hf (by rw [hd.2]; grind)
  rw [h0.2] at g1
  unfold shrF
  exact quo1 hf hd.1 g1 g2 (by rw [hd.2]; decide +kernel)
theorem drR_bd {s : Int} (h : 0 ≤ s ∧ s ≤ 4294967295) : Bd (drR s 4) (20001 / 10000) := by
  have hh := half32c
  have h0 : Bd 0 0 := ⟨f0_32.1, by rw [f0_32.2]; decide +kernel, by rw [f0_32.2]; decide +kernel⟩
  have hk : ∀ k, Bd (fop .sub .f32 (shrF (itS (k + 1) s)) 1056964608) (500001 / 1000000) := fun k => by
    have := shr_bd (itS_rng h (k + 1))
    obtain ⟨e, p1, p2, p3, p4⟩ := sub32 (M := 1 / 2) this.1 hh.1 (by rw [hh.2]; grind) (by rw [hh.2]; grind) (okR (by decide +kernel) (by decide +kernel))
    exact ⟨p4, by rw [p1, hh.2]; grind, by rw [p1, hh.2]; grind⟩
  have st : ∀ (x y : Nat) (M N : Rat), Bd x M → Bd y (500001 / 1000000) → 0 ≤ M → M ≤ 2 → M + 500005 / 1000000 ≤ N → Bd (fop .add .f32 x y) N := fun x y M N hx hy h1 h2 h3 => by
    have a1 := hx.2; have a2 := hy.2
    obtain ⟨e, p1, p2, p3, p4⟩ := add32 (M := 3) hx.1 hy.1 (by grind) (by grind) (okR (by decide +kernel) (by decide +kernel))
    exact ⟨p4, by rw [p1]; grind, by rw [p1]; grind⟩
  have s1 := st 0 _ 0 (500005 / 1000000) h0 (hk 0) (by decide +kernel) (by decide +kernel) (by decide +kernel)
  have s2 := st _ _ _ (1000010 / 1000000) s1 (hk 1) (by decide +kernel) (by decide +kernel) (by decide +kernel)
  have s3 := st _ _ _ (1500015 / 1000000) s2 (hk 2) (by decide +kernel) (by decide +kernel) (by decide +kernel)
  exact st _ _ _ _ s3 (hk 3) (by decide +kernel) (by decide +kernel) (by decide +kernel)
theorem one_bd : Bd 1065353216 1 := ⟨k1_rv.1, by rw [k1_rv.2]; decide +kernel, by rw [k1_rv.2]; decide +kernel⟩
theorem wide_rest {s : Int} (h : 0 ≤ s ∧ s ≤ 4294967295) : ∃ e, rv .f32 (fop .mul .f32 1065353216 (drR s 4)) = rv .f32 (drR s 4) + e ∧ -(1 / 1000000) ≤ e ∧ e ≤ 1 / 1000000 ∧ Fnt .f32 (fop .mul .f32 1065353216 (drR s 4)) := by
  have hb := drR_bd h
  have k1 := k1_rv
  have b := hb.2
  obtain ⟨e, p1, p2, p3, p4⟩ := mul32 (M := 3) k1.1 hb.1 (by rw [k1.2]; grind) (by rw [k1.2]; grind) (okR (by decide +kernel) (by decide +kernel))
  exact ⟨e, by rw [p1, k1.2]; grind, by grind, by grind, p4⟩
/-- what is drawn is bounded -/
theorem getD_app {l : List Nat} {x i : Nat} : (l ++ [x]).getD i 0 = if i < l.length then l.getD i 0 else if i = l.length then x else 0 := by
  simp only [List.getD_eq_getElem?_getD]
  split
  · rename_i h; rw [List.getElem?_append_left h]
  · rename_i h
    rw [List.getElem?_append_right (by omega)]
    split
    · rename_i h2; subst h2; simp
    · rename_i h2
      have : i - l.length ≠ 0 := by omega
      obtain ⟨k, hk⟩ : ∃ k, i - l.length = k + 1 := ⟨i - l.length - 1, by omega⟩
      rw [hk]; rfl
theorem snoc_bd {l : List Nat} {x : Nat} {M : Rat} (h : ∀ i, i < l.length → Bd (l.getD i 0) M) (hx : Bd x M) : ∀ i, i < (l ++ [x]).length → Bd ((l ++ [x]).getD i 0) M := fun i hi => by
  rw [getD_app]
  rw [List.length_append, List.length_singleton] at hi
  split
  · rename_i h2; exact h i h2
  · rw [if_pos (by omega)]; exact hx
theorem ds_bd {terms : List Nat} {m : Nat} {s : Int} (h : TmI terms m) (hs : 0 ≤ s ∧ s ≤ 4294967295) : ∀ n, ∀ i, i < (dsL terms m 1065353216 s n).length → Bd ((dsL terms m 1065353216 s n).getD i 0) 24
  | 0, i, hi => by simp [dsL] at hi
  | n + 1, i, hi => by
    have ih := ds_bd h hs n
    have hd := drR_bd (dsS_rng hs n)
    have hx : Bd (fop .add .f32 (toldF (dsL terms m 1065353216 s n) terms m) (fop .mul .f32 1065353216 (drR (dsS s n) 4))) 24 :=
      addB (told_bd h ih) (mulB one_bd hd (L := 21 / 10) (okR (by decide +kernel) (by decide +kernel)) (by decide +kernel)) (okR (by decide +kernel) (by decide +kernel)) (by decide +kernel)
    exact snoc_bd ih hx i hi
theorem dsL_pre {terms : List Nat} {m w : Nat} {s : Int} {i : Nat} : ∀ {n : Nat}, i ≤ n → (dsL terms m w s n).take i = dsL terms m w s i
  | 0, h => by obtain rfl : i = 0 := by omega
               rfl
  | n + 1, h => by
    rcases Nat.lt_or_ge n i with h1 | h1
    · obtain rfl : i = n + 1 := by omega
      rw [List.take_of_length_le (by rw [dsL_len]; omega)]
    · show (dsL terms m w s n ++ _).take i = _
      rw [List.take_append_of_le_length (by rw [dsL_len]; omega)]
      exact dsL_pre h1
theorem dsL_at {terms : List Nat} {m w : Nat} {s : Int} {i n : Nat} (h : i < n) : (dsL terms m w s n).getD i 0 = fop .add .f32 (toldF (dsL terms m w s i) terms m) (fop .mul .f32 w (drR (dsS s i) 4)) := by
  have h1 := dsL_pre (terms := terms) (m := m) (w := w) (s := s) (i := i + 1) (n := n) (by omega)
  have h2 : (dsL terms m w s n).getD i 0 = ((dsL terms m w s n).take (i + 1)).getD i 0 := by
    simp only [List.getD_eq_getElem?_getD, List.getElem?_take]
    rw [if_pos (by omega)]
  rw [h2, h1]
  show (dsL terms m w s i ++ [_]).getD i 0 = _
  rw [getD_app, if_neg (by rw [dsL_len]; omega), if_pos (by rw [dsL_len])]
/-- the rests of what is drawn -/
theorem rest_bd {terms : List Nat} {m : Nat} {s : Int} (h : TmI terms m) (hs : 0 ≤ s ∧ s ≤ 4294967295) {i n : Nat} (hi : i < n) :
    Bd (fop .sub .f32 ((dsL terms m 1065353216 s n).getD i 0) (toldF ((dsL terms m 1065353216 s n).take i) terms m)) (20005 / 10000) := by
  rw [dsL_pre (by omega), dsL_at hi]
  have ht := told_bd h (ds_bd h hs i)
  have hd := drR_bd (dsS_rng hs i)
  obtain ⟨e, w1, w2, w3, w4⟩ := wide_rest (dsS_rng hs i)
  generalize fop .mul .f32 1065353216 (drR (dsS s i) 4) = y at *
  generalize toldF (dsL terms m 1065353216 s i) terms m = t at *
  have b1 := ht.2; have b2 := hd.2
  obtain ⟨e1, p1, p2, p3, p4⟩ := add32 (M := 25) ht.1 w4 (by grind) (by grind) (okR (by decide +kernel) (by decide +kernel))
  obtain ⟨e2, q1, q2, q3, q4⟩ := sub32 (M := 3) p4 ht.1 (by grind) (by grind) (okR (by decide +kernel) (by decide +kernel))
  exact ⟨q4, by grind, by grind⟩
/-- what goes on is bounded, and leaves no rest -/
theorem pa_bd {a terms : List Nat} {m : Nat} (h : TmI terms m) (ha : ∀ i, i < a.length → Bd (a.getD i 0) 24) : ∀ k, ∀ i, i < (a ++ paO a terms m k).length → Bd ((a ++ paO a terms m k).getD i 0) 24
  | 0, i, hi => by
    rw [show a ++ paO a terms m 0 = a from List.append_nil a] at hi ⊢
    exact ha i hi
  | k + 1, i, hi => by
    have ih := pa_bd h ha k
    have e : a ++ paO a terms m (k + 1) = (a ++ paO a terms m k) ++ [toldF (a ++ paO a terms m k) terms m] := by rw [paO, List.append_assoc]
    rw [e] at hi ⊢
    exact snoc_bd ih ((told_bd h ih).mono (by decide +kernel)) i hi
theorem paO_pre {a terms : List Nat} {m k : Nat} : ∀ {n : Nat}, k ≤ n → (paO a terms m n).take k = paO a terms m k
  | 0, h => by obtain rfl : k = 0 := by omega
               rfl
  | n + 1, h => by
    rcases Nat.lt_or_ge n k with h1 | h1
    · obtain rfl : k = n + 1 := by omega
      rw [List.take_of_length_le (by rw [paO_len]; omega)]
    · rw [paO, List.take_append_of_le_length (by rw [paO_len]; omega)]
      exact paO_pre h1
theorem later_0 {a terms : List Nat} {m : Nat} (h : TmI terms m) (ha : ∀ i, i < a.length → Bd (a.getD i 0) 24) {k n : Nat} (hk : k < n) :
    fop .sub .f32 ((a ++ paO a terms m n).getD (a.length + k) 0) (toldF ((a ++ paO a terms m n).take (a.length + k)) terms m) = 0 := by
  have e1 : (a ++ paO a terms m n).take (a.length + k) = a ++ paO a terms m k := by
    rw [List.take_length_add_append, paO_pre (by omega)]
  have e2 : (a ++ paO a terms m n).getD (a.length + k) 0 = toldF (a ++ paO a terms m k) terms m := by
    have e3 : (a ++ paO a terms m n).getD (a.length + k) 0 = (paO a terms m n).getD k 0 := by
      simp only [List.getD_eq_getElem?_getD]
      rw [List.getElem?_append_right (by omega), show a.length + k - a.length = k by omega]
    have e4 : (paO a terms m n).getD k 0 = ((paO a terms m n).take (k + 1)).getD k 0 := by
      simp only [List.getD_eq_getElem?_getD, List.getElem?_take]
      rw [if_pos (by omega)]
    rw [e3, e4, paO_pre (by omega), paO, getD_app, if_neg (by rw [paO_len]; omega), if_pos (by rw [paO_len])]
  rw [e1, e2]
  exact sub_same (told_bd h (pa_bd h ha k)).1
/-- a gap that is not wide -/
theorem gap2_ok {c : Nat} (h : Bd c (20005 / 10000)) : fcmp .gtr .f64 (gapD (fconv .f32 .f64 c) 0) 4611688270227201589 = false := by
  have hk : Fnt .f64 4611688270227201589 ∧ 20009 / 10000 ≤ rv .f64 4611688270227201589 := by unfold Fnt; decide +kernel
  have h0 := fnt_0
  have b := h.2
  obtain ⟨e, p1, p2, p3, p4⟩ := wide_e (M := 3) (h.mono (by grind)) (okR (by decide +kernel) (by decide +kernel))
  obtain ⟨e1, q1, q2, q3, q4⟩ := sub64 (M := 3) p4 h0.1 (by rw [h0.2]; grind) (by rw [h0.2]; grind) (okR (by decide +kernel) (by decide +kernel))
  obtain ⟨e2, r1, r2, r3, r4⟩ := sub64 (M := 3) h0.1 p4 (by rw [h0.2]; grind) (by rw [h0.2]; grind) (okR (by decide +kernel) (by decide +kernel))
  rw [h0.2] at q1 r1
  unfold gapD
  split
  · rw [gtr_rv r4 hk.1]; exact decide_eq_false (by grind)
  · rw [gtr_rv q4 hk.1]; exact decide_eq_false (by grind)
theorem gap0_ok : fcmp .gtr .f64 (gapD (fconv .f32 .f64 0) 0) 4562254508917369340 = false := by unfold gapD; decide +kernel
end Go.Proofs.Ytmnpdipiffmnhaa
