import Derived.Test.YtffkjkiaageghaaZT99
import Derived.Test.YtffkjkiaageghaaZT98
set_option linter.unusedVariables false
set_option linter.unusedSimpArgs false
set_option maxRecDepth 20000
set_option maxHeartbeats 4000000
namespace Go.Proofs.Ytffkjkiaageghaa
open Go.Aw

def ndL (ks : List Nat) : List Nat := ks.map fun k : Nat => hf (k : Int)
def kS (ks : List Nat) (i : Nat) : Int := ((ks.take i).map fun k : Nat => (k : Int)).sum
theorem ndL_len (ks : List Nat) : (ndL ks).length = ks.length := by simp [ndL]
theorem ndL_get (ks : List Nat) (i : Nat) : (ndL ks).getD i 0 = hf ((ks.getD i 0 : Nat) : Int) := by
  unfold ndL
  rw [List.getD_eq_getElem?_getD, List.getD_eq_getElem?_getD, List.getElem?_map]
  cases ks[i]? with
  | none => exact hf_0.symm
  | some x => rfl
theorem kS_0 (ks : List Nat) : kS ks 0 = 0 := by simp [kS]
theorem kS_s {ks : List Nat} {i : Nat} (h : i < ks.length) : kS ks (i + 1) = kS ks i + ((ks.getD i 0 : Nat) : Int) := by
  unfold kS
  rw [List.take_succ_eq_append_getElem h, List.map_append, List.sum_append]
  simp [List.getD_eq_getElem?_getD, h]
theorem ks_le {ks : List Nat} (h : ∀ x ∈ ks, x ≤ 8) (i : Nat) : ks.getD i 0 ≤ 8 := by
  rw [List.getD_eq_getElem?_getD]
  cases hj : ks[i]? with
  | none => simp
  | some x => exact h x (List.mem_of_getElem? hj)
theorem kS_rng {ks : List Nat} (h : ∀ x ∈ ks, x ≤ 8) : ∀ i, i ≤ ks.length → 0 ≤ kS ks i ∧ kS ks i ≤ 8 * (i : Int)
  | 0, _ => by rw [kS_0]; omega
  | i + 1, hi => by
    have ih := kS_rng h i (by omega)
    have := ks_le h i
    rw [kS_s (by omega)]; omega
theorem run_all {ks : List Nat} {a b h M : Int} {ld : Nat} (hks : ∀ x ∈ ks, x ≤ 8) (hn : ks.length ≤ 12) (hld : 1 ≤ ld) (ha : 0 ≤ a ∧ a ≤ M) (hM : M ≤ 200) (hb : 0 ≤ b ∧ b < h ∧ h ≤ M) :
    ∀ i, i ≤ ks.length → Rel (rkS (ndL ks) (hf a) (hf b) (hf h) ld i) (iS ks a b h ld i) ∧ Inv ks.length a M (kS ks i) ld i (iS ks a b h ld i)
  | 0, _ => by
    have hz : ∀ j, (List.replicate ks.length (0 : Int)).getD j 0 = 0 := fun j => by
      rw [List.getD_eq_getElem?_getD, List.getElem?_replicate]; split <;> rfl
    refine ⟨⟨rfl, hf_0.symm, rfl, ?_⟩, ⟨ha.1, fun x hx => by rw [(List.mem_replicate.1 hx).2]; exact Int.le_refl 0, by simp [iS], by simp [iS]; exact ha.2, Int.le_refl 0, by rw [kS_0]; exact Int.le_refl 0, fun j _ => hz j, Int.le_refl 0, fun _ => ⟨hz, by rw [kS_0]; simp [iS]⟩⟩⟩
    simp only [rkS, iS, ndL_len, List.map_replicate, hf_0]
  | i + 1, hi => by
    obtain ⟨h1, h2⟩ := run_all hks hn hld ha hM hb i (by omega)
    have hk := kS_rng hks i (by omega)
    have h8 := ks_le hks i
    have := inv_step (need := ((ks.getD i 0 : Nat) : Int)) (b := b) (h := h) h2 h1 (by omega) hld hM (by omega) (by omega) hb
    rw [rkS, iS, ndL_get, kS_s (by omega)]
    exact this
theorem zero_sum {l : List Int} (h : ∀ j, l.getD j 0 = 0) : ∀ x ∈ l, x = 0 := fun x hx => by
  obtain ⟨j, hj, rfl⟩ := List.getElem_of_mem hx
  have := h j
  rwa [List.getD_eq_getElem?_getD, List.getElem?_eq_getElem hj] at this
theorem never {ks : List Nat} {ld : Nat} (hks : ∀ x ∈ ks, x ≤ 8) (hn : ks.length ≤ 12) (hld : 1 ≤ ld) : ∀ i, i ≤ ks.length → (iS ks 200 0 2 ld i).ct = 0 ∧ (iS ks 200 0 2 ld i).la = 0
  | 0, _ => ⟨rfl, rfl⟩
  | i + 1, hi => by
    obtain ⟨c0, l0⟩ := never hks hn hld i (by omega)
    have hI := (run_all (a := 200) (b := 0) (h := 2) (M := 200) (ld := ld) hks hn hld (by omega) (by omega) (by omega) i (by omega)).2
    obtain ⟨z, hst⟩ := hI.no c0
    have hk := kS_rng hks i (by omega)
    have h8 := ks_le hks i
    have e1 : i1 (iS ks 200 0 2 ld i) ld i = 200 - kS ks i := by
      unfold i1
      split
      · rw [z, hst, l0]; omega
      · rw [hst, l0]; omega
    have hsum := sum_nn _ (S_mem (i := rkO ld i + (i - rkO ld i)) (j := rkO ld i) hI.nn)
    have e2 : ¬ iA (iS ks 200 0 2 ld i) ld i ((ks.getD i 0 : Nat) : Int) ≤ 0 := by unfold iA i2; rw [e1]; omega
    rw [iS]
    unfold iN
    rw [if_neg e2]
    refine ⟨c0, ?_⟩
    simp only [iL, e1, l0]; omega
theorem out_hf {ks : List Nat} {a b h M : Int} {ld : Nat} (hks : ∀ x ∈ ks, x ≤ 8) (hn : ks.length ≤ 12) (hld : 1 ≤ ld) (ha : 0 ≤ a ∧ a ≤ M) (hM : M ≤ 200) (hb : 0 ≤ b ∧ b < h ∧ h ≤ M) {i : Nat} (hi : i < ks.length) :
    (rkOut (ndL ks) (hf a) (hf b) (hf h) ld).getD i 0 = hf (iS ks a b h ld (i + 1)).st ∧ 0 ≤ (iS ks a b h ld (i + 1)).st ∧ (iS ks a b h ld (i + 1)).st ≤ M := by
  obtain ⟨h1, h2⟩ := run_all hks hn hld ha hM hb (i + 1) (by omega)
  have hs := sum_nn _ (S_mem (i := i + 1) (j := i + 1 - ld) h2.nn)
  have := h2.pos
  have := h2.st
  refine ⟨?_, by omega, by omega⟩
  rw [rkOut_get (by rw [ndL_len]; exact hi)]
  exact h1.1
theorem fin_hf {x : Int} (h : 0 ≤ x ∧ x ≤ 512) : fin (hf x) = true := by
  obtain ⟨n, rfl⟩ : ∃ n : Nat, x = (n : Int) := ⟨x.toNat, by omega⟩
  exact hw_fin (by omega)
theorem out_fin {ks : List Nat} {a b h M : Int} {ld : Nat} (hks : ∀ x ∈ ks, x ≤ 8) (hn : ks.length ≤ 12) (hld : 1 ≤ ld) (ha : 0 ≤ a ∧ a ≤ M) (hM : M ≤ 200) (hb : 0 ≤ b ∧ b < h ∧ h ≤ M) :
    (rkOut (ndL ks) (hf a) (hf b) (hf h) ld).all fin = true ∧ fin (rkS (ndL ks) (hf a) (hf b) (hf h) ld (ndL ks).length).la = true := by
  constructor
  · refine List.all_eq_true.2 fun x hx => ?_
    obtain ⟨i, hi, rfl⟩ := List.getElem_of_mem hx
    rw [rkOut_len, ndL_len] at hi
    obtain ⟨h1, h2, h3⟩ := out_hf hks hn hld ha hM hb hi
    have e : (rkOut (ndL ks) (hf a) (hf b) (hf h) ld)[i] = (rkOut (ndL ks) (hf a) (hf b) (hf h) ld).getD i 0 := by
      rw [List.getD_eq_getElem?_getD, List.getElem?_eq_getElem (by rw [rkOut_len, ndL_len]; exact hi)]; rfl
    rw [e, h1]
    exact fin_hf (by omega)
  · rw [ndL_len]
    obtain ⟨h1, h2⟩ := run_all hks hn hld ha hM hb ks.length (Nat.le_refl _)
    have hk := kS_rng hks ks.length (Nat.le_refl _)
    have := h2.la
    have := h2.laK
    rw [h1.2.1]
    exact fin_hf (by omega)
theorem nd_fin {ks : List Nat} (hks : ∀ x ∈ ks, x ≤ 8) : (ndL ks).all fin = true := List.all_eq_true.2 fun x hx => by
  simp only [ndL, List.mem_map] at hx
  obtain ⟨k, hk, rfl⟩ := hx
  have := hks k hk
  exact fin_hf (by omega)
theorem nd_ser {ks : List Nat} (hks : ∀ x ∈ ks, x ≤ 8) (hn : 1 ≤ ks.length ∧ ks.length ≤ 12) : isSer (ndL ks) = true := by
  unfold isSer
  rw [nd_fin hks, ndL_len, decide_eq_true hn.1, decide_eq_true (by omega)]; rfl
theorem least_hf {x : Int} (h : 0 ≤ x ∧ x ≤ 512) : least (hf x) = true := by
  unfold least
  rw [fin_hf h]
  have := hw_geq .f32 (a := x) (b := 0) (by omega) (by omega)
  rw [show hw .f32 0 = 0 from hf_0] at this
  rw [this, decide_eq_true h.1]; rfl
theorem nd_least {ks : List Nat} (hks : ∀ x ∈ ks, x ≤ 8) : (ndL ks).all least = true := List.all_eq_true.2 fun x hx => by
  simp only [ndL, List.mem_map] at hx
  obtain ⟨k, hk, rfl⟩ := hx
  have := hks k hk
  exact least_hf (by omega)
theorem p3_least {a b h : Int} (ha : 0 ≤ a ∧ a ≤ 512) (hb : 0 ≤ b ∧ b ≤ 512) (hh : 0 ≤ h ∧ h ≤ 512) : [hf a, hf b, hf h].all least = true := by
  simp [least_hf ha, least_hf hb, least_hf hh]
theorem gt_hf {b h : Int} (hb : 0 ≤ b ∧ b < h ∧ h ≤ 512) : fcmp .gtr .f32 (hf h) (hf b) = true := by
  rw [hw_gtr .f32 (by omega) (by omega)]; exact decide_eq_true hb.2.1

/-! ### gaps -/
def gapF (a b : Nat) : Nat := fmx .f64 (fop .sub .f64 (fconv .f32 .f64 a) (fconv .f32 .f64 b)) (fop .sub .f64 (fconv .f32 .f64 b) (fconv .f32 .f64 a))
theorem fmx0 : fmx .f64 0 0 = 0 := by decide +kernel
theorem hd_0 : hw .f64 0 = 0 := by decide +kernel
theorem gap_hf {x : Int} (h : 0 ≤ x ∧ x ≤ 512) : gapF (hf x) (hf x) = 0 := by
  obtain ⟨n, rfl⟩ : ∃ n : Nat, x = (n : Int) := ⟨x.toNat, by omega⟩
  unfold gapF
  rw [show fconv .f32 .f64 (hf (n : Int)) = hw .f64 (n : Int) from hw_wide (by omega), hw_sub .f64 (by omega) (by omega) (by omega), Int.sub_self, hd_0, fmx0]
theorem mile : fcmp .gtr .f64 0 4562254508917369340 = false ∧ fcmp .lss .f64 0 4562254508917369340 = true := by constructor <;> decide +kernel
theorem wide_hf {x : Int} (h : 0 ≤ x ∧ x ≤ 512) : fconv .f32 .f64 (hf x) = hw .f64 x := by
  obtain ⟨n, rfl⟩ : ∃ n : Nat, x = (n : Int) := ⟨x.toNat, by omega⟩
  exact hw_wide (by omega)
theorem thin_hf {x : Int} (h : 0 ≤ x ∧ x ≤ 512) : fconv .f64 .f32 (hw .f64 x) = hf x := by
  obtain ⟨n, rfl⟩ : ∃ n : Nat, x = (n : Int) := ⟨x.toNat, by omega⟩
  exact hw_thin (by omega)
theorem add_mile_all : (List.range 97).all (fun K => (List.range (K + 1)).all fun x => !fcmp .gtr .f64 (hw .f64 (x : Int)) (fop .add .f64 (hw .f64 (K : Int)) 4562254508917369340)) = true := by decide +kernel
theorem add_mile {x K : Int} (h : 0 ≤ x ∧ x ≤ K) (hK : K ≤ 96) : fcmp .gtr .f64 (hw .f64 x) (fop .add .f64 (hw .f64 K) 4562254508917369340) = false := by
  obtain ⟨n, rfl⟩ : ∃ n : Nat, x = (n : Int) := ⟨x.toNat, by omega⟩
  obtain ⟨m, rfl⟩ : ∃ m : Nat, K = (m : Int) := ⟨K.toNat, by omega⟩
  have := List.all_eq_true.1 (List.all_eq_true.1 add_mile_all m (List.mem_range.2 (by omega))) n (List.mem_range.2 (by omega))
  simpa using this
theorem hw_max (k : FloatKind) {a b : Int} (ha : a.natAbs ≤ 512) (hb : b.natAbs ≤ 512) : fmx k (hw k a) (hw k b) = hw k (max a b) := by
  unfold fmx
  rw [hw_order k ha hb]
  rcases Int.lt_trichotomy a b with g | g | g
  · rw [cmp_lt g, show max a b = b by omega]
  · subst g; rw [cmp_eq rfl, show max a a = a by omega]; simp
  · rw [cmp_gt g, show max a b = a by omega]
end Go.Proofs.Ytffkjkiaageghaa
