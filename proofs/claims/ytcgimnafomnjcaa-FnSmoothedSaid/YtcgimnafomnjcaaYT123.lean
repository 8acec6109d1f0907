import Derived.Test.YtcgimnafomnjcaaYT122
import Derived.Test.YtcgimnafomnjcaaYT79
import Derived.Test.YtcgimnafomnjcaaYT72
set_option linter.unusedVariables false
set_option linter.unusedSimpArgs false
set_option maxRecDepth 20000
set_option maxHeartbeats 8000000
namespace Go.Proofs.Ytcgimnafomnjcaa
open Go.Aw

/-! ### what is drawn is bounded -/
def shW (c : Nat) : Bool := decide (c < 2 * FloatKind.f32.format.signWeight) && decide (c % FloatKind.f32.format.signWeight < FloatKind.f32.format.infRung) && decide (0 ≤ rv .f32 c) && decide (rv .f32 c ≤ 1) && isShr c
theorem shW_t {c : Nat} (h : shW c = true) : (Fnt .f32 c ∧ 0 ≤ rv .f32 c ∧ rv .f32 c ≤ 1) ∧ isShr c = true := by
  simp only [shW, Bool.and_eq_true, decide_eq_true_eq] at h
  exact ⟨⟨⟨h.1.1.1.1, h.1.1.1.2⟩, h.1.1.2, h.1.2⟩, h.2⟩
theorem shB_of {h : SH} (h1 : shW h.l = true) (h2 : shW h.s = true) (h3 : shW h.c = true) (h4 : shW h.d = true) : ShB h := by
  have a1 := shW_t h1; have a2 := shW_t h2; have a3 := shW_t h3; have a4 := shW_t h4
  exact ⟨by unfold validH; rw [a1.2, a2.2, a3.2, a4.2]; rfl, a1.1, a2.1, a3.1, a4.1⟩
theorem e8_tab2 : (List.range 9).all (fun n => shW (e8 (n : Int))) = true := by decide +kernel
theorem e8_sh {x : Int} (h : 0 ≤ x ∧ x < 9) : shW (e8 x) = true := by
  obtain ⟨n, rfl⟩ : ∃ n : Nat, x = (n : Int) := ⟨x.toNat, by omega⟩
  exact List.all_eq_true.1 e8_tab2 n (List.mem_range.2 (by omega))
theorem d8_tab : (List.range 4).all (fun n => shW (fop .sub .f32 1065353216 (e8 (n : Int)))) = true := by decide +kernel
theorem d8_sh {x : Int} (h : 0 ≤ x ∧ x < 4) : shW (fop .sub .f32 1065353216 (e8 x)) = true := by
  obtain ⟨n, rfl⟩ : ∃ n : Nat, x = (n : Int) := ⟨x.toNat, by omega⟩
  exact List.all_eq_true.1 d8_tab n (List.mem_range.2 (by omega))
theorem shD_b {l : List Nat} (h : Byt l) : ShB (shD l) :=
  shB_of (e8_sh (dvD_rng h 0 (by omega))) (e8_sh (dvD_rng h 1 (by omega))) (e8_sh (dvD_rng h 2 (by omega))) (d8_sh (dvD_rng h 3 (by omega)))
/-- the same shares, and all of the slope kept -/
theorem shD_1 {l : List Nat} (h : Byt l) : ShB ⟨(shD l).l, (shD l).s, (shD l).c, 1065353216⟩ :=
  shB_of (e8_sh (dvD_rng h 0 (by omega))) (e8_sh (dvD_rng h 1 (by omega))) (e8_sh (dvD_rng h 2 (by omega))) (show shW 1065353216 = true by decide +kernel)
theorem hw_bd {x : Int} {m : Int} (h : -m ≤ x ∧ x ≤ m) (hm : m ≤ 512) : Bd (hw .f32 x) ((m : Rat) / 2) := by
  have h1 := hw_rv (x := x) (by omega)
  have h2 : (x : Rat) ≤ (m : Rat) := Rat.intCast_le_intCast.2 h.2
  have h3 : ((-m : Int) : Rat) ≤ (x : Rat) := Rat.intCast_le_intCast.2 h.1
  have h4 : ((-m : Int) : Rat) = -(m : Rat) := by push_cast; rfl
  rw [h4] at h3
  exact ⟨h1.1, by have := h1.2; grind, by have := h1.2; grind⟩
theorem hw_64 {x : Int} (h : -128 ≤ x ∧ x ≤ 128) : Bd (hw .f32 x) 64 := (hw_bd (m := 128) h (by omega)).mono (by have : ((128 : Int) : Rat) = 128 := rfl; grind)
theorem stD_b {l : List Nat} (h : Byt l) : StB 64 (stD l) := by
  have a0 := dvD_rng h 0 (n := 33) (by omega)
  have a1 := dvD_rng h 1 (n := 9) (by omega)
  have a2 := dvD_rng h 2 (n := 5) (by omega)
  have hn : 1 ≤ nSD l ∧ nSD l ≤ 5 := by unfold nSD; omega
  have hl : (stD l).se.length = nSD l := seD_len l (nSD l)
  refine ⟨hw_64 (by omega), ?_, fun i hi => ?_, by omega, ?_⟩
  · have h1 := q4_rv (x := dvD l 1 9 - 4) (by omega)
    have h2 : ((dvD l 1 9 - 4 : Int) : Rat) ≤ ((4 : Int) : Rat) := Rat.intCast_le_intCast.2 (by omega)
    have h3 : ((-4 : Int) : Rat) ≤ ((dvD l 1 9 - 4 : Int) : Rat) := Rat.intCast_le_intCast.2 (by omega)
    have h4 : ((4 : Int) : Rat) = 4 := rfl
    have h5 : ((-4 : Int) : Rat) = -4 := rfl
    rw [h4] at h2; rw [h5] at h3
    exact ⟨h1.1, by show rv .f32 (q4 _) ≤ _; have := h1.2; grind, by show _ ≤ rv .f32 (q4 _); have := h1.2; grind⟩
  · rw [hl] at hi
    show Bd ((seD l (nSD l)).getD i 0) 64
    rw [seD_get hi]
    have := dvD_rng h (3 + i) (n := 9) (by omega)
    exact hw_64 (by omega)
  · rw [hl]
    show 0 ≤ atD l (nSD l) ∧ atD l (nSD l) < _
    unfold atD
    split
    · omega
    · have := dvD_rng h (3 + nSD l) (n := ((nSD l : Nat) : Int)) (by omega); omega
/-- lists of halves -/
def HwL (a : List Nat) (x : Nat → Int) : Prop := ∀ i, i < a.length → a.getD i 0 = hw .f32 (x i) ∧ -128 ≤ x i ∧ x i ≤ 128
theorem HwL.bd {a : List Nat} {x : Nat → Int} (h : HwL a x) : ∀ i, i < a.length → Bd (a.getD i 0) 64 := fun i hi => by rw [(h i hi).1]; exact hw_64 (h i hi).2
theorem serL_hw {l : List Nat} (h : Byt l) {n : Nat} (hn : n ≤ 96) : HwL (serL l n) (serX l) := fun i hi => by
  rw [serL_len] at hi
  exact ⟨getD_mapR _ hi, serX_bd h i (by omega)⟩
theorem serX_01 {l : List Nat} (h : Byt l) : -128 ≤ serX l 1 - serX l 0 ∧ serX l 1 - serX l 0 ≤ 128 := by
  have a1 := dvD_rng h 1 (n := 5) (by omega)
  have b0 := dvD_rng h (3 + 0 % perD l) (n := 9) (by omega)
  have b1 := dvD_rng h (3 + 1 % perD l) (n := 9) (by omega)
  have c0 := dvD_rng h (3 + perD l + 0) (n := 5) (by omega)
  have c1 := dvD_rng h (3 + perD l + 1) (n := 5) (by omega)
  have t0 := tdiv_bd (s := dvD l 1 5 - 2) (i := 0) (by omega)
  have t1 := tdiv_bd (s := dvD l 1 5 - 2) (i := 1) (by omega)
  unfold serX
  omega
/-! ### the start of a list with period one -/
theorem by1_tab : (List.range 513).all (fun n => decide (fop .quo .f32 (hw .f32 ((n : Int) - 256)) (fint .f32 1) = hw .f32 ((n : Int) - 256))) = true := by decide +kernel
theorem by1 {x : Int} (h : -256 ≤ x ∧ x ≤ 256) : fop .quo .f32 (hw .f32 x) (fint .f32 ((1 : Nat) : Int)) = hw .f32 x := by
  obtain ⟨n, hn⟩ : ∃ n : Nat, x = (n : Int) - 256 := ⟨(x + 256).toNat, by omega⟩
  have := List.all_eq_true.1 by1_tab n (List.mem_range.2 (by omega))
  subst hn
  simpa using this
theorem mean1 {x : Int} (h : -128 ≤ x ∧ x ≤ 128) : meanF [hw .f32 x] = hw .f32 x := by
  unfold meanF sumF
  show fop .quo .f32 (fop .add .f32 0 (hw .f32 x)) (fint .f32 ((1 : Nat) : Int)) = _
  have h0 : (0 : Nat) = hw .f32 0 := by decide +kernel
  rw [show fop .add .f32 0 (hw .f32 x) = fop .add .f32 (hw .f32 0) (hw .f32 x) by rw [← h0], hw_add .f32 (by omega) (by omega) (by omega), Int.zero_add, by1 (by omega)]
theorem start1 {a : List Nat} {x : Nat → Int} (h : HwL a x) (h1 : 1 ≤ a.length) (hl : a.length ≤ 96) (hd : -128 ≤ x 1 - x 0 ∧ x 1 - x 0 ≤ 128) :
    startF a 1 = (⟨hw .f32 (x 0), (if 2 ≤ a.length then hw .f32 (x 1 - x 0) else 0), [0], 0⟩, true) ∧ StB 64 (startF a 1).1 := by
  have h0 : (0 : Nat) = hw .f32 0 := by decide +kernel
  have g0 := h 0 (by omega)
  have t1 : (a.take 1).drop 0 = [a.getD 0 0] := by
    cases a with
    | nil => simp at h1
    | cons c r => rfl
  have hlv : ssLv a 1 = hw .f32 (x 0) := by unfold ssLv; rw [t1, g0.1, mean1 g0.2]
  have hsl : ssSl a 1 = (if 2 ≤ a.length then hw .f32 (x 1 - x 0) else 0) := by
    unfold ssSl
    split
    · rename_i h2
      have g1 := h 1 (by omega)
      have t2 : (a.take (2 * 1)).drop 1 = [a.getD 1 0] := by
        match a, h2 with
        | c :: d :: r, _ => rfl
      rw [t2, g1.1, mean1 g1.2, hlv, hw_sub .f32 (by omega) (by omega) (by omega), by1 (by omega)]
    · rfl
  have hv : ssT a 1 = ⟨hw .f32 (x 0), (if 2 ≤ a.length then hw .f32 (x 1 - x 0) else 0), [0], 0⟩ := by
    unfold ssT
    rw [hlv, hsl]; rfl
  have hb : StB 64 ⟨hw .f32 (x 0), (if 2 ≤ a.length then hw .f32 (x 1 - x 0) else 0), [0], 0⟩ := by
    refine ⟨hw_64 g0.2, ?_, fun i hi => ?_, by simp, by simp⟩
    · show Bd (if 2 ≤ a.length then hw .f32 (x 1 - x 0) else 0) 64
      split
      · exact hw_64 hd
      · rw [h0]; exact hw_64 (by omega)
    · have hi0 : i = 0 := by simp at hi; omega
      subst hi0
      show Bd 0 64
      rw [h0]; exact hw_64 (by omega)
  have hs : startF a 1 = (⟨hw .f32 (x 0), (if 2 ≤ a.length then hw .f32 (x 1 - x 0) else 0), [0], 0⟩, true) := by
    unfold startF
    have hp : perOk a 1 = true := by
      unfold perOk isSer
      rw [decide_eq_true h1, decide_eq_true hl, all_fin2 fun i hi => (h.bd i hi).1, show inR 1 1 24 = true by decide, decide_eq_true (by omega : (1 : Int) ≤ a.length)]; rfl
    rw [hp, show (1 : Int).toNat = 1 from rfl, hv, hb.valid]; rfl
  exact ⟨hs, by rw [hs]; exact hb⟩
/-! ### the best shares -/
theorem miss_ok {s : ST} {h : SH} {a : List Nat} (hs : StB 64 s) (hh : ShB h) (ha : ∀ i, i < a.length → Bd (a.getD i 0) 64) (h1 : 1 ≤ a.length) (hl : a.length ≤ 12) :
    ∃ m, missSh s h a = (m, true) ∧ m = fop .quo .f32 (dotF (rnE s h a) (rnE s h a)) (fint .f32 (a.length : Int)) ∧ MeanF (fop .quo .f64 (sq64 (rnE s h a) a.length) (fint .f64 (a.length : Int))) m := by
  have hr := run_ok hs hh ha h1 hl
  have hle := rnE_len s h a
  have hb : ∀ i, i < a.length → Bd ((rnE s h a).getD i 0) 5000000000000 := fun i hi => by
    have : (rnE s h a).getD i 0 = erF (rnS s h a i) h (a.getD i 0) := getD_mapR _ hi
    rw [this]
    exact ((run_bd hs hh ha hl i (by omega)).2 hi).2.1
  have hg := mean_gap hle hb h1 hl
  refine ⟨_, ?_, rfl, hg⟩
  unfold missSh
  rw [hr]
  show numF (fop .quo .f32 (dotF (rnE s h a) (rnE s h a)) (fint .f32 ((rnE s h a).length : Nat))) = _
  rw [hle]
  unfold numF
  rw [if_pos (show fin _ = true from finB_Fn hg.fm.1)]
theorem hj_tab : (List.range 27).all (fun k => shW (bsT 2 (k : Int)).l && shW (bsT 2 (k : Int)).s && shW (bsT 2 (k : Int)).c && shW (bsT 2 (k : Int)).d) = true := by decide +kernel
theorem bsT_b {k : Nat} (h : k < 27) : ShB (bsT 2 (k : Int)) := by
  have := List.all_eq_true.1 hj_tab k (List.mem_range.2 h)
  simp only [Bool.and_eq_true] at this
  exact shB_of this.1.1.1 this.1.1.2 this.1.2 this.2
theorem bs_fact {m : SH → Nat × Bool} (hm : ∀ j : Nat, j < 27 → (m (bsT 2 (j : Int))).2 = true ∧ Fnt .f32 (m (bsT 2 (j : Int))).1) : ∀ k : Nat, 1 ≤ k → k ≤ 27 → (bsA m 2 k).f = true ∧ Fnt .f32 (bsA m 2 k).x ∧ (∃ j : Nat, j < k ∧ (bsA m 2 k).h = bsT 2 (j : Int) ∧ (bsA m 2 k).x = (m (bsT 2 (j : Int))).1) ∧ ∀ j : Nat, j < k → rv .f32 (bsA m 2 k).x ≤ rv .f32 (m (bsT 2 (j : Int))).1
  | 0, h, _ => by omega
  | 1, _, _ => by
    have h0 := hm 0 (by omega)
    rw [bsA_t h0.1 (.inl rfl)]
    exact ⟨rfl, h0.2, ⟨0, by omega, rfl, rfl⟩, fun j hj => by
      obtain rfl : j = 0 := by omega
      exact Rat.le_refl⟩
  | k + 2, _, h2 => by
    obtain ⟨i1, i2, ⟨j0, i3, i4, i5⟩, i6⟩ := bs_fact hm (k + 1) (by omega) (by omega)
    have hk := hm (k + 1) (by omega)
    cases hc : fcmp .lss .f32 (m (bsT 2 ((k + 1 : Nat) : Int))).1 (bsA m 2 (k + 1)).x with
    | true =>
      rw [bsA_t hk.1 (.inr hc)]
      rw [lss_rv hk.2 i2] at hc
      have hc' := of_decide_eq_true hc
      refine ⟨rfl, hk.2, ⟨k + 1, by omega, rfl, rfl⟩, fun j hj => ?_⟩
      rcases Nat.lt_or_ge j (k + 1) with h | h
      · have := i6 j h; show rv .f32 (m (bsT 2 ((k + 1 : Nat) : Int))).1 ≤ _; grind
      · obtain rfl : j = k + 1 := by omega
        exact Rat.le_refl
    | false =>
      rw [bsA_f (fun h => by
        rcases h.2 with h | h
        · rw [i1] at h; cases h
        · rw [hc] at h; cases h)]
      rw [lss_rv hk.2 i2] at hc
      have hc' := of_decide_eq_false hc
      refine ⟨i1, i2, ⟨j0, by omega, i4, i5⟩, fun j hj => ?_⟩
      rcases Nat.lt_or_ge j (k + 1) with h | h
      · exact i6 j h
      · obtain rfl : j = k + 1 := by omega
        grind
end Go.Proofs.Ytcgimnafomnjcaa

