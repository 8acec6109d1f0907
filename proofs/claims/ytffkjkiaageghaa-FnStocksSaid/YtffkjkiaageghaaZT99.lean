import Derived.Test.YtffkjkiaageghaaZT96
import Derived.Test.YtffkjkiaageghaaZAwG
set_option linter.unusedVariables false
set_option linter.unusedSimpArgs false
set_option maxRecDepth 20000
set_option maxHeartbeats 4000000
namespace Go.Proofs.Ytffkjkiaageghaa
open Go.Aw

/-! ### a stock that runs in halves -/
abbrev hf (a : Int) : Nat := hw .f32 a
theorem hf_0 : hf 0 = 0 := by decide +kernel
theorem sum_nn : ∀ (l : List Int), (∀ x ∈ l, 0 ≤ x) → 0 ≤ l.sum
  | [], _ => by simp
  | x :: l, h => by
    have h1 := h x List.mem_cons_self
    have h2 := sum_nn l fun y hy => h y (List.mem_cons_of_mem _ hy)
    simp only [List.sum_cons]; omega
theorem fold_hf : ∀ (l : List Int) (s : Int), (∀ x ∈ l, 0 ≤ x) → 0 ≤ s → s + l.sum ≤ 512 → (l.map hf).foldl (fun s x => fop .add .f32 s x) (hf s) = hf (s + l.sum)
  | [], s, _, _, _ => by simp
  | x :: l, s, h, hs, hb => by
    have h1 := h x List.mem_cons_self
    have h2 := sum_nn l fun y hy => h y (List.mem_cons_of_mem _ hy)
    simp only [List.sum_cons] at hb ⊢
    simp only [List.map_cons, List.foldl_cons]
    rw [hw_add .f32 (by omega) (by omega) (by omega), fold_hf l (s + x) (fun y hy => h y (List.mem_cons_of_mem _ hy)) (by omega) (by omega), Int.add_assoc]
theorem sumF_hf {l : List Int} (h : ∀ x ∈ l, 0 ≤ x) (hb : l.sum ≤ 512) : sumF (l.map hf) = hf l.sum := by
  have := fold_hf l 0 h (Int.le_refl 0) (by omega)
  rw [hf_0, Int.zero_add] at this; exact this
theorem S_split {l : List Int} {i j : Nat} (h : j < i) (hi : i ≤ l.length) : ((l.take i).drop j).sum = l.getD j 0 + ((l.take i).drop (j + 1)).sum := by
  have hj : j < (l.take i).length := by simp; omega
  rw [List.drop_eq_getElem_cons hj, List.sum_cons]
  congr 1
  have : j < l.length := by omega
  simp [List.getD_eq_getElem?_getD, this]
theorem S_snoc {l : List Int} {i j : Nat} (h : j ≤ i) (hi : i < l.length) : ((l.take (i + 1)).drop j).sum = ((l.take i).drop j).sum + l.getD i 0 := by
  rw [List.take_succ_eq_append_getElem hi, List.drop_append_of_le_length (by simp; omega), List.sum_append]
  simp [List.getD_eq_getElem?_getD, hi]
theorem S_mem {l : List Int} {i j : Nat} (h : ∀ x ∈ l, 0 ≤ x) : ∀ x ∈ (l.take i).drop j, 0 ≤ x := fun x hx => h x (List.mem_of_mem_take (List.mem_of_mem_drop hx))
theorem getD_hf (l : List Int) (j : Nat) : (l.map hf).getD j 0 = hf (l.getD j 0) := by
  rw [List.getD_eq_getElem?_getD, List.getD_eq_getElem?_getD, List.getElem?_map]
  cases l[j]? with
  | none => exact hf_0.symm
  | some x => rfl
theorem getD_nn {l : List Int} (h : ∀ x ∈ l, 0 ≤ x) (j : Nat) : 0 ≤ l.getD j 0 := by
  rw [List.getD_eq_getElem?_getD]
  cases hj : l[j]? with
  | none => simp
  | some x => exact h x (List.mem_of_getElem? hj)
theorem getD_le_sum : ∀ (l : List Int) (j : Nat), (∀ x ∈ l, 0 ≤ x) → l.getD j 0 ≤ l.sum
  | [], j, _ => by simp
  | x :: l, 0, h => by
    have := sum_nn l fun y hy => h y (List.mem_cons_of_mem _ hy)
    simp [List.getD_eq_getElem?_getD]; omega
  | x :: l, j + 1, h => by
    have h1 := h x List.mem_cons_self
    have := getD_le_sum l j fun y hy => h y (List.mem_cons_of_mem _ hy)
    simp [List.getD_eq_getElem?_getD] at this ⊢; omega

structure IK where
  st : Int
  la : Int
  ct : Int
  or : List Int
def i1 (p : IK) (ld i : Nat) : Int := if ld ≤ i then p.st + p.or.getD (i - ld) 0 else p.st
def i2 (p : IK) (ld i : Nat) (need : Int) : Int := i1 p ld i - min need (i1 p ld i)
def iL (p : IK) (ld i : Nat) (need : Int) : Int := p.la + (need - min need (i1 p ld i))
def iA (p : IK) (ld i : Nat) (need : Int) : Int := i2 p ld i need + ((p.or.take (rkO ld i + (i - rkO ld i))).drop (rkO ld i)).sum
def iN (low high : Int) (ld i : Nat) (need : Int) (p : IK) : IK :=
  if iA p ld i need ≤ low then ⟨i2 p ld i need, iL p ld i need, p.ct + 1, p.or.set i (high - iA p ld i need)⟩ else ⟨i2 p ld i need, iL p ld i need, p.ct, p.or⟩
def iS (ks : List Nat) (a b h : Int) (ld : Nat) : Nat → IK
  | 0 => ⟨a, 0, 0, List.replicate ks.length 0⟩
  | i + 1 => iN b h ld i ((ks.getD i 0 : Nat) : Int) (iS ks a b h ld i)
def Rel (p : RK) (q : IK) : Prop := p.st = hf q.st ∧ p.la = hf q.la ∧ p.ct = q.ct ∧ p.or = q.or.map hf
structure Inv (n : Nat) (a M K : Int) (ld i : Nat) (q : IK) : Prop where
  st : 0 ≤ q.st
  nn : ∀ x ∈ q.or, 0 ≤ x
  len : q.or.length = n
  pos : q.st + ((q.or.take i).drop (i - ld)).sum ≤ M
  la : 0 ≤ q.la
  laK : q.la ≤ K
  far : ∀ j, i ≤ j → q.or.getD j 0 = 0
  ct : 0 ≤ q.ct
  no : q.ct = 0 → (∀ j, q.or.getD j 0 = 0) ∧ q.st = a - K + q.la
theorem inv_step {n : Nat} {a M K b h need : Int} {ld i : Nat} {p : RK} {q : IK} (hq : Inv n a M K ld i q) (hr : Rel p q) (hi : i < n) (hld : 1 ≤ ld) (hM : M ≤ 200) (hK : K ≤ 200) (hn : 0 ≤ need ∧ need ≤ 8) (hb : 0 ≤ b ∧ b < h ∧ h ≤ M) :
    Rel (rkN (hf b) (hf h) ld i (hf need) p) (iN b h ld i need q) ∧ Inv n a M (K + need) ld (i + 1) (iN b h ld i need q) := by
  obtain ⟨r1, r2, r3, r4⟩ := hr
  have hlen := hq.len
  -- what has come and what is still to come
  have hO : rkO ld i ≤ i := by unfold rkO; split <;> omega
  have hO2 : i + 1 - ld = rkO ld i := by unfold rkO; split <;> omega
  have hS0 := sum_nn _ (S_mem (i := i) (j := rkO ld i) hq.nn)
  have hsplit : i1 q ld i + ((q.or.take i).drop (rkO ld i)).sum = q.st + ((q.or.take i).drop (i - ld)).sum := by
    unfold i1 rkO
    split
    · rw [S_split (j := i - ld) (i := i) (by omega) (by omega)]; omega
    · rw [show i - ld = 0 by omega]
  have hpos := hq.pos
  have hst := hq.st
  have hg := getD_nn hq.nn (i - ld)
  have e1 : 0 ≤ i1 q ld i := by unfold i1; split <;> omega
  have e2 : 0 ≤ i2 q ld i need := by unfold i2; omega
  have e3 : i2 q ld i need ≤ i1 q ld i := by unfold i2; omega
  have e4 : 0 ≤ need - min need (i1 q ld i) := by omega
  have e5 : need - min need (i1 q ld i) ≤ need := by omega
  have hgle : q.or.getD (i - ld) 0 ≤ M := by
    by_cases hl : ld ≤ i
    · have : i1 q ld i = q.st + q.or.getD (i - ld) 0 := by unfold i1; rw [if_pos hl]
      omega
    · rw [show i - ld = 0 by omega]
      rcases Nat.eq_zero_or_pos i with h0 | h0
      · rw [hq.far 0 (by omega)]; omega
      · have := S_split (l := q.or) (j := 0) (i := i) h0 (by omega)
        have h2 := sum_nn _ (S_mem (i := i) (j := 0 + 1) hq.nn)
        rw [show i - ld = 0 by omega] at hpos
        omega
  have f1 : rk1 p ld i = hf (i1 q ld i) := by
    unfold rk1 i1
    split
    · rename_i hl
      have : i1 q ld i = q.st + q.or.getD (i - ld) 0 := by unfold i1; rw [if_pos hl]
      rw [r1, r4, getD_hf, hw_add .f32 (by omega) (by omega) (by omega)]
    · exact r1
  have f2 : rk2 p ld i (hf need) = hf (i2 q ld i need) := by
    unfold rk2 i2
    rw [f1, hw_min .f32 (by omega) (by omega), hw_sub .f32 (by omega) (by omega) (by omega)]
  have hla := hq.la
  have hlaK := hq.laK
  have f3 : rkL p ld i (hf need) = hf (iL q ld i need) := by
    unfold rkL iL
    rw [f1, hw_min .f32 (by omega) (by omega), hw_sub .f32 (by omega) (by omega) (by omega), r2, hw_add .f32 (by omega) (by omega) (by omega)]
  have hA : iA q ld i need = i2 q ld i need + ((q.or.take i).drop (rkO ld i)).sum := by unfold iA; rw [show rkO ld i + (i - rkO ld i) = i by omega]
  have f4 : rkA p ld i (hf need) = hf (iA q ld i need) := by
    rw [hA]
    unfold rkA
    rw [show rkO ld i + (i - rkO ld i) = i by omega, f2, r4, ← List.map_take, ← List.map_drop, sumF_hf (S_mem hq.nn) (by omega), hw_add .f32 (by omega) (by omega) (by omega)]
  have hA0 : 0 ≤ iA q ld i need := by omega
  have hAM : iA q ld i need ≤ M := by omega
  have hcmp : fcmp .leq .f32 (rkA p ld i (hf need)) (hf b) = decide (iA q ld i need ≤ b) := by rw [f4]; exact hw_leq .f32 (by omega) (by omega)
  by_cases hc : iA q ld i need ≤ b
  · have g1 : rkN (hf b) (hf h) ld i (hf need) p = ⟨rk2 p ld i (hf need), rkL p ld i (hf need), p.ct + 1, p.or.set i (fop .sub .f32 (hf h) (rkA p ld i (hf need)))⟩ := rkN_t (by rw [hcmp]; exact decide_eq_true hc)
    have g2 : iN b h ld i need q = ⟨i2 q ld i need, iL q ld i need, q.ct + 1, q.or.set i (h - iA q ld i need)⟩ := by unfold iN; rw [if_pos hc]
    rw [g1, g2]
    have hset : ∀ x ∈ q.or.set i (h - iA q ld i need), 0 ≤ x := fun x hx => by
      rcases List.mem_or_eq_of_mem_set hx with h1 | h1
      · exact hq.nn x h1
      · omega
    refine ⟨⟨f2, f3, by simp only [r3], ?_⟩, ⟨e2, hset, by simp [hlen], ?_, ?_, ?_, ?_, by have := hq.ct; simp only []; omega, fun h0 => by have := hq.ct; simp only [] at h0; omega⟩⟩
    · simp only []
      rw [f4, r4, hw_sub .f32 (by omega) (by omega) (by omega), List.map_set]
    · simp only []
      rw [hO2, S_snoc hO (by simp; omega), List.take_set_of_le (Nat.le_refl i)]
      have : (q.or.set i (h - iA q ld i need)).getD i 0 = h - iA q ld i need := by
        rw [List.getD_eq_getElem?_getD, List.getElem?_set_self (by omega)]; rfl
      rw [this]; omega
    · simp only [iL]; omega
    · simp only [iL]; omega
    · intro j hj
      have : j ≠ i := by omega
      rw [List.getD_eq_getElem?_getD, List.getElem?_set_ne (by omega), ← List.getD_eq_getElem?_getD]
      exact hq.far j (by omega)
  · have g1 : rkN (hf b) (hf h) ld i (hf need) p = ⟨rk2 p ld i (hf need), rkL p ld i (hf need), p.ct, p.or⟩ := rkN_f (by rw [hcmp]; exact decide_eq_false hc)
    have g2 : iN b h ld i need q = ⟨i2 q ld i need, iL q ld i need, q.ct, q.or⟩ := by unfold iN; rw [if_neg hc]
    rw [g1, g2]
    refine ⟨⟨f2, f3, r3, r4⟩, ⟨e2, hq.nn, hlen, ?_, ?_, ?_, fun j hj => hq.far j (by omega), hq.ct, fun h0 => ⟨(hq.no h0).1, ?_⟩⟩⟩
    · simp only []
      rw [hO2, S_snoc hO (by omega), hq.far i (Nat.le_refl i)]; omega
    · simp only [iL]; omega
    · simp only [iL]; omega
    · have h3 := (hq.no h0)
      have h4 : i1 q ld i = q.st := by unfold i1; split <;> first | rfl | (rw [h3.1]; omega)
      simp only [i2, iL, h4, h3.2]; omega
end Go.Proofs.Ytffkjkiaageghaa
