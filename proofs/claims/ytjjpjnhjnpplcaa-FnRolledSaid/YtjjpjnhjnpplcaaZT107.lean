import Derived.Test.YtjjpjnhjnpplcaaZT106
import Derived.Test.YtjjpjnhjnpplcaaZT105
set_option linter.unusedVariables false
set_option linter.unusedSimpArgs false
set_option maxRecDepth 20000
set_option maxHeartbeats 8000000
namespace Go.Proofs.Ytjjpjnhjnpplcaa
open Go.Aw
attribute [local irreducible] fop fint

/-! ### lists of halves -/
theorem hw_Bd {x : Int} (h : -128 ≤ x ∧ x ≤ 128) : Bd (hw .f32 x) 64 := by
  obtain ⟨h1, h2⟩ := hw_rv (x := x) (by omega)
  have h3 : (x : Rat) ≤ 128 := by exact_mod_cast h.2
  have h4 : (-128 : Rat) ≤ (x : Rat) := by
    have e : ((-128 : Int) : Rat) ≤ (x : Rat) := Rat.intCast_le_intCast.2 h.1
    exact e
  exact ⟨h1, by grind, by grind⟩
theorem serB_of {n : Nat} (f : Nat → Int) (hn : 1 ≤ n ∧ n ≤ 96) (h : ∀ i, i < n → -128 ≤ f i ∧ f i ≤ 128) : SerB ((List.range n).map fun i => hw .f32 (f i)) := by
  refine ⟨by simpa using hn, fun i hi => ?_⟩
  have hi' : i < n := by simpa using hi
  rw [getD_mapR _ hi']
  exact hw_Bd (h i hi')

/-! ### series that a law draws -/
theorem serL_B {l : List Nat} (h : Byt l) {n : Nat} (hn : 1 ≤ n ∧ n ≤ 96) : SerB (serL l n) := serB_of _ hn fun i hi => serX_bd h i (by omega)

/-! ### what repeats is met by kind 1 -/
theorem none_zero {a : List Nat} (h : SerB a) {per f k : Nat} (hk : 1 ≤ k ∧ k ≤ 32) (hp : 1 ≤ per ∧ per ≤ f) (hf : f + k ≤ a.length) (hrep : ∀ i j, i < a.length → j < a.length → i % per = j % per → a.getD i 0 = a.getD j 0) :
    ∀ i, i < rmN a f k → (rmL a (1 : Nat) (per : Nat) f k).getD i 0 = 0 := fun i hi => by
  unfold rmL
  rw [getD_mapR _ hi]
  unfold rmN at hi
  have hr := rmA_bd h (kd := 1) (per := per) (k := k) (at_ := f + i) (by omega) hk (by omega) (by omega)
  rw [hr.2.1]
  have ht := h.take (n := f + i) (by omega) (by omega)
  have hm := Nat.mod_lt (k - 1) (show 0 < per by omega)
  have e : fcA (a.take (f + i)) 1 per k = a.getD (f + i + k - 1) 0 := by
    unfold fcA
    rw [if_neg (by omega), if_pos rfl, ht.2, getD_take (by omega)]
    refine hrep _ _ (by omega) (by omega) ?_
    have e1 : f + i + k - 1 = (f + i - per + (k - 1)) + per := by omega
    rw [e1, Nat.add_mod_right]
    exact Nat.add_mod_mod _ _ _
  rw [e]
  exact sub_same (h.2 _ (by omega)).1

/-! ### lines are met by kind 3 -/
def lineL (n : Nat) : List Nat := (List.range n).map fun i : Nat => hw .f32 (3 * (i : Int) - 8)
theorem lineL_len (n : Nat) : (lineL n).length = n := by simp [lineL]
theorem lineL_get {n i : Nat} (h : i < n) : (lineL n).getD i 0 = hw .f32 (3 * (i : Int) - 8) := getD_mapR _ h
theorem lineL_B {n : Nat} (hn : 1 ≤ n ∧ n ≤ 40) : SerB (lineL n) := serB_of (fun i : Nat => 3 * (i : Int) - 8) (by omega) fun i hi => by omega
theorem slope_tab : (List.range 40).all (fun n => fop .quo .f32 (hw .f32 (3 * ((n : Int) + 1))) (fint .f32 ((n : Int) + 1)) == hw .f32 3) = true := by decide +kernel
theorem step_tab : (List.range 3).all (fun n => fop .mul .f32 (fint .f32 (n : Int)) (hw .f32 3) == hw .f32 (3 * (n : Int))) = true := by decide +kernel
theorem line_zero {n f k : Nat} (hn : 1 ≤ n ∧ n ≤ 40) {per : Nat} (hk : 1 ≤ k ∧ k ≤ 2) (hp : 1 ≤ per ∧ per ≤ f) (h2 : 2 ≤ f) (hf : f + k ≤ n) :
    ∀ i, i < rmN (lineL n) f k → (rmL (lineL n) (3 : Nat) (per : Nat) f k).getD i 0 = 0 := fun i hi => by
  have h := lineL_B hn
  have hl := lineL_len n
  unfold rmL
  rw [getD_mapR _ hi]
  unfold rmN at hi
  rw [hl] at hi
  have hr := rmA_bd h (kd := 3) (per := per) (k := k) (at_ := f + i) (by omega) (by omega) (by omega) (by omega)
  rw [hr.2.1]
  have ht := h.take (n := f + i) (by omega) (by omega)
  have e : fcA ((lineL n).take (f + i)) 3 per k = (lineL n).getD (f + i + k - 1) 0 := by
    unfold fcA
    rw [if_neg (by omega), if_neg (by omega), if_neg (by omega), if_pos rfl]
    unfold lastF slopeF lastF
    rw [ht.2, if_neg (by omega), getD_take (by omega), getD_take (by omega), lineL_get (by omega), lineL_get (by omega), lineL_get (by omega)]
    rw [hw_sub .f32 (by omega) (by omega) (by omega)]
    have e1 := List.all_eq_true.1 slope_tab (f + i - 2) (List.mem_range.2 (by omega))
    have e2 := List.all_eq_true.1 step_tab k (List.mem_range.2 (by omega))
    simp only [beq_iff_eq] at e1 e2
    have e3 : (3 * ((f + i - 1 : Nat) : Int) - 8 - (3 * ((0 : Nat) : Int) - 8)) = 3 * (((f + i - 2 : Nat) : Int) + 1) := by omega
    have e4 : ((f + i : Nat) : Int) - 1 = ((f + i - 2 : Nat) : Int) + 1 := by omega
    rw [e3, e4, e1, e2, hw_add .f32 (by omega) (by omega) (by omega)]
    congr 1
    omega
  rw [e]
  exact sub_same (h.2 _ (by omega)).1
end Go.Proofs.Ytjjpjnhjnpplcaa
