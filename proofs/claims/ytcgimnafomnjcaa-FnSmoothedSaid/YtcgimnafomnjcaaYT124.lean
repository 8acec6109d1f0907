import Derived.Test.YtcgimnafomnjcaaYT123
set_option linter.unusedVariables false
set_option linter.unusedSimpArgs false
set_option maxRecDepth 20000
set_option maxHeartbeats 8000000
namespace Go.Proofs.Ytcgimnafomnjcaa
open Go.Aw

/-! ### a straight line is followed exactly -/
theorem lv_tab : (List.range 40).all (fun n => decide (fint .f32 ((n : Int) - 20) = hw .f32 (2 * ((n : Int) - 20)))) = true := by decide +kernel
theorem lv_hw {x : Int} (h : -20 ≤ x ∧ x < 20) : fint .f32 x = hw .f32 (2 * x) := by
  obtain ⟨n, hn⟩ : ∃ n : Nat, x = (n : Int) - 20 := ⟨(x + 20).toNat, by omega⟩
  have := List.all_eq_true.1 lv_tab n (List.mem_range.2 (by omega))
  subst hn
  simpa using this
theorem sl_tab : (List.range 9).all (fun s => (List.range 12).all fun n => n == 0 || decide (fop .mul .f32 (hw .f32 ((s : Int) - 4)) (fint .f32 (n : Int)) = hw .f32 (((s : Int) - 4) * n)) && decide (fop .mul .f32 (fint .f32 (n : Int)) (hw .f32 ((s : Int) - 4)) = hw .f32 (((s : Int) - 4) * n))) = true := by decide +kernel
theorem z_tab : (List.range 9).all (fun s => (List.range 81).all fun n => decide (fop .add .f32 (hw .f32 ((n : Int) - 40)) (fop .mul .f32 (hw .f32 ((s : Int) - 4)) (fint .f32 0)) = hw .f32 ((n : Int) - 40))) = true := by decide +kernel
/-- shares of nothing are nothing -/
theorem n8_tab : (List.range 9).all (fun a => decide (fop .mul .f32 (e8 (a : Int)) 0 = 0) && (List.range 9).all fun b => decide (fop .mul .f32 (fop .mul .f32 (e8 (a : Int)) (e8 (b : Int))) 0 = 0) && decide (fop .mul .f32 (fop .mul .f32 (e8 (a : Int)) (fop .sub .f32 1065353216 (e8 (b : Int)))) 0 = 0)) = true := by decide +kernel
theorem sl_mul {s : Int} {n : Nat} (hs : -4 ≤ s ∧ s ≤ 4) (hn : 1 ≤ n ∧ n ≤ 11) : fop .mul .f32 (hw .f32 s) (fint .f32 (n : Int)) = hw .f32 (s * n) ∧ fop .mul .f32 (fint .f32 (n : Int)) (hw .f32 s) = hw .f32 (s * n) := by
  obtain ⟨m, hm⟩ : ∃ m : Nat, s = (m : Int) - 4 := ⟨(s + 4).toNat, by omega⟩
  have := List.all_eq_true.1 (List.all_eq_true.1 sl_tab m (List.mem_range.2 (by omega))) n (List.mem_range.2 (by omega))
  have h0 : (n == 0) = false := by simp; omega
  rw [h0] at this
  subst hm
  simpa using this
/-- a place of the line -/
theorem line_at {L s : Int} {n : Nat} (hL : -40 ≤ L ∧ L ≤ 40) (hs : -4 ≤ s ∧ s ≤ 4) (hn : n ≤ 11) : fop .add .f32 (hw .f32 L) (fop .mul .f32 (hw .f32 s) (fint .f32 (n : Int))) = hw .f32 (L + s * n) := by
  rcases Nat.eq_zero_or_pos n with h | h
  · subst h
    obtain ⟨m, hm⟩ : ∃ m : Nat, s = (m : Int) - 4 := ⟨(s + 4).toNat, by omega⟩
    obtain ⟨k, hk⟩ : ∃ k : Nat, L = (k : Int) - 40 := ⟨(L + 40).toNat, by omega⟩
    have := List.all_eq_true.1 (List.all_eq_true.1 z_tab m (List.mem_range.2 (by omega))) k (List.mem_range.2 (by omega))
    subst hm; subst hk
    simpa using this
  · have hb : -(4 * (n : Int)) ≤ s * n ∧ s * n ≤ 4 * n := by
      have : s = -4 ∨ s = -3 ∨ s = -2 ∨ s = -1 ∨ s = 0 ∨ s = 1 ∨ s = 2 ∨ s = 3 ∨ s = 4 := by omega
      rcases this with rfl | rfl | rfl | rfl | rfl | rfl | rfl | rfl | rfl <;> omega
    rw [(sl_mul hs ⟨h, hn⟩).1, hw_add .f32 (by omega) (by omega) (by omega)]
/-- the line as a list -/
def linL (L s : Int) (n : Nat) : List Nat := (List.range n).map fun i : Nat => hw .f32 (L + s * i)
theorem linL_len (L s : Int) (n : Nat) : (linL L s n).length = n := by simp [linL]
theorem linL_get {L s : Int} {n i : Nat} (h : i < n) : (linL L s n).getD i 0 = hw .f32 (L + s * i) := getD_mapR _ h
theorem lin_bd {L s : Int} {n : Nat} (hL : -40 ≤ L ∧ L ≤ 40) (hs : -4 ≤ s ∧ s ≤ 4) (hn : n ≤ 12) : -88 ≤ L + s * n ∧ L + s * n ≤ 88 := by
  have : s = -4 ∨ s = -3 ∨ s = -2 ∨ s = -1 ∨ s = 0 ∨ s = 1 ∨ s = 2 ∨ s = 3 ∨ s = 4 := by omega
  rcases this with rfl | rfl | rfl | rfl | rfl | rfl | rfl | rfl | rfl <;> omega
/-- shares of nothing are nothing, for the shares that are drawn -/
theorem shD_0 {l : List Nat} (h : Byt l) : fop .mul .f32 (shD l).l 0 = 0 ∧ fop .mul .f32 (fop .mul .f32 (shD l).l (shD l).s) 0 = 0 ∧ fop .mul .f32 (fop .mul .f32 (shD l).c (fop .sub .f32 1065353216 (shD l).l)) 0 = 0 := by
  have a0 := dvD_rng h 0 (n := 9) (by omega)
  have a1 := dvD_rng h 1 (n := 9) (by omega)
  have a2 := dvD_rng h 2 (n := 9) (by omega)
  show fop .mul .f32 (e8 (dvD l 0 9)) 0 = 0 ∧ fop .mul .f32 (fop .mul .f32 (e8 (dvD l 0 9)) (e8 (dvD l 1 9))) 0 = 0 ∧ fop .mul .f32 (fop .mul .f32 (e8 (dvD l 2 9)) (fop .sub .f32 1065353216 (e8 (dvD l 0 9)))) 0 = 0
  obtain ⟨x, hx⟩ : ∃ x : Nat, dvD l 0 9 = (x : Int) := ⟨_, (Int.toNat_of_nonneg a0.1).symm⟩
  obtain ⟨y, hy⟩ : ∃ y : Nat, dvD l 1 9 = (y : Int) := ⟨_, (Int.toNat_of_nonneg a1.1).symm⟩
  obtain ⟨z, hz⟩ : ∃ z : Nat, dvD l 2 9 = (z : Int) := ⟨_, (Int.toNat_of_nonneg a2.1).symm⟩
  rw [hx, hy, hz]
  have t1 := List.all_eq_true.1 n8_tab x (List.mem_range.2 (by omega))
  have t2 := List.all_eq_true.1 n8_tab z (List.mem_range.2 (by omega))
  simp only [Bool.and_eq_true, decide_eq_true_eq] at t1 t2
  have t3 := List.all_eq_true.1 t1.2 y (List.mem_range.2 (by omega))
  have t4 := List.all_eq_true.1 t2.2 x (List.mem_range.2 (by omega))
  simp only [Bool.and_eq_true, decide_eq_true_eq] at t3 t4
  exact ⟨t1.1, t3.1, t4.2⟩
end Go.Proofs.Ytcgimnafomnjcaa

