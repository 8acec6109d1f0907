import Derived.Test.YtjjpjnhjnpplcaaZT9
set_option linter.unusedVariables false
set_option linter.unusedSimpArgs false
set_option maxRecDepth 20000
set_option maxHeartbeats 4000000
namespace Go.Proofs.Ytjjpjnhjnpplcaa
open Go.Aw

theorem count_step : ∀ n, n < 97 → fop .add .f32 (fint .f32 (n : Nat)) 1065353216 = fint .f32 ((n + 1 : Nat) : Int) := by decide +kernel
theorem count_zero : fint .f32 ((0 : Nat) : Int) = 0 := by decide +kernel
def inB (lo hi l : List Nat) (j : Nat) : Bool := fcmp .geq .f32 (l.getD j 0) (lo.getD j 0) && fcmp .leq .f32 (l.getD j 0) (hi.getD j 0)
def cnt (lo hi l : List Nat) : Nat → Nat
  | 0 => 0
  | n + 1 => bif inB lo hi l n then cnt lo hi l n + 1 else cnt lo hi l n
theorem cnt_le (lo hi l : List Nat) (n : Nat) : cnt lo hi l n ≤ n := by
  induction n with
  | zero => simp [cnt]
  | succ n ih => simp only [cnt]; cases inB lo hi l n <;> simp <;> omega
theorem cnt_t {lo hi l : List Nat} {n : Nat} (h : inB lo hi l n = true) : cnt lo hi l (n + 1) = cnt lo hi l n + 1 := by simp [cnt, h]
theorem cnt_f {lo hi l : List Nat} {n : Nat} (h : inB lo hi l n = false) : cnt lo hi l (n + 1) = cnt lo hi l n := by simp [cnt, h]
def cover (lo hi l : List Nat) : Nat × Bool := if two lo hi && two lo l then (fop .quo .f32 (fint .f32 (cnt lo hi l l.length : Nat)) (fint .f32 (l.length : Nat)), true) else (0, false)
theorem two_sw (lo hi l : List Nat) : (two lo hi && two lo l) = (two lo l && two hi l) := by
  rw [Bool.eq_iff_iff]
  simp only [two, Bool.and_eq_true, decide_eq_true_eq]
  constructor
  · rintro ⟨⟨⟨h1, h2⟩, h3⟩, ⟨h4, h5⟩, h6⟩; exact ⟨⟨⟨h1, h5⟩, h6⟩, ⟨h2, h5⟩, by omega⟩
  · rintro ⟨⟨⟨h1, h2⟩, h3⟩, ⟨h4, h5⟩, h6⟩; exact ⟨⟨⟨h1, h4⟩, by omega⟩, ⟨h1, h2⟩, h3⟩
theorem cover_sw (lo hi l : List Nat) : cover lo hi l = if two lo l && two hi l then (fop .quo .f32 (fint .f32 (cnt lo hi l l.length : Nat)) (fint .f32 (l.length : Nat)), true) else (0, false) := by
  unfold cover; rw [two_sw]
theorem two_len {a b : List Nat} (h : two a b = true) : a.length = b.length ∧ a.length ≤ 96 := by
  simp [two, isSer] at h; omega
attribute [local irreducible] QRun LexD AWp TCall
end Go.Proofs.Ytjjpjnhjnpplcaa
