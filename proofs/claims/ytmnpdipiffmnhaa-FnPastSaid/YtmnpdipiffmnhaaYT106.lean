import Derived.Test.YtmnpdipiffmnhaaYT28
import Derived.Test.YtmnpdipiffmnhaaYT15
import Derived.Test.YtmnpdipiffmnhaaYT22
import Derived.Test.YtmnpdipiffmnhaaYT14
import Derived.Test.YtmnpdipiffmnhaaZAwC
import Derived.Test.YtmnpdipiffmnhaaZAwJ
set_option linter.unusedVariables false
set_option linter.unusedSimpArgs false
set_option maxRecDepth 20000
set_option maxHeartbeats 8000000
namespace Go.Proofs.Ytmnpdipiffmnhaa
open Go.Aw

/-! ### series of bounded numbers: forecasts, misses, means -/
def SerB (a : List Nat) : Prop := (1 ≤ a.length ∧ a.length ≤ 96) ∧ ∀ i, i < a.length → Bd (a.getD i 0) 64
theorem getD_take {a : List Nat} {n i : Nat} (h : i < n) : (a.take n).getD i 0 = a.getD i 0 := by
  simp [List.getD_eq_getElem?_getD, List.getElem?_take, h]
theorem SerB.take {a : List Nat} (h : SerB a) {n : Nat} (h1 : 1 ≤ n) (h2 : n ≤ a.length) : SerB (a.take n) ∧ (a.take n).length = n := by
  have hl : (a.take n).length = n := by simp; omega
  refine ⟨⟨by rw [hl]; have := h.1; omega, fun i hi => ?_⟩, hl⟩
  rw [hl] at hi
  rw [getD_take hi]
  exact h.2 i (by omega)
theorem nat_cast_le {i n : Nat} (h : i ≤ n) : ((i : Nat) : Rat) ≤ (n : Rat) ∧ (0 : Rat) ≤ (i : Rat) := ⟨by exact_mod_cast h, by exact_mod_cast Nat.zero_le i⟩
theorem sub_same {c : Nat} (h : Fnt .f32 c) : fop .sub .f32 c c = 0 := by
  rw [sub_self]
  have : finR .f32 c = true := decide_eq_true h.2
  rw [this]; rfl
end Go.Proofs.Ytmnpdipiffmnhaa
