import Derived.Test.YtmnpdipiffmnhaaYT15
import Derived.Test.YtmnpdipiffmnhaaZAwC
set_option linter.unusedVariables false
set_option linter.unusedSimpArgs false
set_option maxRecDepth 20000
set_option maxHeartbeats 8000000
namespace Go.Proofs.Ytmnpdipiffmnhaa
open Go.Aw

theorem fin_R (c : Nat) : fin c = finR .f32 c := finB_eq .f32 c
theorem sub_fin {m : Nat} (h : fin m = true) : fop .sub .f32 m m = 0 := by
  rw [fin_R] at h
  rw [sub_self, h]; rfl

/-! ### what terms tell -/
def tl1 (get : Nat → Nat) (terms : List Nat) : Nat → Nat
  | 0 => 0
  | n + 1 => fop .add .f32 (tl1 get terms n) (fop .mul .f32 (terms.getD n 0) (get n))
theorem tl1_congr {g g' : Nat → Nat} {terms : List Nat} {n : Nat} (h : ∀ i, i < n → g i = g' i) : tl1 g terms n = tl1 g' terms n := by
  induction n with
  | zero => rfl
  | succ n ih => simp only [tl1]; rw [ih (fun i hi => h i (by omega)), h n (by omega)]
def toldG (b : List Nat) (m : Nat) (i : Nat) : Nat := if i + 1 ≤ b.length then fop .sub .f32 (b.getD (b.length - 1 - i) 0) m else 0
def toldF (b terms : List Nat) (m : Nat) : Nat := fop .add .f32 m (tl1 (toldG b m) terms terms.length)
/-- as the reference has it -/
def toldX (a : List Nat) (at_ : Nat) (m : Nat) (i : Nat) : Nat := fop .sub .f32 (if i + 1 ≤ at_ then a.getD (at_ - 1 - i) 0 else m) m
theorem toldX_eq {a : List Nat} {at_ m : Nat} (h : at_ ≤ a.length) (hm : fin m = true) (i : Nat) : toldX a at_ m i = toldG (a.take at_) m i := by
  unfold toldX toldG
  have hl : (a.take at_).length = at_ := by simp; omega
  rw [hl]
  by_cases h1 : i + 1 ≤ at_
  · rw [if_pos h1, if_pos h1]
    have : (a.take at_).getD (at_ - 1 - i) 0 = a.getD (at_ - 1 - i) 0 := by
      rw [List.getD_eq_getElem?_getD, List.getD_eq_getElem?_getD, List.getElem?_take, if_pos (by omega)]
    rw [this]
  · rw [if_neg h1, if_neg h1, sub_fin hm]
def isTerms (l : List Nat) : Bool := decide (l.length ≤ 6) && l.all fin
/-- a list if all of it is finite -/
def ifAllF (l : List Nat) : List Nat × Bool := if l.all fin then (l, true) else ([], false)
def pastL (a terms : List Nat) (m : Nat) : List Nat := (List.range (a.length - terms.length)).map fun i => fop .sub .f32 (a.getD (terms.length + i) 0) (toldF (a.take (terms.length + i)) terms m)
def pastRests (a terms : List Nat) (m : Nat) : List Nat × Bool := if isSer a && isTerms terms && fin m && decide (terms.length < a.length) then ifAllF (pastL a terms m) else ([], false)
theorem pastL_len (a terms : List Nat) (m : Nat) : (pastL a terms m).length = a.length - terms.length := by simp [pastL]
/-! ### what meets in the middle -/
end Go.Proofs.Ytmnpdipiffmnhaa
