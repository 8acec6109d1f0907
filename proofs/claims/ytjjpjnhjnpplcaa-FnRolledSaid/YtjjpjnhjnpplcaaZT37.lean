import Derived.Test.YtjjpjnhjnpplcaaZT14
import Derived.Test.YtjjpjnhjnpplcaaZAwC
set_option linter.unusedVariables false
set_option linter.unusedSimpArgs false
set_option maxRecDepth 20000
set_option maxHeartbeats 8000000
namespace Go.Proofs.Ytjjpjnhjnpplcaa
open Go.Aw
attribute [local irreducible] QRun LexD AWp TCall TMut

theorem list_eqB {l m : List Bool} (hl : m.length = l.length) (h : ∀ j, j < l.length → m.getD j false = l.getD j false) : m = l := by
  refine List.ext_getElem hl fun j h1 h2 => ?_
  have := h j h2
  simpa [List.getD_eq_getElem?_getD, h1, h2] using this
theorem getD_setB {m : List Bool} {i j : Nat} {v : Bool} (hi : i < m.length) : (m.set i v).getD j false = if j = i then v else m.getD j false := by
  by_cases h : j = i
  · subst h; simp [List.getD_eq_getElem?_getD, hi]
  · simp [List.getD_eq_getElem?_getD, h, List.getElem?_set, Ne.symm h]
theorem list_eqI {l m : List Int} (hl : m.length = l.length) (h : ∀ j, j < l.length → m.getD j 0 = l.getD j 0) : m = l := by
  refine List.ext_getElem hl fun j h1 h2 => ?_
  have := h j h2
  simpa [List.getD_eq_getElem?_getD, h1, h2] using this
theorem getD_setI {m : List Int} {i j : Nat} {v : Int} (hi : i < m.length) : (m.set i v).getD j 0 = if j = i then v else m.getD j 0 := by
  by_cases h : j = i
  · subst h; simp [List.getD_eq_getElem?_getD, hi]
  · simp [List.getD_eq_getElem?_getD, h, List.getElem?_set, Ne.symm h]
def marksB (k : Int) (n : Nat) : List Bool := (List.range n).map fun (i : Nat) => icmp .eql ((k + (i : Int)) % 3) 0
theorem marksB_len (k : Int) (n : Nat) : (marksB k n).length = n := by simp [marksB]
theorem marksB_get (k : Int) {n i : Nat} (h : i < n) : (marksB k n).getD i false = icmp .eql ((k + (i : Int)) % 3) 0 := by simp [marksB, List.getD_eq_getElem?_getD, h]
end Go.Proofs.Ytjjpjnhjnpplcaa
