import Derived.Test.YtmnihodamdldeaaT18
set_option linter.unusedVariables false
set_option linter.unusedSimpArgs false
set_option maxRecDepth 20000
set_option maxHeartbeats 8000000
namespace Go.Proofs.Ytmnihodamdldeaa
open Go.Aw
attribute [local irreducible] QRun LexD AWp TCall TMut

def shf (m x y : Nat) : Nat := if fcmp .eql .f32 (fop .add .f32 (absF x) (absF y)) 0 then 0 else fop .quo .f32 (fop .mul .f32 1073741824 (absF m)) (fop .add .f32 (absF x) (absF y))
theorem getD_F32 {l : List Nat} (h : ∀ c ∈ l, F32 c) (i : Nat) : F32 (l.getD i 0) := by
  rw [List.getD_eq_getElem?_getD]
  cases hi : l[i]? with
  | none => exact ⟨canon_not (zero_notnan _), by decide⟩
  | some c => exact h c (List.mem_of_getElem? hi)
theorem szF_abs {c : Nat} (h : F32 c) : szF c = absF c := by rw [szF_eq h, absF_eq h]
theorem neq_eql (k : FloatKind) (c d : Nat) : fcmp .neq k c d = !fcmp .eql k c d := rfl
def shmiss (a b : List Nat) : Nat × Bool := missBy shf a b
end Go.Proofs.Ytmnihodamdldeaa
