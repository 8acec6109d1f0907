import Derived.Test.YtmnpdipiffmnhaaXT28
import Derived.Test.YtmnpdipiffmnhaaXT12
import Derived.Test.YtmnpdipiffmnhaaXT58
import Derived.Test.YtmnpdipiffmnhaaZAwC
import Derived.Test.YtmnpdipiffmnhaaXT18
set_option linter.unusedVariables false
set_option linter.unusedSimpArgs false
set_option maxRecDepth 20000
set_option maxHeartbeats 8000000
namespace Go.Proofs.Ytmnpdipiffmnhaa
open Go.Aw
attribute [local irreducible] QRun LexD AWp TCall TMut fop fint fcmp fconv

/-! ### smoothing states -/
structure ST where
  l : Nat
  s : Nat
  se : List Nat
  at_ : Int
structure SH where
  l : Nat
  s : Nat
  c : Nat
  d : Nat
def validH (h : SH) : Bool := isShr h.l && isShr h.s && isShr h.c && isShr h.d
def validS (s : ST) : Bool := fin s.l && fin s.s && inR (s.se.length : Nat) 1 24 && s.se.all fin && inR s.at_ 0 ((s.se.length : Int) - 1)
def gsF (s : ST) (h : SH) : Nat := fop .add .f32 (fop .add .f32 s.l (fop .mul .f32 h.d s.s)) (s.se.getD s.at_.toNat 0)
def erF (s : ST) (h : SH) (x : Nat) : Nat := fop .sub .f32 x (gsF s h)
def nxF (s : ST) (h : SH) (x : Nat) : ST :=
  ⟨fop .add .f32 (fop .add .f32 s.l (fop .mul .f32 h.d s.s)) (fop .mul .f32 h.l (erF s h x)), fop .add .f32 (fop .mul .f32 h.d s.s) (fop .mul .f32 (fop .mul .f32 h.l h.s) (erF s h x)),
    s.se.set s.at_.toNat (fop .add .f32 (s.se.getD s.at_.toNat 0) (fop .mul .f32 (fop .mul .f32 h.c (fop .sub .f32 1065353216 h.l)) (erF s h x))), (s.at_ + 1) % (s.se.length : Int)⟩
theorem validS_at {s : ST} (h : validS s = true) : (0 ≤ s.at_ ∧ s.at_ < s.se.length) ∧ 1 ≤ s.se.length ∧ s.se.length ≤ 24 := by
  simp only [validS, Bool.and_eq_true, inR_t] at h
  omega
end Go.Proofs.Ytmnpdipiffmnhaa

