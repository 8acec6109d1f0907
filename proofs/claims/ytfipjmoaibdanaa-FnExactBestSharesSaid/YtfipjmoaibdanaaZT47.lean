import Derived.Test.YtfipjmoaibdanaaZT30
import Derived.Test.YtfipjmoaibdanaaZT18
import Derived.Test.YtfipjmoaibdanaaZT37
set_option linter.unusedVariables false
set_option linter.unusedSimpArgs false
set_option maxRecDepth 20000
set_option maxHeartbeats 8000000
namespace Go.Proofs.Ytfipjmoaibdanaa
open Go.Aw
attribute [local irreducible] QRun LexD AWp TCall TMut fop fint fcmp fconv

/-! ### smoothing states -/
structure ST where
  l : Nat
  s : Nat
  se : List Nat
  at_ : Int
structure SH where
  l : Nat
  s : Nat
  c : Nat
  d : Nat
def validH (h : SH) : Bool := isShr h.l && isShr h.s && isShr h.c && isShr h.d
def validS (s : ST) : Bool := fin s.l && fin s.s && inR (s.se.length : Nat) 1 24 && s.se.all fin && inR s.at_ 0 ((s.se.length : Int) - 1)
def gsF (s : ST) (h : SH) : Nat := fop .add .f32 (fop .add .f32 s.l (fop .mul .f32 h.d s.s)) (s.se.getD s.at_.toNat 0)
def erF (s : ST) (h : SH) (x : Nat) : Nat := fop .sub .f32 x (gsF s h)
def nxF (s : ST) (h : SH) (x : Nat) : ST :=
  ⟨fop .add .f32 (fop .add .f32 s.l (fop .mul .f32 h.d s.s)) (fop .mul .f32 h.l (erF s h x)), fop .add .f32 (fop .mul .f32 h.d s.s) (fop .mul .f32 (fop .mul .f32 h.l h.s) (erF s h x)),
    s.se.set s.at_.toNat (fop .add .f32 (s.se.getD s.at_.toNat 0) (fop .mul .f32 (fop .mul .f32 h.c (fop .sub .f32 1065353216 h.l)) (erF s h x))), (s.at_ + 1) % (s.se.length : Int)⟩
def spOk (s : ST) (h : SH) (x : Nat) : Bool := fin (gsF s h) && fin (erF s h x) && validS (nxF s h x)
def rnS (s : ST) (h : SH) (a : List Nat) : Nat → ST
  | 0 => s
  | i + 1 => nxF (rnS s h a i) h (a.getD i 0)
def rnO (s : ST) (h : SH) (a : List Nat) (i : Nat) : Bool := spOk (rnS s h a i) h (a.getD i 0)
def rnOk (s : ST) (h : SH) (a : List Nat) : Bool := isSer a && validS s && validH h && (List.range a.length).all (rnO s h a)
def rnG (s : ST) (h : SH) (a : List Nat) : List Nat := (List.range a.length).map fun i => gsF (rnS s h a i) h
def rnE (s : ST) (h : SH) (a : List Nat) : List Nat := (List.range a.length).map fun i => erF (rnS s h a i) h (a.getD i 0)
theorem rnG_len (s : ST) (h : SH) (a : List Nat) : (rnG s h a).length = a.length := by simp [rnG]
theorem rnE_len (s : ST) (h : SH) (a : List Nat) : (rnE s h a).length = a.length := by simp [rnE]
theorem rnS_len (s : ST) (h : SH) (a : List Nat) : ∀ i, (rnS s h a i).se.length = s.se.length
  | 0 => rfl
  | i + 1 => by simp only [rnS, nxF, List.length_set]; exact rnS_len s h a i
theorem validS_at {s : ST} (h : validS s = true) : (0 ≤ s.at_ ∧ s.at_ < s.se.length) ∧ 1 ≤ s.se.length ∧ s.se.length ≤ 24 := by
  simp only [validS, Bool.and_eq_true, inR_t] at h
  omega
/-- every state on the way is valid -/
theorem rnS_valid {s : ST} {h : SH} {a : List Nat} (h0 : validS s = true) : ∀ {i : Nat}, (∀ j, j < i → rnO s h a j = true) → validS (rnS s h a i) = true
  | 0, _ => h0
  | i + 1, hj => by
    have := hj i (by omega)
    simp only [rnO, spOk, Bool.and_eq_true] at this
    exact this.2
structure RN where
  st : ST
  g : List Nat
  e : List Nat
  ok : Bool
def runF (s : ST) (h : SH) (a : List Nat) : RN := if rnOk s h a then ⟨rnS s h a a.length, rnG s h a, rnE s h a, true⟩ else ⟨⟨0, 0, [], 0⟩, [], [], false⟩
theorem runF_len (s : ST) (h : SH) (a : List Nat) : (runF s h a).e.length ≤ 96 ∧ (runF s h a).g.length ≤ 96 ∧ (runF s h a).st.se.length ≤ 24 := by
  unfold runF
  split
  · rename_i hk
    simp only [rnOk, Bool.and_eq_true] at hk
    have h1 := isSer_len hk.1.1.1
    have h2 := validS_at hk.1.1.2
    simp only [rnE_len, rnG_len, rnS_len]; omega
  · simp
def missSh (s : ST) (h : SH) (a : List Nat) : Nat × Bool := if (runF s h a).ok then numF (fop .quo .f32 (dotF (runF s h a).e (runF s h a).e) (fint .f32 ((runF s h a).e.length : Nat))) else (0, false)
end Go.Proofs.Ytfipjmoaibdanaa
