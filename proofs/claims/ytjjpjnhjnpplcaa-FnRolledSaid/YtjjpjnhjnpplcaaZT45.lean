import Derived.Test.YtjjpjnhjnpplcaaZT30
set_option linter.unusedVariables false
set_option linter.unusedSimpArgs false
set_option maxRecDepth 20000
set_option maxHeartbeats 8000000
namespace Go.Proofs.Ytjjpjnhjnpplcaa
open Go.Aw
attribute [local irreducible] QRun LexD AWp TCall TMut fop fint fcmp fconv

/-! ### forecasts -/
def lev (l : List Nat) (s : Nat) : Nat → Nat
  | 0 => l.getD 0 0
  | i + 1 => fop .add .f32 (lev l s i) (fop .mul .f32 s (fop .sub .f32 (l.getD (i + 1) 0) (lev l s i)))
def levL (l : List Nat) (s : Nat) (n : Nat) : List Nat := (List.range n).map (lev l s)
theorem levL_len (l : List Nat) (s n : Nat) : (levL l s n).length = n := by simp [levL]
theorem levL_S (l : List Nat) (s n : Nat) : levL l s (n + 1) = levL l s n ++ [lev l s n] := by simp [levL, List.range_succ]
theorem levL_get {l : List Nat} {s n i : Nat} (h : i < n) : (levL l s n).getD i 0 = lev l s i := getD_mapR _ h
def lastF (l : List Nat) : Nat := l.getD (l.length - 1) 0
def slopeF (l : List Nat) : Nat := if l.length = 1 then 0 else fop .quo .f32 (fop .sub .f32 (lastF l) (l.getD 0 0)) (fint .f32 ((l.length : Int) - 1))
/-- the k-th number ahead (k from 1) -/
def fcA (l : List Nat) (kind per : Nat) (k : Nat) : Nat :=
  if kind = 0 then lastF l else if kind = 1 then l.getD (l.length - per + (k - 1) % per) 0 else if kind = 2 then meanF l
  else if kind = 3 then fop .add .f32 (lastF l) (fop .mul .f32 (fint .f32 (k : Nat)) (slopeF l)) else lev l 1050253722 (l.length - 1)
def fcL (l : List Nat) (kind per c : Nat) : List Nat := (List.range c).map fun k => fcA l kind per (k + 1)
theorem fcL_len (l : List Nat) (kind per c : Nat) : (fcL l kind per c).length = c := by simp [fcL]
theorem fcL_get {l : List Nat} {kind per c i : Nat} (h : i < c) : (fcL l kind per c).getD i 0 = fcA l kind per (i + 1) := getD_mapR _ h
def fcOk (l : List Nat) (kind per c : Int) : Bool := isSer l && inR per 1 (l.length : Nat) && inR kind 0 4 && inR c 1 32
def fcBy (l : List Nat) (kind per c : Int) : List Nat × Bool := if fcOk l kind per c then ifAllF (fcL l kind.toNat per.toNat c.toNat) else ([], false)
theorem ifAllF_len (l : List Nat) : (ifAllF l).1.length ≤ l.length := by unfold ifAllF; split <;> simp
theorem fcBy_len (l : List Nat) (kind per c : Int) : (fcBy l kind per c).1.length ≤ 32 := by
  unfold fcBy
  split
  · rename_i h
    simp only [fcOk, Bool.and_eq_true, inR_t] at h
    have := ifAllF_len (fcL l kind.toNat per.toNat c.toNat)
    rw [fcL_len] at this
    omega
  · simp

/-! ### rolls -/
def rmOk (l : List Nat) (kind per first ahead : Int) : Bool := fcOk l kind per ahead && inR first per ((l.length : Int) - 1) && decide (first + ahead ≤ l.length)
def rmN (l : List Nat) (first ahead : Nat) : Nat := l.length + 1 - (first + ahead)
def rmA (l : List Nat) (kind per : Int) (ahead at_ : Nat) : Nat := fop .sub .f32 (l.getD (at_ + ahead - 1) 0) ((fcBy (l.take at_) kind per (ahead : Nat)).1.getD (ahead - 1) 0)
def rmL (l : List Nat) (kind per : Int) (first ahead : Nat) : List Nat := (List.range (rmN l first ahead)).map fun j => rmA l kind per ahead (first + j)
theorem rmL_len (l : List Nat) (kind per : Int) (first ahead : Nat) : (rmL l kind per first ahead).length = rmN l first ahead := by simp [rmL]
def rmAll (l : List Nat) (kind per : Int) (first ahead : Nat) : Bool := (List.range (rmN l first ahead)).all fun j => (fcBy (l.take (first + j)) kind per (ahead : Nat)).2
def rollM (l : List Nat) (kind per first ahead : Int) : List Nat × Bool := if rmOk l kind per first ahead && rmAll l kind per first.toNat ahead.toNat then ifAllF (rmL l kind per first.toNat ahead.toNat) else ([], false)
theorem rollM_len (l : List Nat) (kind per first ahead : Int) : (rollM l kind per first ahead).1.length ≤ 96 := by
  unfold rollM
  split
  · rename_i h
    simp only [rmOk, fcOk, Bool.and_eq_true, inR_t] at h
    have h1 := isSer_len h.1.1.1.1.1.1
    have := ifAllF_len (rmL l kind per first.toNat ahead.toNat)
    rw [rmL_len] at this
    unfold rmN at this
    omega
  · simp
def rolledF (l : List Nat) (kind per first ahead : Int) : Nat × Bool :=
  if (rollM l kind per first ahead).2 then numF (fop .quo .f32 (dotF (rollM l kind per first ahead).1 (rollM l kind per first ahead).1) (fint .f32 ((rollM l kind per first ahead).1.length : Nat))) else (0, false)
def bkA (l : List Nat) (per first ahead : Int) : Nat → Int × Nat
  | 0 => (0, 0)
  | k + 1 => if k = 0 ∨ fcmp .lss .f32 (rolledF l (k : Nat) per first ahead).1 (bkA l per first ahead k).2 = true then ((k : Nat), (rolledF l (k : Nat) per first ahead).1) else bkA l per first ahead k
def bestK (l : List Nat) (per first ahead : Int) : Int × Bool := if (List.range 5).all fun k => (rolledF l (k : Nat) per first ahead).2 then ((bkA l per first ahead 5).1, true) else (0, false)
def rsL (ls : List (List Nat)) (kind per first ahead : Int) : List Nat := ls.map fun l => (rolledF l kind per first ahead).1
def rollsS (ls : List (List Nat)) (kind per first ahead w : Int) : List Nat × Bool :=
  if decide (1 ≤ ls.length) && decide (ls.length ≤ 16) && inR w 1 8 && ls.all (fun l => (rolledF l kind per first ahead).2) then (rsL ls kind per first ahead, true) else ([], false)
theorem rollsS_len (ls : List (List Nat)) (kind per first ahead w : Int) : (rollsS ls kind per first ahead w).1.length ≤ 16 := by
  unfold rollsS
  split
  · rename_i h
    simp only [Bool.and_eq_true, decide_eq_true_eq] at h
    simp [rsL]; omega
  · simp
end Go.Proofs.Ytjjpjnhjnpplcaa
