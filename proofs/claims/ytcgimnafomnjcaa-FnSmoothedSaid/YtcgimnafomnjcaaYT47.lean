import Derived.Test.YtcgimnafomnjcaaYT97
import Derived.Test.YtcgimnafomnjcaaZAwG
import Derived.Test.YtcgimnafomnjcaaYT4
import Derived.Test.YtcgimnafomnjcaaYT105
import Derived.Test.YtcgimnafomnjcaaYT28
import Derived.Test.YtcgimnafomnjcaaYT18
import Derived.Test.YtcgimnafomnjcaaZAwC
set_option linter.unusedVariables false
set_option linter.unusedSimpArgs false
set_option maxRecDepth 20000
set_option maxHeartbeats 8000000
namespace Go.Proofs.Ytcgimnafomnjcaa
open Go.Aw

/-! ### quantiles of short lists, at three quarters -/
attribute [local irreducible] QRun LexD AWp TCall TMut fop fint fcmp fconv 
theorem r8Gap_c (a b : Nat) : TCall Try.prog 25 [.f .f32 a, .f .f32 b] (.t (.f .f64 (fmx .f64 (fop .sub .f64 (fconv .f32 .f64 a) (fconv .f32 .f64 b)) (fop .sub .f64 (fconv .f32 .f64 b) (fconv .f32 .f64 a))))) [] := by
  refine tcall_of Try.func25 rfl (by kernel_rfl) (Nat.le_of_ble_eq_true rfl) rfl ?_
  simp only [argsL, argAV, argCs, argS]
  repeat (first | (refine w_q (h := ?_)) | (refine w_s (h := ?_)) | (refine w_t (h := ?_)) | (refine w_k (h := ?_)) | (refine y_q (h := ?_)) | (refine y_s (h := ?_)) | (refine y_t (h := ?_)) | (refine y_k (h := ?_)) | (refine lex_nil (by kernel_rfl) ?_) | (refine awp_sq ?_) | (refine awp_rg ?_) | (refine awp_rd (by kernel_rfl) (by kernel_rfl) ?_) | (refine awp_block ?_) | (refine awp_exit ?_) | (refine awp_ret ?_) | (refine awp_skip ?_))
  (refine ret_ok tyOk (by first | exact .inr rfl | exact .inl rfl) pi0 rfl (by first | exact .cons (by first | exact .tmp | exact .cell rfl rfl rfl rfl rfl rfl | exact .cell1 rfl rfl rfl rfl rfl) .nil | exact .cons (by first | exact .tmp | exact .cell rfl rfl rfl rfl rfl rfl | exact .cell1 rfl rfl rfl rfl rfl) (.cons (by first | exact .tmp | exact .cell rfl rfl rfl rfl rfl rfl | exact .cell1 rfl rfl rfl rfl rfl) .nil) | exact .cons (by first | exact .tmp | exact .cell rfl rfl rfl rfl rfl rfl | exact .cell1 rfl rfl rfl rfl rfl) (.cons (by first | exact .tmp | exact .cell rfl rfl rfl rfl rfl rfl | exact .cell1 rfl rfl rfl rfl rfl) (.cons (by first | exact .tmp | exact .cell rfl rfl rfl rfl rfl rfl | exact .cell1 rfl rfl rfl rfl rfl) .nil)) | exact .cons (by first | exact .tmp | exact .cell rfl rfl rfl rfl rfl rfl | exact .cell1 rfl rfl rfl rfl rfl) (.cons (by first | exact .tmp | exact .cell rfl rfl rfl rfl rfl rfl | exact .cell1 rfl rfl rfl rfl rfl) (.cons (by first | exact .tmp | exact .cell rfl rfl rfl rfl rfl rfl | exact .cell1 rfl rfl rfl rfl rfl) (.cons (by first | exact .tmp | exact .cell rfl rfl rfl rfl rfl rfl | exact .cell1 rfl rfl rfl rfl rfl) .nil)))) ?_ trivial (injO_0 _); (repeat' (first | exact RetRelL.nil | (refine RetRel.nil rfl ?_) | refine RetRelL.cons ?_ ?_ | refine rr_tup ?_ | refine rr_agg ?_ | refine rr_own rfl ?_ | exact RetRel.arg | exact RetRel.argc | refine rr_t ?_)); all_goals rfl)
end Go.Proofs.Ytcgimnafomnjcaa

set_option linter.unusedVariables false
set_option linter.unusedSimpArgs false
set_option maxRecDepth 100000
set_option maxHeartbeats 8000000
namespace Go.Proofs.Ytcgimnafomnjcaa
open Go.Aw

/-! ### what the b10 laws read out of bytes -/
theorem iE3 {k : IntKind} {a b : Int} (h : a = b) : AV.t (.v (.int k a)) = AV.t (.v (.int k b)) := by rw [h]
/-- a quarter of a whole number, as a word -/
def q4 (x : Int) : Nat := fop .quo .f32 (fint .f32 x) 1082130432
def e8 (x : Int) : Nat := fop .quo .f32 (fint .f32 x) 1090519040
theorem q4_tab : (List.range 65).all (fun n => decide (q4 ((n : Int) - 32) < 2 * FloatKind.f32.format.signWeight) && decide (q4 ((n : Int) - 32) % FloatKind.f32.format.signWeight < FloatKind.f32.format.infRung) && decide (rv .f32 (q4 ((n : Int) - 32)) * 4 = (((n : Int) - 32 : Int) : Rat))) = true := by decide +kernel
theorem q4_rv {x : Int} (h : -32 ≤ x ∧ x ≤ 32) : Fnt .f32 (q4 x) ∧ rv .f32 (q4 x) * 4 = (x : Rat) := by
  obtain ⟨n, hn⟩ : ∃ n : Nat, x = (n : Int) - 32 := ⟨(x + 32).toNat, by omega⟩
  have := List.all_eq_true.1 q4_tab n (List.mem_range.2 (by omega))
  subst hn
  simp only [Bool.and_eq_true, decide_eq_true_eq] at this
  exact ⟨⟨this.1.1, this.1.2⟩, this.2⟩
attribute [local irreducible] QRun LexD AWp TCall TMut fop fint fcmp fconv hw fmx dvD
end Go.Proofs.Ytcgimnafomnjcaa

set_option linter.unusedVariables false
set_option linter.unusedSimpArgs false
set_option maxRecDepth 20000
set_option maxHeartbeats 8000000
namespace Go.Proofs.Ytcgimnafomnjcaa
open Go.Aw
attribute [local irreducible] QRun LexD AWp TCall TMut fop fint fcmp fconv

/-! ### smoothing states -/
structure ST where
  l : Nat
  s : Nat
  se : List Nat
  at_ : Int
structure SH where
  l : Nat
  s : Nat
  c : Nat
  d : Nat
def validH (h : SH) : Bool := isShr h.l && isShr h.s && isShr h.c && isShr h.d
def validS (s : ST) : Bool := fin s.l && fin s.s && inR (s.se.length : Nat) 1 24 && s.se.all fin && inR s.at_ 0 ((s.se.length : Int) - 1)
def gsF (s : ST) (h : SH) : Nat := fop .add .f32 (fop .add .f32 s.l (fop .mul .f32 h.d s.s)) (s.se.getD s.at_.toNat 0)
def erF (s : ST) (h : SH) (x : Nat) : Nat := fop .sub .f32 x (gsF s h)
def nxF (s : ST) (h : SH) (x : Nat) : ST :=
  ⟨fop .add .f32 (fop .add .f32 s.l (fop .mul .f32 h.d s.s)) (fop .mul .f32 h.l (erF s h x)), fop .add .f32 (fop .mul .f32 h.d s.s) (fop .mul .f32 (fop .mul .f32 h.l h.s) (erF s h x)),
    s.se.set s.at_.toNat (fop .add .f32 (s.se.getD s.at_.toNat 0) (fop .mul .f32 (fop .mul .f32 h.c (fop .sub .f32 1065353216 h.l)) (erF s h x))), (s.at_ + 1) % (s.se.length : Int)⟩
def spOk (s : ST) (h : SH) (x : Nat) : Bool := fin (gsF s h) && fin (erF s h x) && validS (nxF s h x)
def rnS (s : ST) (h : SH) (a : List Nat) : Nat → ST
  | 0 => s
  | i + 1 => nxF (rnS s h a i) h (a.getD i 0)
def rnO (s : ST) (h : SH) (a : List Nat) (i : Nat) : Bool := spOk (rnS s h a i) h (a.getD i 0)
def rnOk (s : ST) (h : SH) (a : List Nat) : Bool := isSer a && validS s && validH h && (List.range a.length).all (rnO s h a)
def rnG (s : ST) (h : SH) (a : List Nat) : List Nat := (List.range a.length).map fun i => gsF (rnS s h a i) h
def rnE (s : ST) (h : SH) (a : List Nat) : List Nat := (List.range a.length).map fun i => erF (rnS s h a i) h (a.getD i 0)
theorem rnG_len (s : ST) (h : SH) (a : List Nat) : (rnG s h a).length = a.length := by simp [rnG]
theorem rnE_len (s : ST) (h : SH) (a : List Nat) : (rnE s h a).length = a.length := by simp [rnE]
theorem rnS_len (s : ST) (h : SH) (a : List Nat) : ∀ i, (rnS s h a i).se.length = s.se.length
  | 0 => rfl
  | i + 1 => by simp only [rnS, nxF, List.length_set]; exact rnS_len s h a i
theorem validS_at {s : ST} (h : validS s = true) : (0 ≤ s.at_ ∧ s.at_ < s.se.length) ∧ 1 ≤ s.se.length ∧ s.se.length ≤ 24 := by
  simp only [validS, Bool.and_eq_true, inR_t] at h
  omega
/-- every state on the way is valid -/
theorem rnS_valid {s : ST} {h : SH} {a : List Nat} (h0 : validS s = true) : ∀ {i : Nat}, (∀ j, j < i → rnO s h a j = true) → validS (rnS s h a i) = true
  | 0, _ => h0
  | i + 1, hj => by
    have := hj i (by omega)
    simp only [rnO, spOk, Bool.and_eq_true] at this
    exact this.2
structure RN where
  st : ST
  g : List Nat
  e : List Nat
  ok : Bool
def runF (s : ST) (h : SH) (a : List Nat) : RN := if rnOk s h a then ⟨rnS s h a a.length, rnG s h a, rnE s h a, true⟩ else ⟨⟨0, 0, [], 0⟩, [], [], false⟩
theorem runF_len (s : ST) (h : SH) (a : List Nat) : (runF s h a).e.length ≤ 96 ∧ (runF s h a).g.length ≤ 96 ∧ (runF s h a).st.se.length ≤ 24 := by
  unfold runF
  split
  · rename_i hk
    simp only [rnOk, Bool.and_eq_true] at hk
    have h1 := isSer_len hk.1.1.1
    have h2 := validS_at hk.1.1.2
    simp only [rnE_len, rnG_len, rnS_len]; omega
  · simp
def missSh (s : ST) (h : SH) (a : List Nat) : Nat × Bool := if (runF s h a).ok then numF (fop .quo .f32 (dotF (runF s h a).e (runF s h a).e) (fint .f32 ((runF s h a).e.length : Nat))) else (0, false)
end Go.Proofs.Ytcgimnafomnjcaa

