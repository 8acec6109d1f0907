/- Bounded words of 64 bits; the logarithm is bounded. No condition. -/
import Derived.Test.YtmnpdipiffmnhaaVT28
import Derived.Test.YtmnpdipiffmnhaaVAwD
import Derived.Test.YtmnpdipiffmnhaaVT6
import Derived.Test.YtmnpdipiffmnhaaVT2
import Derived.Test.YtmnpdipiffmnhaaVAwC
import Derived.Test.YtmnpdipiffmnhaaVAwJ
import Derived.Test.YtmnpdipiffmnhaaVT109
import Derived.Test.YtmnpdipiffmnhaaVT118
import Derived.Test.YtmnpdipiffmnhaaVT58
set_option linter.unusedVariables false
set_option linter.unusedSimpArgs false
set_option maxRecDepth 20000
set_option maxHeartbeats 8000000
namespace Go.Proofs.Ytmnpdipiffmnhaa
open Go.Aw
attribute [local irreducible] QRun LexD AWp TCall TMut

def logF (c : Nat) : Nat := if fcmp .eql .f32 c 0 then fconv .f64 .f32 18442240474082181120 else if fcmp .lss .f32 c 0 || fcmp .neq .f32 c c then fconv .f64 .f32 (nan0 .f64) else if !fin c then c else fconv .f64 .f32 (lgW (fconv .f32 .f64 c))
end Go.Proofs.Ytmnpdipiffmnhaa

set_option linter.unusedVariables false
set_option linter.unusedSimpArgs false
set_option maxRecDepth 20000
set_option maxHeartbeats 4000000
namespace Go.Proofs.Ytmnpdipiffmnhaa
open Go.Aw
attribute [local irreducible] QRun LexD AWp TCall
def validL (a b c d : Nat) : Bool := fin a && least b && above c && least d
end Go.Proofs.Ytmnpdipiffmnhaa

set_option linter.unusedVariables false
set_option linter.unusedSimpArgs false
set_option maxRecDepth 20000
set_option maxHeartbeats 8000000
namespace Go.Proofs.Ytmnpdipiffmnhaa
open Go.Aw
attribute [local irreducible] QRun LexD AWp TCall TMut fop fint fcmp fconv

def lvF (s no : Nat) : Nat := fop .add .f32 s no
def lvM (m s no x : Nat) : Nat := fop .add .f32 m (fop .mul .f32 (fop .quo .f32 s (lvF s no)) (fop .sub .f32 x m))
def lvP (s no : Nat) : Nat := fop .sub .f32 s (fop .mul .f32 (fop .quo .f32 s (lvF s no)) s)
def lvC (m s no x : Nat) : Nat := fop .mul .f32 1056964608 (fop .add .f32 (logF (lvF s no)) (fop .quo .f32 (fop .mul .f32 (fop .sub .f32 x m) (fop .sub .f32 x m)) (lvF s no)))
def stM (m sp no dr x : Nat) (b : Bool) : Nat := if b then lvM m (fop .add .f32 sp dr) no x else m
def stP (m sp no dr x : Nat) (b : Bool) : Nat := if b then lvP (fop .add .f32 sp dr) no else fop .add .f32 sp dr
def stC (m sp no dr x : Nat) (b : Bool) : Nat := if b then lvC m (fop .add .f32 sp dr) no x else 0
def stOk (m sp no dr x : Nat) (b : Bool) : Bool := validL m sp no dr && fin x && validL (stM m sp no dr x b) (stP m sp no dr x b) no dr && fin (stC m sp no dr x b)
structure LV where
  m : Nat
  p : Nat
  n : Nat
  d : Nat
  c : Nat
  ok : Bool
def stepF (m sp no dr x : Nat) (b : Bool) : LV := if stOk m sp no dr x b then ⟨stM m sp no dr x b, stP m sp no dr x b, no, dr, stC m sp no dr x b, true⟩ else ⟨0, 0, 0, 0, 0, false⟩
end Go.Proofs.Ytmnpdipiffmnhaa

set_option linter.unusedVariables false
set_option linter.unusedSimpArgs false
namespace Go.Aw

theorem ep64 : ep .f64 = 1 / 4503599627370496 := by decide +kernel
theorem u64 : uU .f64 ≤ 1 / 1000000000000000000000000000000000000000000000000000000000000 := by decide +kernel
theorem top64 : 1000000000000000000000000000000 ≤ topR .f64 := by decide +kernel
theorem rds64 {x M : Rat} {c : Nat} (h : RdS .f64 x c) (h1 : x ≤ M) (h2 : -M ≤ x) (hM : okM M) : ∃ e, rv .f64 c = x + e ∧ -(M / 4000000000000000) ≤ e ∧ e ≤ M / 4000000000000000 ∧ Fnt .f64 c := by
  have ht := top64
  obtain ⟨g1, g2, g3⟩ := h.err h1 h2 (by have := hM.2; grind)
  rw [ep64] at g2 g3
  have hu := u64
  have := hM.1
  refine ⟨rv .f64 c - x, by grind, ?_, ?_, g1⟩ <;> grind
theorem add64 {a b : Nat} {M : Rat} (ha : Fnt .f64 a) (hb : Fnt .f64 b) (h1 : rv .f64 a + rv .f64 b ≤ M) (h2 : -M ≤ rv .f64 a + rv .f64 b) (hM : okM M) :
    ∃ e, rv .f64 (fop .add .f64 a b) = rv .f64 a + rv .f64 b + e ∧ -(M / 4000000000000000) ≤ e ∧ e ≤ M / 4000000000000000 ∧ Fnt .f64 (fop .add .f64 a b) := rds64 (add_rds ha hb) h1 h2 hM
theorem sub64 {a b : Nat} {M : Rat} (ha : Fnt .f64 a) (hb : Fnt .f64 b) (h1 : rv .f64 a - rv .f64 b ≤ M) (h2 : -M ≤ rv .f64 a - rv .f64 b) (hM : okM M) :
    ∃ e, rv .f64 (fop .sub .f64 a b) = rv .f64 a - rv .f64 b + e ∧ -(M / 4000000000000000) ≤ e ∧ e ≤ M / 4000000000000000 ∧ Fnt .f64 (fop .sub .f64 a b) := rds64 (sub_rds ha hb) h1 h2 hM
theorem mul64 {a b : Nat} {M : Rat} (ha : Fnt .f64 a) (hb : Fnt .f64 b) (h1 : rv .f64 a * rv .f64 b ≤ M) (h2 : -M ≤ rv .f64 a * rv .f64 b) (hM : okM M) :
    ∃ e, rv .f64 (fop .mul .f64 a b) = rv .f64 a * rv .f64 b + e ∧ -(M / 4000000000000000) ≤ e ∧ e ≤ M / 4000000000000000 ∧ Fnt .f64 (fop .mul .f64 a b) := rds64 (mul_rds ha hb) h1 h2 hM
def Bd64 (c : Nat) (M : Rat) : Prop := Fnt .f64 c ∧ rv .f64 c ≤ M ∧ -M ≤ rv .f64 c
theorem Bd64.mono {c : Nat} {M N : Rat} (h : Bd64 c M) (hM : M ≤ N) : Bd64 c N := ⟨h.1, by have := h.2.1; grind, by have := h.2.2; grind⟩
theorem Bd64.add {a b : Nat} {M N L : Rat} (ha : Bd64 a M) (hb : Bd64 b N) (hL : (M + N) * (1001 / 1000) ≤ L) (hM : okM (M + N)) : Bd64 (fop .add .f64 a b) L := by
  obtain ⟨a1, a2, a3⟩ := ha
  obtain ⟨b1, b2, b3⟩ := hb
  obtain ⟨e, h1, h2, h3, h4⟩ := add64 (M := M + N) a1 b1 (by grind) (by grind) hM
  exact ⟨h4, by rw [h1]; grind, by rw [h1]; grind⟩
theorem Bd64.mul {a b : Nat} {M N L : Rat} (ha : Bd64 a M) (hb : Bd64 b N) (hL : (M * N) * (1001 / 1000) ≤ L) (hM : okM (M * N)) : Bd64 (fop .mul .f64 a b) L := by
  obtain ⟨a1, a2, a3⟩ := ha
  obtain ⟨b1, b2, b3⟩ := hb
  obtain ⟨p1, p2⟩ := mul_bd a2 a3 b2 b3
  obtain ⟨e, h1, h2, h3, h4⟩ := mul64 (M := M * N) a1 b1 p1 p2 hM
  exact ⟨h4, by rw [h1]; grind, by rw [h1]; grind⟩
/-- a float32 as a float64 -/
theorem wide_e {c : Nat} {M : Rat} (h : Bd c M) (hM : okM M) : ∃ e, rv .f64 (fconv .f32 .f64 c) = rv .f32 c + e ∧ -(M / 4000000000000000) ≤ e ∧ e ≤ M / 4000000000000000 ∧ Fnt .f64 (fconv .f32 .f64 c) := rds64 (wide_rds h.1) h.2.1 h.2.2 hM
/-! ### the logarithm -/
/-- a quotient of numbers that are not negative, the lower by the greater -/
theorem quo1 {k : FloatKind} {a b : Nat} (ha : Fnt k a) (hb : Fnt k b) (h0 : 0 ≤ rv k a) (hab : rv k a ≤ rv k b) (hb0 : 0 < rv k b) : Fnt k (fop .quo k a b) ∧ 0 ≤ rv k (fop .quo k a b) ∧ rv k (fop .quo k a b) ≤ 1 := by
  have hone : rvR k (oneK k) = 1 := by cases k <;> decide +kernel
  have hz : rvR k 0 = 0 := by unfold rvR; rw [valR_zero]; simp
  obtain ⟨s, r, rfl, hr, hv⟩ := ha.ex
  obtain ⟨t, q, rfl, hq, hw⟩ := hb.ex
  have ht : t = false := by
    cases t with
    | false => rfl
    | true => rw [hw] at hb0; simp only [if_true] at hb0; have := rvR_nn k q; grind
  subst ht
  simp only [Bool.false_eq_true, if_false] at hw
  have hq0 : 0 < q := by
    rcases Nat.eq_zero_or_pos q with h | h
    · subst h; rw [hw, hz] at hb0; exact absurd hb0 (by decide)
    · exact h
  have hrq : r ≤ q := by
    rcases Nat.lt_or_ge q r with h | h
    · have := rvR_lt k h
      cases s with
      | false => rw [hv, hw] at hab; simp only [Bool.false_eq_true, if_false] at hab; grind
      | true => rw [hv] at h0; simp only [if_true] at h0; have := rvR_nn k q; grind
    · exact h
  obtain ⟨r', h1, h2⟩ := quo_le1 k s false hrq hq hq0
  have hr' : r' < k.format.infRung := Nat.lt_of_le_of_lt h1 (one_inf k)
  rw [h2]
  refine ⟨Fn_word _ _ hr', ?_⟩
  rw [rv_word k _ hr']
  have h3 := rvR_mono k h1
  rw [hone] at h3
  have h4 := rvR_nn k r'
  cases s with
  | false => simp only [Bool.bne_false, Bool.xor_false, Bool.false_eq_true, if_false]; exact ⟨h4, h3⟩
  | true =>
    -- the upper is nought
    have hr0 : r = 0 := by
      rw [hv] at h0
      simp only [if_true] at h0
      rcases Nat.eq_zero_or_pos r with h | h
      · exact h
      · have := rvR_lt k h; rw [hz] at this; grind
    subst hr0
    obtain ⟨rr, x, q1, q2, q3, q4, q5⟩ := quo_near (k := k) hr hq (by omega) true false
    rw [h2] at q1
    have hx := (q5 0 (by rw [hz]; simp)).2.1
    have hx0 : x = 0 := Rat.le_antisymm (by grind) q4
    have hrr : rr = 0 := by have := q3.le 0 (inf_pos k) (by rw [hx0, hz]; exact Rat.le_refl); omega
    have hr2 : r' = 0 := by
      have e1 := (word_parts k (true ^^ false) (r := r') (by have := inf_sw k; omega)).1
      have e2 := (word_parts k (true ^^ false) (r := rr) (by rw [hrr]; have := inf_sw k; have := inf_pos k; omega)).1
      rw [q1, hrr] at e1
      rw [hrr] at e2
      omega
    subst hr2
    rw [hz]
    simp only [Bool.xor_false, if_true]
    constructor <;> grind
end Go.Aw

set_option linter.unusedVariables false
set_option linter.unusedSimpArgs false
set_option maxRecDepth 20000
set_option maxHeartbeats 8000000
namespace Go.Proofs.Ytmnpdipiffmnhaa
open Go.Aw

/-! ### one step of a level -/
theorem fnt32_0 : Fnt .f32 0 ∧ rv .f32 0 = 0 := by unfold Fnt; decide +kernel
/-! ### a run of levels -/
/-! ### and back -/
end Go.Proofs.Ytmnpdipiffmnhaa

set_option linter.unusedVariables false
set_option linter.unusedSimpArgs false
set_option maxRecDepth 20000
set_option maxHeartbeats 8000000
namespace Go.Proofs.Ytmnpdipiffmnhaa
open Go.Aw

/-! ### what the law asks of a run of levels -/
theorem fmx_rv {k : FloatKind} {a b : Nat} (ha : Fnt k a) (hb : Fnt k b) : Fnt k (fmx k a b) ∧ rv k a ≤ rv k (fmx k a b) ∧ rv k b ≤ rv k (fmx k a b) := by
  unfold fmx
  rw [order_sv k ha.notnan hb.notnan]
  have hs := sv_rv k (a := a) (b := b)
  have hs2 := sv_rv k (a := b) (b := a)
  rcases Int.lt_trichotomy (sv k a) (sv k b) with h | h | h
  · rw [cmp_lt h]; have := hs.1.1 h; exact ⟨hb, by grind, Rat.le_refl⟩
  · rw [cmp_eq h]
    have := hs.2.1 h
    simp only []
    split
    · exact ⟨hb, by grind, Rat.le_refl⟩
    · exact ⟨ha, Rat.le_refl, by grind⟩
  · rw [cmp_gt h]; have := hs2.1.1 h; exact ⟨ha, Rat.le_refl, by grind⟩
theorem fmx_or {k : FloatKind} {a b : Nat} : fmx k a b = a ∨ fmx k a b = b ∨ fmx k a b = nan0 k := by
  unfold fmx; split
  · exact .inr (.inr rfl)
  · exact .inr (.inl rfl)
  · exact .inl rfl
  · split
    · exact .inr (.inl rfl)
    · exact .inl rfl
abbrev W (c : Nat) : Nat := fconv .f32 .f64 c
theorem W_fact {c : Nat} {M : Rat} (h : Bd c M) (hM : okM M) : Fnt .f64 (W c) ∧ rv .f64 (W c) ≤ rv .f32 c + M / 4000000000000000 ∧ rv .f32 c ≤ rv .f64 (W c) + M / 4000000000000000 := by
  obtain ⟨e, h1, h2, h3, h4⟩ := wide_e h hM
  exact ⟨h4, by rw [h1]; grind, by rw [h1]; grind⟩
theorem k001 : (Fnt .f64 4562254508917369340 ∧ 999 / 1000000 ≤ rv .f64 4562254508917369340 ∧ rv .f64 4562254508917369340 ≤ 1001 / 1000000) ∧ (Fnt .f64 13785626545772145148 ∧ rv .f64 13785626545772145148 ≤ -(999 / 1000000)) ∧ fcmp .lss .f64 0 4547007122018943789 = true := by unfold Fnt; decide +kernel
end Go.Proofs.Ytmnpdipiffmnhaa

set_option linter.unusedVariables false
set_option linter.unusedSimpArgs false
set_option maxRecDepth 20000
set_option maxHeartbeats 8000000
namespace Go.Proofs.Ytmnpdipiffmnhaa
open Go.Aw
attribute [local irreducible] QRun LexD AWp TCall TMut fop fint fcmp fconv

def ahF (h : SH) : Nat → Nat × Nat
  | 0 => (h.d, h.d)
  | k + 1 => (fop .add .f32 (ahF h k).1 (fop .mul .f32 (ahF h k).2 h.d), fop .mul .f32 (ahF h k).2 h.d)
def ahV (s : ST) (h : SH) (k : Nat) : Nat := fop .add .f32 (fop .add .f32 s.l (fop .mul .f32 (ahF h k).1 s.s)) (s.se.getD ((s.at_.toNat + k) % s.se.length) 0)
def ahL (s : ST) (h : SH) (n : Nat) : List Nat := (List.range n).map fun k => ahV s h k
theorem ahL_len (s : ST) (h : SH) (n : Nat) : (ahL s h n).length = n := by simp [ahL]
theorem ahL_get {s : ST} {h : SH} {n k : Nat} (hk : k < n) : (ahL s h n).getD k 0 = ahV s h k := getD_mapR _ hk
theorem aheadOf_t {s : ST} {sh : SH} {n : Nat} (h1 : validS s = true) (h2 : validH sh = true) (hn : 1 ≤ n ∧ n ≤ 32) (h3 : (ahL s sh n).all fin = true) :
    TCall Try.prog 56 [Tst s, Tsh sh, .v (.int .i64 n)] (.tup [.own 0 n, .t (.v (.bool true))]) [(0, .sl 30 (.fl (ahL s sh n)))] := by
  have hl := validS_len h1
  have hat := validS_at h1
  have t1 := validState_c s (by omega)
  have t2 := validShares_c sh
  rw [h1] at t1
  rw [h2] at t2
  have t4 := isAhead_c (n : Int)
  rw [show inR (n : Int) 1 32 = true by rw [inR_t]; omega] at t4
  obtain ⟨m, hm⟩ : ∃ m : Nat, s.at_ = (m : Int) := ⟨s.at_.toNat, by omega⟩
  have hll := ahL_len s sh n
  have hget : ∀ k, k < n → (ahL s sh n).getD k 0 = ahV s sh k := fun k hk => ahL_get hk
  refine tcall_of Try.func56 rfl (by kernel_rfl) (Nat.le_of_ble_eq_true rfl) rfl ?_
  simp only [argsL, argAV, argCs, argS]
  repeat (first | (refine w_q (h := ?_)) | (refine w_s (h := ?_)) | (refine w_t (h := ?_)) | (refine w_k (h := ?_)) | (refine y_q (h := ?_)) | (refine y_s (h := ?_)) | (refine y_t (h := ?_)) | (refine y_k (h := ?_)) | (refine lex_nil (by kernel_rfl) ?_) | (refine awp_sq ?_) | (refine awp_rg ?_) | (refine awp_rd (by kernel_rfl) (by kernel_rfl) ?_) | (refine awp_block ?_) | (refine awp_exit ?_) | (refine awp_ret ?_) | (refine awp_skip ?_) | (refine w_r (q_build tyOk rfl rfl rfl rfl rfl rfl rfl rfl) (h := ?_)) | (refine y_r (q_build tyOk rfl rfl rfl rfl rfl rfl rfl rfl) (h := ?_)))
  (first | (refine c_q (t1) (h := ?_)) | (refine z_q (t1) (h := ?_)))
  repeat (first | (refine w_q (h := ?_)) | (refine w_s (h := ?_)) | (refine w_t (h := ?_)) | (refine w_k (h := ?_)) | (refine y_q (h := ?_)) | (refine y_s (h := ?_)) | (refine y_t (h := ?_)) | (refine y_k (h := ?_)) | (refine lex_nil (by kernel_rfl) ?_) | (refine awp_sq ?_) | (refine awp_rg ?_) | (refine awp_rd (by kernel_rfl) (by kernel_rfl) ?_) | (refine awp_block ?_) | (refine awp_exit ?_) | (refine awp_ret ?_) | (refine awp_skip ?_) | (refine w_r (q_build tyOk rfl rfl rfl rfl rfl rfl rfl rfl) (h := ?_)) | (refine y_r (q_build tyOk rfl rfl rfl rfl rfl rfl rfl rfl) (h := ?_)))
  (first | (refine c_q (t2) (h := ?_)) | (refine z_q (t2) (h := ?_)))
  repeat (first | (refine w_q (h := ?_)) | (refine w_s (h := ?_)) | (refine w_t (h := ?_)) | (refine w_k (h := ?_)) | (refine y_q (h := ?_)) | (refine y_s (h := ?_)) | (refine y_t (h := ?_)) | (refine y_k (h := ?_)) | (refine lex_nil (by kernel_rfl) ?_) | (refine awp_sq ?_) | (refine awp_rg ?_) | (refine awp_rd (by kernel_rfl) (by kernel_rfl) ?_) | (refine awp_block ?_) | (refine awp_exit ?_) | (refine awp_ret ?_) | (refine awp_skip ?_) | (refine w_r (q_build tyOk rfl rfl rfl rfl rfl rfl rfl rfl) (h := ?_)) | (refine y_r (q_build tyOk rfl rfl rfl rfl rfl rfl rfl rfl) (h := ?_)))
  (first | (refine c_q (t4) (h := ?_)) | (refine z_q (t4) (h := ?_)))
  repeat (first | (refine w_q (h := ?_)) | (refine w_s (h := ?_)) | (refine w_t (h := ?_)) | (refine w_k (h := ?_)) | (refine y_q (h := ?_)) | (refine y_s (h := ?_)) | (refine y_t (h := ?_)) | (refine y_k (h := ?_)) | (refine lex_nil (by kernel_rfl) ?_) | (refine awp_sq ?_) | (refine awp_rg ?_) | (refine awp_rd (by kernel_rfl) (by kernel_rfl) ?_) | (refine awp_block ?_) | (refine awp_exit ?_) | (refine awp_ret ?_) | (refine awp_skip ?_) | (refine w_r (q_build tyOk rfl rfl rfl rfl rfl rfl rfl rfl) (h := ?_)) | (refine y_r (q_build tyOk rfl rfl rfl rfl rfl rfl rfl rfl) (h := ?_)))
  refine awp_ifF rfl rfl ?_
  repeat (first | (refine w_q (h := ?_)) | (refine w_s (h := ?_)) | (refine w_t (h := ?_)) | (refine w_k (h := ?_)) | (refine y_q (h := ?_)) | (refine y_s (h := ?_)) | (refine y_t (h := ?_)) | (refine y_k (h := ?_)) | (refine lex_nil (by kernel_rfl) ?_) | (refine awp_sq ?_) | (refine awp_rg ?_) | (refine awp_rd (by kernel_rfl) (by kernel_rfl) ?_) | (refine awp_block ?_) | (refine awp_exit ?_) | (refine awp_ret ?_) | (refine awp_skip ?_) | (refine w_r (q_build tyOk rfl rfl rfl rfl rfl rfl rfl rfl) (h := ?_)) | (refine y_r (q_build tyOk rfl rfl rfl rfl rfl rfl rfl rfl) (h := ?_)))
  refine awp_loop (X := Nat) (fun k => k ≤ n) (fun k => [(3, .bp 3 0), (4, .bp 4 0), (8, .t (.f .f32 (ahF sh k).1)), (9, .t (.f .f32 (ahF sh k).2)), (10, .own 29 0 k), (30, .t (.v (.int .i64 n))), (31, .t (.v (.int .i64 k)))])
    (fun k => [(29, .sl 30 (.fl ((ahL s sh n).take k))), (4, .box 72 [.t (.f .f32 sh.l), .t (.f .f32 sh.s), .t (.f .f32 sh.c), .t (.f .f32 sh.d)]), (3, .box 70 [.t (.f .f32 s.l), .t (.f .f32 s.s), .argc 0 2 (.fl s.se), .t (.v (.int .i64 s.at_))])]) (fun k => n - k)
    0 ⟨by omega, fun i => i, ⟨rfl, rfl, rfl, rfl, rfl, rfl, rfl, trivial⟩, ⟨rfl, rfl, rfl, trivial⟩, injOn_id _⟩ (fun k hk => ?_)
  have hz : ((ahL s sh n).take k).length = k := by simp [hll]; omega
  repeat (first | (refine w_q (h := ?_)) | (refine w_s (h := ?_)) | (refine w_t (h := ?_)) | (refine w_k (h := ?_)) | (refine y_q (h := ?_)) | (refine y_s (h := ?_)) | (refine y_t (h := ?_)) | (refine y_k (h := ?_)) | (refine lex_nil (by kernel_rfl) ?_) | (refine awp_sq ?_) | (refine awp_rg ?_) | (refine awp_rd (by kernel_rfl) (by kernel_rfl) ?_) | (refine awp_block ?_) | (refine awp_exit ?_) | (refine awp_ret ?_) | (refine awp_skip ?_) | (refine w_r (q_build tyOk rfl rfl rfl rfl rfl rfl rfl rfl) (h := ?_)) | (refine y_r (q_build tyOk rfl rfl rfl rfl rfl rfl rfl rfl) (h := ?_)))
  refine awp_if rfl (fun h => ?_) (fun h => ?_)
  · simp only [icmp, decide_eq_true_eq] at h
    have hml := Nat.mod_lt (m + k) (show 0 < s.se.length by omega)
    have hmod : (((m : Int) + (k : Int)) % ((s.se.length : Nat) : Int)) = (((m + k) % s.se.length : Nat) : Int) := by rw [Int.natCast_emod]; rfl
    have hv : fop .add .f32 (fop .add .f32 s.l (fop .mul .f32 (ahF sh k).1 s.s)) (s.se.getD ((m + k) % s.se.length) 0) = ahV s sh k := by unfold ahV; rw [hm]; rfl
    rw [hm]
    repeat (first | (refine w_q (h := ?_)) | (refine w_s (h := ?_)) | (refine w_t (h := ?_)) | (refine w_k (h := ?_)) | (refine y_q (h := ?_)) | (refine y_s (h := ?_)) | (refine y_t (h := ?_)) | (refine y_k (h := ?_)) | (refine lex_nil (by kernel_rfl) ?_) | (refine awp_sq ?_) | (refine awp_rg ?_) | (refine awp_rd (by kernel_rfl) (by kernel_rfl) ?_) | (refine awp_block ?_) | (refine awp_exit ?_) | (refine awp_ret ?_) | (refine awp_skip ?_) | (refine w_r (q_build tyOk rfl rfl rfl rfl rfl rfl rfl rfl) (h := ?_)) | (refine y_r (q_build tyOk rfl rfl rfl rfl rfl rfl rfl rfl) (h := ?_)))
    (first | (refine w_r (q_rem rfl rfl rfl (by omega) (by omega)) (h := ?_)) | (refine y_r (q_rem rfl rfl rfl (by omega) (by omega)) (h := ?_)))
    rw [hmod]
    (first | (refine w_r (q_idx_tree ((m + k) % s.se.length) tyOk rfl rfl rfl rfl rfl rfl rfl rfl (by omega) (by first | omega | (simp only [T.len]; omega) | assumption)) (h := ?_)) | (refine y_r (q_idx_tree ((m + k) % s.se.length) tyOk rfl rfl rfl rfl rfl rfl rfl rfl (by omega) (by first | omega | (simp only [T.len]; omega) | assumption)) (h := ?_)))
    repeat (first | (refine w_q (h := ?_)) | (refine w_s (h := ?_)) | (refine w_t (h := ?_)) | (refine w_k (h := ?_)) | (refine y_q (h := ?_)) | (refine y_s (h := ?_)) | (refine y_t (h := ?_)) | (refine y_k (h := ?_)) | (refine lex_nil (by kernel_rfl) ?_) | (refine awp_sq ?_) | (refine awp_rg ?_) | (refine awp_rd (by kernel_rfl) (by kernel_rfl) ?_) | (refine awp_block ?_) | (refine awp_exit ?_) | (refine awp_ret ?_) | (refine awp_skip ?_) | (refine w_r (q_build tyOk rfl rfl rfl rfl rfl rfl rfl rfl) (h := ?_)) | (refine y_r (q_build tyOk rfl rfl rfl rfl rfl rfl rfl rfl) (h := ?_)))
    rw [hv]
    repeat (first | (refine w_q (h := ?_)) | (refine w_s (h := ?_)) | (refine w_t (h := ?_)) | (refine w_k (h := ?_)) | (refine y_q (h := ?_)) | (refine y_s (h := ?_)) | (refine y_t (h := ?_)) | (refine y_k (h := ?_)) | (refine lex_nil (by kernel_rfl) ?_) | (refine awp_sq ?_) | (refine awp_rg ?_) | (refine awp_rd (by kernel_rfl) (by kernel_rfl) ?_) | (refine awp_block ?_) | (refine awp_exit ?_) | (refine awp_ret ?_) | (refine awp_skip ?_) | (refine w_r (q_build tyOk rfl rfl rfl rfl rfl rfl rfl rfl) (h := ?_)) | (refine y_r (q_build tyOk rfl rfl rfl rfl rfl rfl rfl rfl) (h := ?_)))
    (first | (refine a_s (hn := by exact hz) (h := ?_)) | (refine b_s (hn := by exact hz) (h := ?_)))
    repeat (first | (refine w_q (h := ?_)) | (refine w_s (h := ?_)) | (refine w_t (h := ?_)) | (refine w_k (h := ?_)) | (refine y_q (h := ?_)) | (refine y_s (h := ?_)) | (refine y_t (h := ?_)) | (refine y_k (h := ?_)) | (refine lex_nil (by kernel_rfl) ?_) | (refine awp_sq ?_) | (refine awp_rg ?_) | (refine awp_rd (by kernel_rfl) (by kernel_rfl) ?_) | (refine awp_block ?_) | (refine awp_exit ?_) | (refine awp_ret ?_) | (refine awp_skip ?_) | (refine w_r (q_build tyOk rfl rfl rfl rfl rfl rfl rfl rfl) (h := ?_)) | (refine y_r (q_build tyOk rfl rfl rfl rfl rfl rfl rfl rfl) (h := ?_)))
    exact ⟨k + 1, by omega, by omega, fun i => i, ⟨rfl, rfl, rfl, rfl, own_eq (by simp only [T.app, T.len, List.length_append, hz]; rfl), rfl, iE3 (by omega), trivial⟩, ⟨sl_eq (congrArg T.fl (take_snoc (by omega) (hget k (by omega)))), rfl, rfl, trivial⟩, injOn_id _⟩
  simp only [icmp, decide_eq_false_iff_not] at h
  obtain rfl : k = n := by omega
  rw [List.take_of_length_le (by omega : (ahL s sh k).length ≤ k)]
  repeat (first | (refine w_q (h := ?_)) | (refine w_s (h := ?_)) | (refine w_t (h := ?_)) | (refine w_k (h := ?_)) | (refine y_q (h := ?_)) | (refine y_s (h := ?_)) | (refine y_t (h := ?_)) | (refine y_k (h := ?_)) | (refine lex_nil (by kernel_rfl) ?_) | (refine awp_sq ?_) | (refine awp_rg ?_) | (refine awp_rd (by kernel_rfl) (by kernel_rfl) ?_) | (refine awp_block ?_) | (refine awp_exit ?_) | (refine awp_ret ?_) | (refine awp_skip ?_) | (refine w_r (q_build tyOk rfl rfl rfl rfl rfl rfl rfl rfl) (h := ?_)) | (refine y_r (q_build tyOk rfl rfl rfl rfl rfl rfl rfl rfl) (h := ?_)))
  (first | (refine c_q (ifAll_t (ahL s sh k) (by omega) h3) (h := ?_)) | (refine z_q (ifAll_t (ahL s sh k) (by omega) h3) (h := ?_)))
  repeat (first | (refine w_q (h := ?_)) | (refine w_s (h := ?_)) | (refine w_t (h := ?_)) | (refine w_k (h := ?_)) | (refine y_q (h := ?_)) | (refine y_s (h := ?_)) | (refine y_t (h := ?_)) | (refine y_k (h := ?_)) | (refine lex_nil (by kernel_rfl) ?_) | (refine awp_sq ?_) | (refine awp_rg ?_) | (refine awp_rd (by kernel_rfl) (by kernel_rfl) ?_) | (refine awp_block ?_) | (refine awp_exit ?_) | (refine awp_ret ?_) | (refine awp_skip ?_) | (refine w_r (q_build tyOk rfl rfl rfl rfl rfl rfl rfl rfl) (h := ?_)) | (refine y_r (q_build tyOk rfl rfl rfl rfl rfl rfl rfl rfl) (h := ?_)))
  refine ret_ok tyOk (by first | exact .inr rfl | exact .inl rfl) (pi1 29) rfl (by first | exact .cons (by first | exact .tmp | exact .cell rfl rfl rfl rfl rfl rfl | exact .cell1 rfl rfl rfl rfl rfl) .nil | exact .cons (by first | exact .tmp | exact .cell rfl rfl rfl rfl rfl rfl | exact .cell1 rfl rfl rfl rfl rfl) (.cons (by first | exact .tmp | exact .cell rfl rfl rfl rfl rfl rfl | exact .cell1 rfl rfl rfl rfl rfl) .nil) | exact .cons (by first | exact .tmp | exact .cell rfl rfl rfl rfl rfl rfl | exact .cell1 rfl rfl rfl rfl rfl) (.cons (by first | exact .tmp | exact .cell rfl rfl rfl rfl rfl rfl | exact .cell1 rfl rfl rfl rfl rfl) (.cons (by first | exact .tmp | exact .cell rfl rfl rfl rfl rfl rfl | exact .cell1 rfl rfl rfl rfl rfl) .nil)) | exact .cons (by first | exact .tmp | exact .cell rfl rfl rfl rfl rfl rfl | exact .cell1 rfl rfl rfl rfl rfl) (.cons (by first | exact .tmp | exact .cell rfl rfl rfl rfl rfl rfl | exact .cell1 rfl rfl rfl rfl rfl) (.cons (by first | exact .tmp | exact .cell rfl rfl rfl rfl rfl rfl | exact .cell1 rfl rfl rfl rfl rfl) (.cons (by first | exact .tmp | exact .cell rfl rfl rfl rfl rfl rfl | exact .cell1 rfl rfl rfl rfl rfl) .nil)))) ?_ ⟨rfl, trivial⟩ (injO_1 _ _ _)
  repeat' (first | exact RetRelL.nil | (refine RetRel.nil rfl ?_) | refine RetRelL.cons ?_ ?_ | refine rr_tup ?_ | refine rr_agg ?_ | refine rr_own rfl ?_ | exact RetRel.arg | exact RetRel.argc | refine rr_t ?_)
  all_goals first | rfl | omega
end Go.Proofs.Ytmnpdipiffmnhaa

