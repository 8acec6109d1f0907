import Derived.Test.YtmnpdipiffmnhaaVT28
import Derived.Test.YtmnpdipiffmnhaaVT81s
import Derived.Test.YtmnpdipiffmnhaaVAwC
import Derived.Test.YtmnpdipiffmnhaaVAwI
import Derived.WalkKit
import Derived.Deep.QuietTactic
import Derived.BigQuiet
set_option linter.unusedVariables false
set_option linter.unusedSimpArgs false
set_option maxRecDepth 20000
set_option maxHeartbeats 8000000
namespace Go.Proofs.Ytmnpdipiffmnhaa
open Go.Aw
attribute [local irreducible] QRun LexD AWp TCall TMut fop fint fcmp fconv

/-! ### bytes, and what a law reads out of them -/
abbrev bT (x : Nat) : T := .v (.int .u8 (x : Int))
abbrev BY (l : List Nat) : T := .tl (l.map bT)
theorem by_len (l : List Nat) : (l.map bT).length = l.length := by simp
theorem by_get {l : List Nat} {i : Nat} (h : i < l.length) : T.get i (BY l) = bT (l.getD i 0) := by
  simp [T.get, List.getD_eq_getElem?_getD, h]
def r8F (l : List Nat) (k n : Int) : Int := if n ≤ 1 ∨ (l.length : Int) ≤ k then 0 else ((l.getD k.toNat 0 : Nat) : Int) % n
theorem r8F_lt {l : List Nat} {k n : Int} (hn : 1 ≤ n) : 0 ≤ r8F l k n ∧ r8F l k n < n := by
  unfold r8F
  split
  · omega
  · exact ⟨Int.emod_nonneg _ (by omega), Int.emod_lt_of_pos _ (by omega)⟩
def r8Lg (a b : List Nat) : Bool := decide (48 < a.length) || decide (48 < b.length)
theorem r8Long_c (a b : List Nat) (ha : a.length ≤ 9223372036854775807) (hb : b.length ≤ 9223372036854775807) : TCall Try.prog 51 [BY a, BY b] (.t (.v (.bool (r8Lg a b)))) [] := by
  refine tcall_of Try.func51 rfl (by kernel_rfl) (Nat.le_of_ble_eq_true rfl) rfl ?_
  simp only [argsL, argAV, argCs, argS]
  repeat (first | (refine w_q (h := ?_)) | (refine w_s (h := ?_)) | (refine w_t (h := ?_)) | (refine w_k (h := ?_)) | (refine y_q (h := ?_)) | (refine y_s (h := ?_)) | (refine y_t (h := ?_)) | (refine y_k (h := ?_)) | (refine lex_nil (by kernel_rfl) ?_) | (refine awp_sq ?_) | (refine awp_rg ?_) | (refine awp_rd (by kernel_rfl) (by kernel_rfl) ?_) | (refine awp_block ?_) | (refine awp_exit ?_) | (refine awp_ret ?_) | (refine awp_skip ?_))
  (first | (refine w_r (q_len_tree tyOk rfl rfl rfl rfl rfl) (h := ?_)) | (refine y_r (q_len_tree tyOk rfl rfl rfl rfl rfl) (h := ?_)))
  repeat (first | (refine w_q (h := ?_)) | (refine w_s (h := ?_)) | (refine w_t (h := ?_)) | (refine w_k (h := ?_)) | (refine y_q (h := ?_)) | (refine y_s (h := ?_)) | (refine y_t (h := ?_)) | (refine y_k (h := ?_)) | (refine lex_nil (by kernel_rfl) ?_) | (refine awp_sq ?_) | (refine awp_rg ?_) | (refine awp_rd (by kernel_rfl) (by kernel_rfl) ?_) | (refine awp_block ?_) | (refine awp_exit ?_) | (refine awp_ret ?_) | (refine awp_skip ?_))
  refine lex_if rfl rfl rfl (fun h => ?_) (fun h => ?_)
  · repeat (first | (refine w_q (h := ?_)) | (refine w_s (h := ?_)) | (refine w_t (h := ?_)) | (refine w_k (h := ?_)) | (refine y_q (h := ?_)) | (refine y_s (h := ?_)) | (refine y_t (h := ?_)) | (refine y_k (h := ?_)) | (refine lex_nil (by kernel_rfl) ?_) | (refine awp_sq ?_) | (refine awp_rg ?_) | (refine awp_rd (by kernel_rfl) (by kernel_rfl) ?_) | (refine awp_block ?_) | (refine awp_exit ?_) | (refine awp_ret ?_) | (refine awp_skip ?_))
    rw [show r8Lg a b = true by simp [icmp, T.len] at h; simp [r8Lg]; omega]
    (refine ret_ok tyOk (by first | exact .inr rfl | exact .inl rfl) pi0 rfl (by first | exact .cons (by first | exact .tmp | exact .cell rfl rfl rfl rfl rfl rfl | exact .cell1 rfl rfl rfl rfl rfl) .nil | exact .cons (by first | exact .tmp | exact .cell rfl rfl rfl rfl rfl rfl | exact .cell1 rfl rfl rfl rfl rfl) (.cons (by first | exact .tmp | exact .cell rfl rfl rfl rfl rfl rfl | exact .cell1 rfl rfl rfl rfl rfl) .nil) | exact .cons (by first | exact .tmp | exact .cell rfl rfl rfl rfl rfl rfl | exact .cell1 rfl rfl rfl rfl rfl) (.cons (by first | exact .tmp | exact .cell rfl rfl rfl rfl rfl rfl | exact .cell1 rfl rfl rfl rfl rfl) (.cons (by first | exact .tmp | exact .cell rfl rfl rfl rfl rfl rfl | exact .cell1 rfl rfl rfl rfl rfl) .nil)) | exact .cons (by first | exact .tmp | exact .cell rfl rfl rfl rfl rfl rfl | exact .cell1 rfl rfl rfl rfl rfl) (.cons (by first | exact .tmp | exact .cell rfl rfl rfl rfl rfl rfl | exact .cell1 rfl rfl rfl rfl rfl) (.cons (by first | exact .tmp | exact .cell rfl rfl rfl rfl rfl rfl | exact .cell1 rfl rfl rfl rfl rfl) (.cons (by first | exact .tmp | exact .cell rfl rfl rfl rfl rfl rfl | exact .cell1 rfl rfl rfl rfl rfl) .nil)))) ?_ trivial (injO_0 _); (repeat' (first | exact RetRelL.nil | (refine RetRel.nil rfl ?_) | refine RetRelL.cons ?_ ?_ | refine rr_tup ?_ | refine rr_agg ?_ | refine rr_own rfl ?_ | exact RetRel.arg | exact RetRel.argc | refine rr_t ?_)); all_goals rfl)
  · repeat (first | (refine w_q (h := ?_)) | (refine w_s (h := ?_)) | (refine w_t (h := ?_)) | (refine w_k (h := ?_)) | (refine y_q (h := ?_)) | (refine y_s (h := ?_)) | (refine y_t (h := ?_)) | (refine y_k (h := ?_)) | (refine lex_nil (by kernel_rfl) ?_) | (refine awp_sq ?_) | (refine awp_rg ?_) | (refine awp_rd (by kernel_rfl) (by kernel_rfl) ?_) | (refine awp_block ?_) | (refine awp_exit ?_) | (refine awp_ret ?_) | (refine awp_skip ?_))
    (first | (refine w_r (q_len_tree tyOk rfl rfl rfl rfl rfl) (h := ?_)) | (refine y_r (q_len_tree tyOk rfl rfl rfl rfl rfl) (h := ?_)))
    repeat (first | (refine w_q (h := ?_)) | (refine w_s (h := ?_)) | (refine w_t (h := ?_)) | (refine w_k (h := ?_)) | (refine y_q (h := ?_)) | (refine y_s (h := ?_)) | (refine y_t (h := ?_)) | (refine y_k (h := ?_)) | (refine lex_nil (by kernel_rfl) ?_) | (refine awp_sq ?_) | (refine awp_rg ?_) | (refine awp_rd (by kernel_rfl) (by kernel_rfl) ?_) | (refine awp_block ?_) | (refine awp_exit ?_) | (refine awp_ret ?_) | (refine awp_skip ?_))
    rw [show r8Lg a b = icmp .gtr ((T.len (BY b) : Nat) : Int) 48 by
      simp [icmp, T.len] at h
      unfold r8Lg
      rw [decide_eq_false (by omega), Bool.false_or]
      simp only [icmp, T.len, by_len]
      exact decide_eq_decide.2 (by omega)]
    (refine ret_ok tyOk (by first | exact .inr rfl | exact .inl rfl) pi0 rfl (by first | exact .cons (by first | exact .tmp | exact .cell rfl rfl rfl rfl rfl rfl | exact .cell1 rfl rfl rfl rfl rfl) .nil | exact .cons (by first | exact .tmp | exact .cell rfl rfl rfl rfl rfl rfl | exact .cell1 rfl rfl rfl rfl rfl) (.cons (by first | exact .tmp | exact .cell rfl rfl rfl rfl rfl rfl | exact .cell1 rfl rfl rfl rfl rfl) .nil) | exact .cons (by first | exact .tmp | exact .cell rfl rfl rfl rfl rfl rfl | exact .cell1 rfl rfl rfl rfl rfl) (.cons (by first | exact .tmp | exact .cell rfl rfl rfl rfl rfl rfl | exact .cell1 rfl rfl rfl rfl rfl) (.cons (by first | exact .tmp | exact .cell rfl rfl rfl rfl rfl rfl | exact .cell1 rfl rfl rfl rfl rfl) .nil)) | exact .cons (by first | exact .tmp | exact .cell rfl rfl rfl rfl rfl rfl | exact .cell1 rfl rfl rfl rfl rfl) (.cons (by first | exact .tmp | exact .cell rfl rfl rfl rfl rfl rfl | exact .cell1 rfl rfl rfl rfl rfl) (.cons (by first | exact .tmp | exact .cell rfl rfl rfl rfl rfl rfl | exact .cell1 rfl rfl rfl rfl rfl) (.cons (by first | exact .tmp | exact .cell rfl rfl rfl rfl rfl rfl | exact .cell1 rfl rfl rfl rfl rfl) .nil)))) ?_ trivial (injO_0 _); (repeat' (first | exact RetRelL.nil | (refine RetRel.nil rfl ?_) | refine RetRelL.cons ?_ ?_ | refine rr_tup ?_ | refine rr_agg ?_ | refine rr_own rfl ?_ | exact RetRel.arg | exact RetRel.argc | refine rr_t ?_)); all_goals rfl)
theorem r8At_c (l : List Nat) (k n : Int) (hl : l.length ≤ 9223372036854775807) (hb : ∀ i, i < l.length → l.getD i 0 < 256) (hk : 0 ≤ k ∧ k ≤ 9223372036854775807) (hn : 1 < n ∧ n ≤ 9223372036854775807) :
    TCall Try.prog 55 [BY l, .v (.int .i64 k), .v (.int .i64 n)] (.t (.v (.int .i64 (r8F l k n)))) [] := by
  refine tcall_of Try.func55 rfl (by kernel_rfl) (Nat.le_of_ble_eq_true rfl) rfl ?_
  simp only [argsL, argAV, argCs, argS]
  repeat (first | (refine w_q (h := ?_)) | (refine w_s (h := ?_)) | (refine w_t (h := ?_)) | (refine w_k (h := ?_)) | (refine y_q (h := ?_)) | (refine y_s (h := ?_)) | (refine y_t (h := ?_)) | (refine y_k (h := ?_)) | (refine lex_nil (by kernel_rfl) ?_) | (refine awp_sq ?_) | (refine awp_rg ?_) | (refine awp_rd (by kernel_rfl) (by kernel_rfl) ?_) | (refine awp_block ?_) | (refine awp_exit ?_) | (refine awp_ret ?_) | (refine awp_skip ?_))
  refine lex_if rfl rfl rfl (fun h => ?_) (fun h => ?_)
  · simp only [icmp, decide_eq_true_eq] at h
    omega
  repeat (first | (refine w_q (h := ?_)) | (refine w_s (h := ?_)) | (refine w_t (h := ?_)) | (refine w_k (h := ?_)) | (refine y_q (h := ?_)) | (refine y_s (h := ?_)) | (refine y_t (h := ?_)) | (refine y_k (h := ?_)) | (refine lex_nil (by kernel_rfl) ?_) | (refine awp_sq ?_) | (refine awp_rg ?_) | (refine awp_rd (by kernel_rfl) (by kernel_rfl) ?_) | (refine awp_block ?_) | (refine awp_exit ?_) | (refine awp_ret ?_) | (refine awp_skip ?_))
  (first | (refine w_r (q_len_tree tyOk rfl rfl rfl rfl rfl) (h := ?_)) | (refine y_r (q_len_tree tyOk rfl rfl rfl rfl rfl) (h := ?_)))
  repeat (first | (refine w_q (h := ?_)) | (refine w_s (h := ?_)) | (refine w_t (h := ?_)) | (refine w_k (h := ?_)) | (refine y_q (h := ?_)) | (refine y_s (h := ?_)) | (refine y_t (h := ?_)) | (refine y_k (h := ?_)) | (refine lex_nil (by kernel_rfl) ?_) | (refine awp_sq ?_) | (refine awp_rg ?_) | (refine awp_rd (by kernel_rfl) (by kernel_rfl) ?_) | (refine awp_block ?_) | (refine awp_exit ?_) | (refine awp_ret ?_) | (refine awp_skip ?_))
  refine awp_if rfl (fun h1 => ?_) (fun h1 => ?_)
  · simp only [icmp, decide_eq_true_eq, T.len, by_len] at h1
    repeat (first | (refine w_q (h := ?_)) | (refine w_s (h := ?_)) | (refine w_t (h := ?_)) | (refine w_k (h := ?_)) | (refine y_q (h := ?_)) | (refine y_s (h := ?_)) | (refine y_t (h := ?_)) | (refine y_k (h := ?_)) | (refine lex_nil (by kernel_rfl) ?_) | (refine awp_sq ?_) | (refine awp_rg ?_) | (refine awp_rd (by kernel_rfl) (by kernel_rfl) ?_) | (refine awp_block ?_) | (refine awp_exit ?_) | (refine awp_ret ?_) | (refine awp_skip ?_))
    rw [show r8F l k n = 0 by unfold r8F; rw [if_pos (.inr h1)]]
    (refine ret_ok tyOk (by first | exact .inr rfl | exact .inl rfl) pi0 rfl (by first | exact .cons (by first | exact .tmp | exact .cell rfl rfl rfl rfl rfl rfl | exact .cell1 rfl rfl rfl rfl rfl) .nil | exact .cons (by first | exact .tmp | exact .cell rfl rfl rfl rfl rfl rfl | exact .cell1 rfl rfl rfl rfl rfl) (.cons (by first | exact .tmp | exact .cell rfl rfl rfl rfl rfl rfl | exact .cell1 rfl rfl rfl rfl rfl) .nil) | exact .cons (by first | exact .tmp | exact .cell rfl rfl rfl rfl rfl rfl | exact .cell1 rfl rfl rfl rfl rfl) (.cons (by first | exact .tmp | exact .cell rfl rfl rfl rfl rfl rfl | exact .cell1 rfl rfl rfl rfl rfl) (.cons (by first | exact .tmp | exact .cell rfl rfl rfl rfl rfl rfl | exact .cell1 rfl rfl rfl rfl rfl) .nil)) | exact .cons (by first | exact .tmp | exact .cell rfl rfl rfl rfl rfl rfl | exact .cell1 rfl rfl rfl rfl rfl) (.cons (by first | exact .tmp | exact .cell rfl rfl rfl rfl rfl rfl | exact .cell1 rfl rfl rfl rfl rfl) (.cons (by first | exact .tmp | exact .cell rfl rfl rfl rfl rfl rfl | exact .cell1 rfl rfl rfl rfl rfl) (.cons (by first | exact .tmp | exact .cell rfl rfl rfl rfl rfl rfl | exact .cell1 rfl rfl rfl rfl rfl) .nil)))) ?_ trivial (injO_0 _); (repeat' (first | exact RetRelL.nil | (refine RetRel.nil rfl ?_) | refine RetRelL.cons ?_ ?_ | refine rr_tup ?_ | refine rr_agg ?_ | refine rr_own rfl ?_ | exact RetRel.arg | exact RetRel.argc | refine rr_t ?_)); all_goals rfl)
  · simp only [icmp, decide_eq_false_iff_not, T.len, by_len] at h1
    obtain ⟨i, rfl⟩ : ∃ i : Nat, k = (i : Int) := ⟨k.toNat, by omega⟩
    have hi : i < l.length := by omega
    have h8 := hb i hi
    have hw : IntKind.wrap .i64 ((l.getD i 0 : Nat) : Int) = ((l.getD i 0 : Nat) : Int) := by
      exact wrap_in (by omega)
    repeat (first | (refine w_q (h := ?_)) | (refine w_s (h := ?_)) | (refine w_t (h := ?_)) | (refine w_k (h := ?_)) | (refine y_q (h := ?_)) | (refine y_s (h := ?_)) | (refine y_t (h := ?_)) | (refine y_k (h := ?_)) | (refine lex_nil (by kernel_rfl) ?_) | (refine awp_sq ?_) | (refine awp_rg ?_) | (refine awp_rd (by kernel_rfl) (by kernel_rfl) ?_) | (refine awp_block ?_) | (refine awp_exit ?_) | (refine awp_ret ?_) | (refine awp_skip ?_))
    have hbl := by_len l
    (first | (refine w_r (q_idx_tree (i) tyOk rfl rfl rfl rfl rfl rfl rfl rfl (by omega) (by first | omega | (simp only [T.len]; omega) | assumption)) (h := ?_)) | (refine y_r (q_idx_tree (i) tyOk rfl rfl rfl rfl rfl rfl rfl rfl (by omega) (by first | omega | (simp only [T.len]; omega) | assumption)) (h := ?_)))
    rw [by_get hi]
    repeat (first | (refine w_q (h := ?_)) | (refine w_s (h := ?_)) | (refine w_t (h := ?_)) | (refine w_k (h := ?_)) | (refine y_q (h := ?_)) | (refine y_s (h := ?_)) | (refine y_t (h := ?_)) | (refine y_k (h := ?_)) | (refine lex_nil (by kernel_rfl) ?_) | (refine awp_sq ?_) | (refine awp_rg ?_) | (refine awp_rd (by kernel_rfl) (by kernel_rfl) ?_) | (refine awp_block ?_) | (refine awp_exit ?_) | (refine awp_ret ?_) | (refine awp_skip ?_))
    (first | (refine w_r (q_cv_ii tyOk rfl rfl rfl rfl rfl) (h := ?_)) | (refine y_r (q_cv_ii tyOk rfl rfl rfl rfl rfl) (h := ?_)))
    rw [hw]
    repeat (first | (refine w_q (h := ?_)) | (refine w_s (h := ?_)) | (refine w_t (h := ?_)) | (refine w_k (h := ?_)) | (refine y_q (h := ?_)) | (refine y_s (h := ?_)) | (refine y_t (h := ?_)) | (refine y_k (h := ?_)) | (refine lex_nil (by kernel_rfl) ?_) | (refine awp_sq ?_) | (refine awp_rg ?_) | (refine awp_rd (by kernel_rfl) (by kernel_rfl) ?_) | (refine awp_block ?_) | (refine awp_exit ?_) | (refine awp_ret ?_) | (refine awp_skip ?_))
    (first | (refine w_r (q_rem rfl rfl rfl (by omega) (by omega)) (h := ?_)) | (refine y_r (q_rem rfl rfl rfl (by omega) (by omega)) (h := ?_)))
    repeat (first | (refine w_q (h := ?_)) | (refine w_s (h := ?_)) | (refine w_t (h := ?_)) | (refine w_k (h := ?_)) | (refine y_q (h := ?_)) | (refine y_s (h := ?_)) | (refine y_t (h := ?_)) | (refine y_k (h := ?_)) | (refine lex_nil (by kernel_rfl) ?_) | (refine awp_sq ?_) | (refine awp_rg ?_) | (refine awp_rd (by kernel_rfl) (by kernel_rfl) ?_) | (refine awp_block ?_) | (refine awp_exit ?_) | (refine awp_ret ?_) | (refine awp_skip ?_))
    rw [show r8F l (i : Int) n = ((l.getD i 0 : Nat) : Int) % n by unfold r8F; rw [if_neg (by omega), Int.toNat_natCast]]
    (refine ret_ok tyOk (by first | exact .inr rfl | exact .inl rfl) pi0 rfl (by first | exact .cons (by first | exact .tmp | exact .cell rfl rfl rfl rfl rfl rfl | exact .cell1 rfl rfl rfl rfl rfl) .nil | exact .cons (by first | exact .tmp | exact .cell rfl rfl rfl rfl rfl rfl | exact .cell1 rfl rfl rfl rfl rfl) (.cons (by first | exact .tmp | exact .cell rfl rfl rfl rfl rfl rfl | exact .cell1 rfl rfl rfl rfl rfl) .nil) | exact .cons (by first | exact .tmp | exact .cell rfl rfl rfl rfl rfl rfl | exact .cell1 rfl rfl rfl rfl rfl) (.cons (by first | exact .tmp | exact .cell rfl rfl rfl rfl rfl rfl | exact .cell1 rfl rfl rfl rfl rfl) (.cons (by first | exact .tmp | exact .cell rfl rfl rfl rfl rfl rfl | exact .cell1 rfl rfl rfl rfl rfl) .nil)) | exact .cons (by first | exact .tmp | exact .cell rfl rfl rfl rfl rfl rfl | exact .cell1 rfl rfl rfl rfl rfl) (.cons (by first | exact .tmp | exact .cell rfl rfl rfl rfl rfl rfl | exact .cell1 rfl rfl rfl rfl rfl) (.cons (by first | exact .tmp | exact .cell rfl rfl rfl rfl rfl rfl | exact .cell1 rfl rfl rfl rfl rfl) (.cons (by first | exact .tmp | exact .cell rfl rfl rfl rfl rfl rfl | exact .cell1 rfl rfl rfl rfl rfl) .nil)))) ?_ trivial (injO_0 _); (repeat' (first | exact RetRelL.nil | (refine RetRel.nil rfl ?_) | refine RetRelL.cons ?_ ?_ | refine rr_tup ?_ | refine rr_agg ?_ | refine rr_own rfl ?_ | exact RetRel.arg | exact RetRel.argc | refine rr_t ?_)); all_goals rfl)
end Go.Proofs.Ytmnpdipiffmnhaa

set_option linter.unusedVariables false
set_option linter.unusedSimpArgs false
set_option maxRecDepth 100000
set_option maxHeartbeats 8000000
namespace Go.Proofs.Ytmnpdipiffmnhaa
open Go.Aw Go.RowKit

/-! ### draws -/
theorem two_set {w : World} {b : Nat} {y0 x1 x2 v1 v2 : Value} {e : TypeId} {a c : Nat} (hw : w.heap[b]? = some (.cells #[y0, x1, x2] e (0, 0))) : ∀ w', w' = ((((w.drewN a).setCell ⟨b, 1, none⟩ v1).setCell ⟨b, 2, none⟩ v2).drewN c) → w'.os = w.os ∧ w'.tape = w.tape ∧ w'.output = w.output ∧ w'.heap.size = w.heap.size ∧
    (∀ k, k ≠ b → w'.heap[k]? = w.heap[k]?) ∧ w'.heap[b]? = some (.cells #[y0, v1, v2] e (0, 0)) := by
  rintro w' rfl
  have e1 := setCell_block (w := w.drewN a) (i := 1) hw v1
  have e2 := setCell_block (i := 2) e1 v2
  refine ⟨rfl, rfl, rfl, ?_, fun k hk => ?_, ?_⟩
  · simp [World.setCell, World.drewN]
  · exact (setCell_other hk _).trans (setCell_other hk _)
  · exact e2
theorem next_in (n at_ x : Nat) (seed : Int) (hn : n ≤ 9223372036854775807) (hx : x < 256) (hlt : at_ < n) (w : World) (b : Nat) (y0 : Value) (e : TypeId) (bc oc cap : Nat) (hc : n ≤ cap)
    (hw : w.heap[b]? = some (.cells #[.slice (some ⟨bc, oc, none⟩) n cap, .int .i64 at_, .int .u64 seed] e (0, 0))) (hcell : w.cell? ⟨bc, oc + at_, none⟩ = some (.int .u8 x)) :
    Calls Try.prog 173 #[.pointer (some ⟨b, 0, none⟩)] w fun ex w' => ex = .returned (.int .i64 x) ∧ w'.os = w.os ∧ w'.tape = w.tape ∧ w'.output = w.output ∧ w'.heap.size = w.heap.size ∧
      (∀ k, k ≠ b → w'.heap[k]? = w.heap[k]?) ∧ w'.heap[b]? = some (.cells #[.slice (some ⟨bc, oc, none⟩) n cap, .int .i64 (at_ + 1 : Nat), .int .u64 (IntKind.u64.wrap (IntKind.u64.wrap (IntKind.u64.wrap (seed * 6364136223846793005) + x) + 1442695040888963407))] e (0, 0)) := by
  have h0 : w.cell? ⟨b, 0, none⟩ = some (.slice (some ⟨bc, oc, none⟩) n cap) := by simp [World.cell?, hw]
  have h1 : w.cell? ⟨b, 1, none⟩ = some (.int .i64 at_) := by simp [World.cell?, hw]
  have h2 : w.cell? ⟨b, 2, none⟩ = some (.int .u64 seed) := by simp [World.cell?, hw]
  have hf1 : w.frozen? ⟨b, 1, none⟩ = false := by simp [World.frozen?, hw]
  have hf2 : w.frozen? ⟨b, 2, none⟩ = false := by simp [World.frozen?, hw]
  have hd : decide ((at_ : Int) < (n : Int)) = true := decide_eq_true (by omega)
  have hi0 : (0 : Int) ≤ (at_ : Int) := by omega
  have hi1 : (at_ : Int) < (n : Int) := by omega
  have hi2 : ((at_ : Int)).toNat = at_ := by omega
  have hx1 : wrap64 (x : Int) = (x : Int) := by unfold wrap64; omega
  refine calls_of_wp Try.func173 rfl ?_
  simp only [Try.ntmps173, List.size_toArray, List.length_cons, List.length_nil, Nat.reduceAdd, Nat.reduceSub, Array.replicate_succ, Array.replicate_zero, List.push_toArray, List.append_toArray, List.nil_append, List.cons_append]
  go_wp2
  go_quiet (fail)
  go_wp2
  go_quiet (fail)
  go_wp2
  go_quiet (fail)
  go_wp2
  go_ret
  exact ⟨rfl, two_set hw _ rfl⟩
def nxO (seed : Int) : Int := wrap64 (Go.bits BinOp.and IntKind.u64 (IntKind.u64.wrap (IntKind.u64.wrap (IntKind.u64.wrap (seed * 6364136223846793005)) + 1442695040888963407) / 1099511627776) 255)
theorem next_out (n at_ : Nat) (seed : Int) (hn : n ≤ 9223372036854775807) (hat : at_ < 9223372036854775807) (hlt : n ≤ at_) (w : World) (b : Nat) (e : TypeId) (ad : Option Addr) (cap : Nat)
    (hw : w.heap[b]? = some (.cells #[.slice ad n cap, .int .i64 at_, .int .u64 seed] e (0, 0))) :
    Calls Try.prog 173 #[.pointer (some ⟨b, 0, none⟩)] w fun ex w' => ex = .returned (.int .i64 (nxO seed)) ∧ w'.os = w.os ∧ w'.tape = w.tape ∧ w'.output = w.output ∧ w'.heap.size = w.heap.size ∧
      (∀ k, k ≠ b → w'.heap[k]? = w.heap[k]?) ∧ w'.heap[b]? = some (.cells #[.slice ad n cap, .int .i64 (at_ + 1 : Nat), .int .u64 (IntKind.u64.wrap (IntKind.u64.wrap (IntKind.u64.wrap (seed * 6364136223846793005)) + 1442695040888963407))] e (0, 0)) := by
  have h0 : w.cell? ⟨b, 0, none⟩ = some (.slice ad n cap) := by simp [World.cell?, hw]
  have h1 : w.cell? ⟨b, 1, none⟩ = some (.int .i64 at_) := by simp [World.cell?, hw]
  have h2 : w.cell? ⟨b, 2, none⟩ = some (.int .u64 seed) := by simp [World.cell?, hw]
  have hf1 : w.frozen? ⟨b, 1, none⟩ = false := by simp [World.frozen?, hw]
  have hf2 : w.frozen? ⟨b, 2, none⟩ = false := by simp [World.frozen?, hw]
  have hd : decide ((at_ : Int) < (n : Int)) = false := decide_eq_false (by omega)
  have hi0 : (0 : Int) ≤ (at_ : Int) := by omega
  have hi1 : ¬ (at_ : Int) < (n : Int) := by omega
  have hi3 : ¬ (at_ : Int) + 1 ≤ (n : Int) := by omega
  have hi2 : ((at_ : Int)).toNat = at_ := by omega
  refine calls_of_wp Try.func173 rfl ?_
  simp only [Try.ntmps173, List.size_toArray, List.length_cons, List.length_nil, Nat.reduceAdd, Nat.reduceSub, Array.replicate_succ, Array.replicate_zero, List.push_toArray, List.append_toArray, List.nil_append, List.cons_append]
  go_wp2
  go_quiet (fail)
  go_wp2
  go_quiet (fail)
  go_wp2
  go_ret
  exact ⟨rfl, two_set hw _ rfl⟩
def nxV (l : List Nat) (at_ : Nat) (seed : Int) : Int := if at_ < l.length then ((l.getD at_ 0 : Nat) : Int) else nxO seed
def nxS (l : List Nat) (at_ : Nat) (seed : Int) : Int := if at_ < l.length then IntKind.u64.wrap (IntKind.u64.wrap (IntKind.u64.wrap (seed * 6364136223846793005) + ((l.getD at_ 0 : Nat) : Int)) + 1442695040888963407) else IntKind.u64.wrap (IntKind.u64.wrap (IntKind.u64.wrap (seed * 6364136223846793005)) + 1442695040888963407)
theorem next_b (l : List Nat) (at_ : Nat) (seed : Int) (hl : l.length ≤ 9223372036854775807) (bl : ∀ i, i < l.length → l.getD i 0 < 256) (hat : at_ < 9223372036854775807) :
    PBox Try.prog 173 [] (.int .i64 (nxV l at_ seed)) (BY l) [.int .i64 at_, .int .u64 seed] [.int .i64 (at_ + 1 : Nat), .int .u64 (nxS l at_ seed)] := by
  refine ⟨⟨_, Try.func173, rfl, by kernel_rfl⟩, fun w b y0 e hw ht => ?_⟩
  obtain ⟨a, n, c, rfl, hn, hc, h⟩ := (TR_sl w _ (BY l) rfl y0).1 ht
  have hn' : n = l.length := by rw [hn]; exact by_len l
  subst hn'
  by_cases hlt : at_ < l.length
  · rcases h with h | ⟨bc, oc, rfl, hb, hok, hT⟩
    · omega
    · obtain ⟨x, hx, hr⟩ := (TRs_iff ..).1 hT at_ (bT (l.getD at_ 0)) (by simp [T.elems, List.getD_eq_getElem?_getD, hlt])
      rw [TR] at hr
      subst hr
      have := next_in l.length at_ (l.getD at_ 0) seed hl (bl _ hlt) hlt w b (.int .i64 0) e bc oc c hc hw hx
      unfold nxV nxS
      rw [if_pos hlt, if_pos hlt]
      exact this
  · have := next_out l.length at_ seed hl hat (by omega) w b e a c hw
    unfold nxV nxS
    rw [if_neg hlt, if_neg hlt]
    exact this
end Go.Proofs.Ytmnpdipiffmnhaa

set_option linter.unusedVariables false
set_option linter.unusedSimpArgs false
set_option maxRecDepth 100000
set_option maxHeartbeats 8000000
namespace Go.Proofs.Ytmnpdipiffmnhaa
open Go.Aw Go.RowKit

theorem pick_b (l : List Nat) (at_ : Nat) (seed n : Int) (hl : l.length ≤ 9223372036854775807) (bl : ∀ i, i < l.length → l.getD i 0 < 256) (hat : at_ < 9223372036854775807) (hn : 1 < n ∧ n ≤ 200) :
    PBox Try.prog 104 [.int .i64 n] (.int .i64 ((nxV l at_ seed).tmod n)) (BY l) [.int .i64 at_, .int .u64 seed] [.int .i64 (at_ + 1 : Nat), .int .u64 (nxS l at_ seed)] := by
  refine ⟨⟨_, Try.func104, rfl, by kernel_rfl⟩, fun w b y0 e hw ht => ?_⟩
  have h1 : ¬ n ≤ 1 := by omega
  have h2 : ¬ 200 < n := by omega
  have h3 : n ≠ 0 := by omega
  refine calls_of_wp Try.func104 rfl ?_
  simp only [Try.ntmps104, List.size_toArray, List.length_cons, List.length_nil, Nat.reduceAdd, Nat.reduceSub, Array.replicate_succ, Array.replicate_zero, List.push_toArray, List.append_toArray, List.nil_append, List.cons_append]
  go_wp2_with (fail)
  trace_state
  go_at_call 173
  refine ((next_b l at_ seed hl bl hat).2 w b y0 e hw ht).mono ?_
  rintro ex w' ⟨rfl, g1, g2, g3, g4, g5, g6⟩
  go_wp2
  trace_state
  go_ret
  exact ⟨rfl, g1, g2, g3, g4, g5, g6⟩
end Go.Proofs.Ytmnpdipiffmnhaa

