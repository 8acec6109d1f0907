import Derived.Test.YtjjpjnhjnpplcaaYT39
set_option linter.unusedVariables false
set_option linter.unusedSimpArgs false
set_option maxRecDepth 20000
set_option maxHeartbeats 8000000
namespace Go.Proofs.Ytjjpjnhjnpplcaa
open Go.Aw
attribute [local irreducible] QRun LexD AWp TCall TMut fop fint fcmp fconv

/-! ### runs back -/
def lbS (dr p : Nat) : Nat := fop .add .f32 p dr
def lbJ (dr p : Nat) : Nat := fop .quo .f32 p (lbS dr p)
def lbM (dr m p m1 : Nat) : Nat := fop .add .f32 m (fop .mul .f32 (lbJ dr p) (fop .sub .f32 m1 m))
def lbP (dr p p1 : Nat) : Nat := fop .add .f32 p (fop .mul .f32 (fop .mul .f32 (lbJ dr p) (lbJ dr p)) (fop .sub .f32 p1 (lbS dr p)))
/-- after 't' steps from the end; 'n' is the length -/
def lbR (dr n : Nat) (A B : List Nat) : Nat → List Nat × List Nat
  | 0 => (A, B)
  | t + 1 => ((lbR dr n A B t).1.set (n - 2 - t) (lbM dr ((lbR dr n A B t).1.getD (n - 2 - t) 0) ((lbR dr n A B t).2.getD (n - 2 - t) 0) ((lbR dr n A B t).1.getD (n - 1 - t) 0)),
      (lbR dr n A B t).2.set (n - 2 - t) (lbP dr ((lbR dr n A B t).2.getD (n - 2 - t) 0) ((lbR dr n A B t).2.getD (n - 1 - t) 0)))
theorem lbR_len (dr n : Nat) (A B : List Nat) : ∀ t, (lbR dr n A B t).1.length = A.length ∧ (lbR dr n A B t).2.length = B.length
  | 0 => ⟨rfl, rfl⟩
  | t + 1 => by
    have := lbR_len dr n A B t
    simp only [lbR, List.length_set]; exact this
def lbG (dr n : Nat) (A B : List Nat) (t : Nat) : Bool := fcmp .gtr .f32 (lbS dr ((lbR dr n A B t).2.getD (n - 2 - t) 0)) 0
def lbOk (dr n : Nat) (A B : List Nat) : Bool := (List.range (n - 1)).all (lbG dr n A B) && (lbR dr n A B (n - 1)).1.all fin && (lbR dr n A B (n - 1)).2.all fin
structure LB where
  a : List Nat
  b : List Nat
  ok : Bool
def levelBack (m sp no dr : Nat) (a : List Nat) (seen : List Bool) : LB :=
  if (levelRun m sp no dr a seen).ok && lbOk dr a.length (levelRun m sp no dr a seen).a (levelRun m sp no dr a seen).b then ⟨(lbR dr a.length (levelRun m sp no dr a seen).a (levelRun m sp no dr a seen).b (a.length - 1)).1, (lbR dr a.length (levelRun m sp no dr a seen).a (levelRun m sp no dr a seen).b (a.length - 1)).2, true⟩ else ⟨[], [], false⟩
theorem levelRun_ok {m sp no dr : Nat} {a : List Nat} {seen : List Bool} (h : (levelRun m sp no dr a seen).ok = true) :
    levelRun m sp no dr a seen = ⟨lrL1 m sp no dr a seen, lrL2 m sp no dr a seen, lrS m sp no dr a seen a.length, true⟩ ∧ 1 ≤ a.length ∧ a.length ≤ 96 := by
  unfold levelRun at h ⊢
  by_cases h1 : lrOk m sp no dr a seen = true
  · rw [if_pos h1]
    simp only [lrOk, Bool.and_eq_true] at h1
    have h2 := h1.1.1.1.2
    simp [isSer] at h2
    exact ⟨rfl, by omega⟩
  · rw [if_neg h1] at h; cases h
abbrev lbRV (v : LB) : RV := .tup [.own 0 v.a.length, .own 1 v.b.length, .t (.v (.bool v.ok))]
abbrev lbH (v : LB) : List (Nat × Blk) := [(0, .sl 29 (.fl v.a)), (1, .sl 29 (.fl v.b))]
theorem iEq5 {k : IntKind} {a b : Int} (h : a = b) : AV.t (.v (.int k a)) = AV.t (.v (.int k b)) := by rw [h]
theorem slE {e : TypeId} {a b : List Nat} (h : a = b) : some (Blk.sl e (.fl a)) = some (Blk.sl e (.fl b)) := by rw [h]
theorem implBack_c (m sp no dr : Nat) (a : List Nat) (seen : List Bool) (ha : a.length ≤ 9223372036854775807) (hs : seen.length ≤ 9223372036854775807) :
    TCall Try.prog 28 [T4 m sp no dr, .fl a, .bl seen] (lbRV (levelBack m sp no dr a seen)) (lbH (levelBack m sp no dr a seen)) := by
  have hcall := implRun_c m sp no dr a seen ha hs
  have hbk : levelBack m sp no dr a seen = if (levelRun m sp no dr a seen).ok && lbOk dr a.length (levelRun m sp no dr a seen).a (levelRun m sp no dr a seen).b then ⟨(lbR dr a.length (levelRun m sp no dr a seen).a (levelRun m sp no dr a seen).b (a.length - 1)).1, (lbR dr a.length (levelRun m sp no dr a seen).a (levelRun m sp no dr a seen).b (a.length - 1)).2, true⟩ else ⟨[], [], false⟩ := rfl
  refine tcall_of Try.func28 rfl (by kernel_rfl) (Nat.le_of_ble_eq_true rfl) rfl ?_
  simp only [argsL, argAV, argCs, argS]
  repeat (first | (refine w_q (h := ?_)) | (refine w_s (h := ?_)) | (refine w_t (h := ?_)) | (refine w_k (h := ?_)) | (refine y_q (h := ?_)) | (refine y_s (h := ?_)) | (refine y_t (h := ?_)) | (refine y_k (h := ?_)) | (refine lex_nil (by kernel_rfl) ?_) | (refine awp_sq ?_) | (refine awp_rg ?_) | (refine awp_rd (by kernel_rfl) (by kernel_rfl) ?_) | (refine awp_block ?_) | (refine awp_exit ?_) | (refine awp_ret ?_) | (refine awp_skip ?_))
  cases hr : (levelRun m sp no dr a seen).ok with
  | false =>
    have hb : levelBack m sp no dr a seen = ⟨[], [], false⟩ := by rw [hbk, hr]; rfl
    (first | (refine c_s (hcall) (h := ?_)) | (refine z_s (hcall) (h := ?_)))
    rw [hr]
    repeat (first | (refine w_q (h := ?_)) | (refine w_s (h := ?_)) | (refine w_t (h := ?_)) | (refine w_k (h := ?_)) | (refine y_q (h := ?_)) | (refine y_s (h := ?_)) | (refine y_t (h := ?_)) | (refine y_k (h := ?_)) | (refine lex_nil (by kernel_rfl) ?_) | (refine awp_sq ?_) | (refine awp_rg ?_) | (refine awp_rd (by kernel_rfl) (by kernel_rfl) ?_) | (refine awp_block ?_) | (refine awp_exit ?_) | (refine awp_ret ?_) | (refine awp_skip ?_))
    refine awp_ifT rfl rfl ?_
    repeat (first | (refine w_q (h := ?_)) | (refine w_s (h := ?_)) | (refine w_t (h := ?_)) | (refine w_k (h := ?_)) | (refine y_q (h := ?_)) | (refine y_s (h := ?_)) | (refine y_t (h := ?_)) | (refine y_k (h := ?_)) | (refine lex_nil (by kernel_rfl) ?_) | (refine awp_sq ?_) | (refine awp_rg ?_) | (refine awp_rd (by kernel_rfl) (by kernel_rfl) ?_) | (refine awp_block ?_) | (refine awp_exit ?_) | (refine awp_ret ?_) | (refine awp_skip ?_))
    rw [hb]
    (refine ret_ok tyOk (by first | exact .inr rfl | exact .inl rfl) pi0 rfl (by first | exact .cons (by first | exact .tmp | exact .cell rfl rfl rfl rfl rfl rfl | exact .cell1 rfl rfl rfl rfl rfl) .nil | exact .cons (by first | exact .tmp | exact .cell rfl rfl rfl rfl rfl rfl | exact .cell1 rfl rfl rfl rfl rfl) (.cons (by first | exact .tmp | exact .cell rfl rfl rfl rfl rfl rfl | exact .cell1 rfl rfl rfl rfl rfl) .nil) | exact .cons (by first | exact .tmp | exact .cell rfl rfl rfl rfl rfl rfl | exact .cell1 rfl rfl rfl rfl rfl) (.cons (by first | exact .tmp | exact .cell rfl rfl rfl rfl rfl rfl | exact .cell1 rfl rfl rfl rfl rfl) (.cons (by first | exact .tmp | exact .cell rfl rfl rfl rfl rfl rfl | exact .cell1 rfl rfl rfl rfl rfl) .nil)) | exact .cons (by first | exact .tmp | exact .cell rfl rfl rfl rfl rfl rfl | exact .cell1 rfl rfl rfl rfl rfl) (.cons (by first | exact .tmp | exact .cell rfl rfl rfl rfl rfl rfl | exact .cell1 rfl rfl rfl rfl rfl) (.cons (by first | exact .tmp | exact .cell rfl rfl rfl rfl rfl rfl | exact .cell1 rfl rfl rfl rfl rfl) (.cons (by first | exact .tmp | exact .cell rfl rfl rfl rfl rfl rfl | exact .cell1 rfl rfl rfl rfl rfl) .nil)))) ?_ ⟨⟨_, _, rfl, rfl, rfl⟩, ⟨_, _, rfl, rfl, rfl⟩, trivial⟩ (injO_dec rfl); (repeat' (first | exact RetRelL.nil | (refine RetRel.nil rfl ?_) | refine RetRelL.cons ?_ ?_ | refine rr_tup ?_ | refine rr_agg ?_ | refine rr_own rfl ?_ | exact RetRel.arg | exact RetRel.argc | refine rr_t ?_)); all_goals rfl)
  | true =>
    obtain ⟨hrun, hn1, hn2⟩ := levelRun_ok hr
    rw [hrun] at hbk hcall
    have hl1 := lrL1_len m sp no dr a seen
    have hl2 := lrL2_len m sp no dr a seen
    generalize lrL1 m sp no dr a seen = A at hl1 hbk hcall
    generalize lrL2 m sp no dr a seen = B at hl2 hbk hcall
    simp only [Bool.true_and] at hbk
    have bad : lbOk dr a.length A B = false → levelBack m sp no dr a seen = ⟨[], [], false⟩ := fun h => by rw [hbk, if_neg (by rw [h]; exact Bool.false_ne_true)]
    have good : lbOk dr a.length A B = true → levelBack m sp no dr a seen = ⟨(lbR dr a.length A B (a.length - 1)).1, (lbR dr a.length A B (a.length - 1)).2, true⟩ := fun h => by rw [hbk, if_pos h]
    clear hbk hrun hr
    simp only [lrR, lrH, hl1, hl2] at hcall
    generalize hn : a.length = n at *
    (first | (refine c_s (hcall) (h := ?_)) | (refine z_s (hcall) (h := ?_)))
    repeat (first | (refine w_q (h := ?_)) | (refine w_s (h := ?_)) | (refine w_t (h := ?_)) | (refine w_k (h := ?_)) | (refine y_q (h := ?_)) | (refine y_s (h := ?_)) | (refine y_t (h := ?_)) | (refine y_k (h := ?_)) | (refine lex_nil (by kernel_rfl) ?_) | (refine awp_sq ?_) | (refine awp_rg ?_) | (refine awp_rd (by kernel_rfl) (by kernel_rfl) ?_) | (refine awp_block ?_) | (refine awp_exit ?_) | (refine awp_ret ?_) | (refine awp_skip ?_))
    refine awp_ifF rfl rfl ?_
    repeat (first | (refine w_q (h := ?_)) | (refine w_s (h := ?_)) | (refine w_t (h := ?_)) | (refine w_k (h := ?_)) | (refine y_q (h := ?_)) | (refine y_s (h := ?_)) | (refine y_t (h := ?_)) | (refine y_k (h := ?_)) | (refine lex_nil (by kernel_rfl) ?_) | (refine awp_sq ?_) | (refine awp_rg ?_) | (refine awp_rd (by kernel_rfl) (by kernel_rfl) ?_) | (refine awp_block ?_) | (refine awp_exit ?_) | (refine awp_ret ?_) | (refine awp_skip ?_))
    refine awp_loop (X := Nat) (fun t => t + 1 ≤ n ∧ ∀ j, j < t → lbG dr n A B j = true) (fun t => [(1, .arg 1 (.fl a)), (3, .bp 3 0), (9, .own (cid 22 0) 0 n), (10, .own (cid 22 1) 0 n), (13, .t (.v (.int .i64 ((n : Int) - 2 - (t : Nat)))))]) (fun t => [(3, .box 38 [.t (.f .f32 m), .t (.f .f32 sp), .t (.f .f32 no), .t (.f .f32 dr)]), (cid 22 0, .sl 29 (.fl (lbR dr n A B t).1)), (cid 22 1, .sl 29 (.fl (lbR dr n A B t).2))]) (fun t => n - t)
      0 ⟨⟨by omega, fun j hj => by omega⟩, fun i => i, ⟨rfl, rfl, rfl, rfl, iEq5 (by omega), trivial⟩, ⟨rfl, rfl, rfl, trivial⟩, injOn_id _⟩ (fun t ht => ?_)
    obtain ⟨ht, hok⟩ := ht
    have hlen := lbR_len dr n A B t
    repeat (first | (refine w_q (h := ?_)) | (refine w_s (h := ?_)) | (refine w_t (h := ?_)) | (refine w_k (h := ?_)) | (refine lex_nil (by kernel_rfl) ?_) | (refine awp_sq ?_) | (refine awp_rg ?_) | (refine awp_rd (by kernel_rfl) (by kernel_rfl) ?_) | (refine awp_block ?_) | (refine awp_exit ?_) | (refine awp_ret ?_) | (refine awp_skip ?_))
    refine awp_if rfl (fun h => ?_) (fun h => ?_)
    · simp only [icmp, ge_iff_le, decide_eq_true_eq] at h
      have hi : n - 2 - t + 2 + t = n := by omega
      repeat (first | (refine w_q (h := ?_)) | (refine w_s (h := ?_)) | (refine w_t (h := ?_)) | (refine w_k (h := ?_)) | (refine y_q (h := ?_)) | (refine y_s (h := ?_)) | (refine y_t (h := ?_)) | (refine y_k (h := ?_)) | (refine lex_nil (by kernel_rfl) ?_) | (refine awp_sq ?_) | (refine awp_rg ?_) | (refine awp_rd (by kernel_rfl) (by kernel_rfl) ?_) | (refine awp_block ?_) | (refine awp_exit ?_) | (refine awp_ret ?_) | (refine awp_skip ?_))
      (first | (refine w_r (q_idx_own (n - 2 - t) tyOk rfl rfl rfl rfl rfl rfl rfl (by omega) (by first | omega | (simp only [T.len]; omega) | assumption)) (h := ?_)) | (refine y_r (q_idx_own (n - 2 - t) tyOk rfl rfl rfl rfl rfl rfl rfl (by omega) (by first | omega | (simp only [T.len]; omega) | assumption)) (h := ?_)))
      repeat (first | (refine w_q (h := ?_)) | (refine w_s (h := ?_)) | (refine w_t (h := ?_)) | (refine w_k (h := ?_)) | (refine y_q (h := ?_)) | (refine y_s (h := ?_)) | (refine y_t (h := ?_)) | (refine y_k (h := ?_)) | (refine lex_nil (by kernel_rfl) ?_) | (refine awp_sq ?_) | (refine awp_rg ?_) | (refine awp_rd (by kernel_rfl) (by kernel_rfl) ?_) | (refine awp_block ?_) | (refine awp_exit ?_) | (refine awp_ret ?_) | (refine awp_skip ?_))
      (first | (refine w_r (q_idx_own (n - 2 - t) tyOk rfl rfl rfl rfl rfl rfl rfl (by omega) (by first | omega | (simp only [T.len]; omega) | assumption)) (h := ?_)) | (refine y_r (q_idx_own (n - 2 - t) tyOk rfl rfl rfl rfl rfl rfl rfl (by omega) (by first | omega | (simp only [T.len]; omega) | assumption)) (h := ?_)))
      repeat (first | (refine w_q (h := ?_)) | (refine w_s (h := ?_)) | (refine w_t (h := ?_)) | (refine w_k (h := ?_)) | (refine y_q (h := ?_)) | (refine y_s (h := ?_)) | (refine y_t (h := ?_)) | (refine y_k (h := ?_)) | (refine lex_nil (by kernel_rfl) ?_) | (refine awp_sq ?_) | (refine awp_rg ?_) | (refine awp_rd (by kernel_rfl) (by kernel_rfl) ?_) | (refine awp_block ?_) | (refine awp_exit ?_) | (refine awp_ret ?_) | (refine awp_skip ?_))
      simp only [Nat.zero_add]
      cases hg : lbG dr n A B t with
      | false =>
        have hg' : fcmp .gtr .f32 (fop .add .f32 ((lbR dr n A B t).2.getD (n - 2 - t) 0) dr) 0 = false := hg
        refine awp_ifT rfl (by rw [hg']; rfl) ?_
        repeat (first | (refine w_q (h := ?_)) | (refine w_s (h := ?_)) | (refine w_t (h := ?_)) | (refine w_k (h := ?_)) | (refine y_q (h := ?_)) | (refine y_s (h := ?_)) | (refine y_t (h := ?_)) | (refine y_k (h := ?_)) | (refine lex_nil (by kernel_rfl) ?_) | (refine awp_sq ?_) | (refine awp_rg ?_) | (refine awp_rd (by kernel_rfl) (by kernel_rfl) ?_) | (refine awp_block ?_) | (refine awp_exit ?_) | (refine awp_ret ?_) | (refine awp_skip ?_))
        rw [bad (by
          unfold lbOk
          rw [show (List.range (n - 1)).all (lbG dr n A B) = false from List.all_eq_false.2 ⟨t, List.mem_range.2 (by omega), by rw [hg]; exact Bool.false_ne_true⟩]; simp)]
        (refine ret_ok tyOk (by first | exact .inr rfl | exact .inl rfl) pi0 rfl (by first | exact .cons (by first | exact .tmp | exact .cell rfl rfl rfl rfl rfl rfl | exact .cell1 rfl rfl rfl rfl rfl) .nil | exact .cons (by first | exact .tmp | exact .cell rfl rfl rfl rfl rfl rfl | exact .cell1 rfl rfl rfl rfl rfl) (.cons (by first | exact .tmp | exact .cell rfl rfl rfl rfl rfl rfl | exact .cell1 rfl rfl rfl rfl rfl) .nil) | exact .cons (by first | exact .tmp | exact .cell rfl rfl rfl rfl rfl rfl | exact .cell1 rfl rfl rfl rfl rfl) (.cons (by first | exact .tmp | exact .cell rfl rfl rfl rfl rfl rfl | exact .cell1 rfl rfl rfl rfl rfl) (.cons (by first | exact .tmp | exact .cell rfl rfl rfl rfl rfl rfl | exact .cell1 rfl rfl rfl rfl rfl) .nil)) | exact .cons (by first | exact .tmp | exact .cell rfl rfl rfl rfl rfl rfl | exact .cell1 rfl rfl rfl rfl rfl) (.cons (by first | exact .tmp | exact .cell rfl rfl rfl rfl rfl rfl | exact .cell1 rfl rfl rfl rfl rfl) (.cons (by first | exact .tmp | exact .cell rfl rfl rfl rfl rfl rfl | exact .cell1 rfl rfl rfl rfl rfl) (.cons (by first | exact .tmp | exact .cell rfl rfl rfl rfl rfl rfl | exact .cell1 rfl rfl rfl rfl rfl) .nil)))) ?_ ⟨⟨_, _, rfl, rfl, rfl⟩, ⟨_, _, rfl, rfl, rfl⟩, trivial⟩ (injO_dec rfl); (repeat' (first | exact RetRelL.nil | (refine RetRel.nil rfl ?_) | refine RetRelL.cons ?_ ?_ | refine rr_tup ?_ | refine rr_agg ?_ | refine rr_own rfl ?_ | exact RetRel.arg | exact RetRel.argc | refine rr_t ?_)); all_goals rfl)
      | true =>
        have hg' : fcmp .gtr .f32 (fop .add .f32 ((lbR dr n A B t).2.getD (n - 2 - t) 0) dr) 0 = true := hg
        refine awp_ifF rfl (by rw [hg']; rfl) ?_
        repeat (first | (refine w_q (h := ?_)) | (refine w_s (h := ?_)) | (refine w_t (h := ?_)) | (refine w_k (h := ?_)) | (refine y_q (h := ?_)) | (refine y_s (h := ?_)) | (refine y_t (h := ?_)) | (refine y_k (h := ?_)) | (refine lex_nil (by kernel_rfl) ?_) | (refine awp_sq ?_) | (refine awp_rg ?_) | (refine awp_rd (by kernel_rfl) (by kernel_rfl) ?_) | (refine awp_block ?_) | (refine awp_exit ?_) | (refine awp_ret ?_) | (refine awp_skip ?_))
        (first | (refine w_r (q_idx_own (n - 1 - t) tyOk rfl rfl rfl rfl rfl rfl rfl (by omega) (by first | omega | (simp only [T.len]; omega) | assumption)) (h := ?_)) | (refine y_r (q_idx_own (n - 1 - t) tyOk rfl rfl rfl rfl rfl rfl rfl (by omega) (by first | omega | (simp only [T.len]; omega) | assumption)) (h := ?_)))
        repeat (first | (refine w_q (h := ?_)) | (refine w_s (h := ?_)) | (refine w_t (h := ?_)) | (refine w_k (h := ?_)) | (refine y_q (h := ?_)) | (refine y_s (h := ?_)) | (refine y_t (h := ?_)) | (refine y_k (h := ?_)) | (refine lex_nil (by kernel_rfl) ?_) | (refine awp_sq ?_) | (refine awp_rg ?_) | (refine awp_rd (by kernel_rfl) (by kernel_rfl) ?_) | (refine awp_block ?_) | (refine awp_exit ?_) | (refine awp_ret ?_) | (refine awp_skip ?_))
        (first | (refine w_r (q_idx_own (n - 2 - t) tyOk rfl rfl rfl rfl rfl rfl rfl (by omega) (by first | omega | (simp only [T.len]; omega) | assumption)) (h := ?_)) | (refine y_r (q_idx_own (n - 2 - t) tyOk rfl rfl rfl rfl rfl rfl rfl (by omega) (by first | omega | (simp only [T.len]; omega) | assumption)) (h := ?_)))
        repeat (first | (refine w_q (h := ?_)) | (refine w_s (h := ?_)) | (refine w_t (h := ?_)) | (refine w_k (h := ?_)) | (refine y_q (h := ?_)) | (refine y_s (h := ?_)) | (refine y_t (h := ?_)) | (refine y_k (h := ?_)) | (refine lex_nil (by kernel_rfl) ?_) | (refine awp_sq ?_) | (refine awp_rg ?_) | (refine awp_rd (by kernel_rfl) (by kernel_rfl) ?_) | (refine awp_block ?_) | (refine awp_exit ?_) | (refine awp_ret ?_) | (refine awp_skip ?_))
        (first | (refine w_r (q_idx_own (n - 1 - t) tyOk rfl rfl rfl rfl rfl rfl rfl (by omega) (by first | omega | (simp only [T.len]; omega) | assumption)) (h := ?_)) | (refine y_r (q_idx_own (n - 1 - t) tyOk rfl rfl rfl rfl rfl rfl rfl (by omega) (by first | omega | (simp only [T.len]; omega) | assumption)) (h := ?_)))
        repeat (first | (refine w_q (h := ?_)) | (refine w_s (h := ?_)) | (refine w_t (h := ?_)) | (refine w_k (h := ?_)) | (refine y_q (h := ?_)) | (refine y_s (h := ?_)) | (refine y_t (h := ?_)) | (refine y_k (h := ?_)) | (refine lex_nil (by kernel_rfl) ?_) | (refine awp_sq ?_) | (refine awp_rg ?_) | (refine awp_rd (by kernel_rfl) (by kernel_rfl) ?_) | (refine awp_block ?_) | (refine awp_exit ?_) | (refine awp_ret ?_) | (refine awp_skip ?_))
        (first | (refine w_r (q_idx_own (n - 2 - t) tyOk rfl rfl rfl rfl rfl rfl rfl (by omega) (by first | omega | (simp only [T.len]; omega) | assumption)) (h := ?_)) | (refine y_r (q_idx_own (n - 2 - t) tyOk rfl rfl rfl rfl rfl rfl rfl (by omega) (by first | omega | (simp only [T.len]; omega) | assumption)) (h := ?_)))
        repeat (first | (refine w_q (h := ?_)) | (refine w_s (h := ?_)) | (refine w_t (h := ?_)) | (refine w_k (h := ?_)) | (refine y_q (h := ?_)) | (refine y_s (h := ?_)) | (refine y_t (h := ?_)) | (refine y_k (h := ?_)) | (refine lex_nil (by kernel_rfl) ?_) | (refine awp_sq ?_) | (refine awp_rg ?_) | (refine awp_rd (by kernel_rfl) (by kernel_rfl) ?_) | (refine awp_block ?_) | (refine awp_exit ?_) | (refine awp_ret ?_) | (refine awp_skip ?_))
        simp only [Nat.zero_add]
        exact ⟨t + 1, by omega, ⟨by omega, fun j hj => (Nat.lt_or_eq_of_le (Nat.le_of_lt_succ hj)).elim (fun hj' => hok j hj') (fun hj' => by rw [hj']; exact hg)⟩, fun i => i, ⟨rfl, rfl, rfl, rfl, iEq5 (by omega), trivial⟩, ⟨rfl, slE rfl, slE rfl, trivial⟩, injOn_id _⟩
    · simp only [icmp, ge_iff_le, decide_eq_false_iff_not] at h
      have : t = n - 1 := by omega
      subst this
      have hall : (List.range (n - 1)).all (lbG dr n A B) = true := List.all_eq_true.2 fun j hj => hok j (List.mem_range.1 hj)
      repeat (first | (refine w_q (h := ?_)) | (refine w_s (h := ?_)) | (refine w_t (h := ?_)) | (refine w_k (h := ?_)) | (refine lex_nil (by kernel_rfl) ?_) | (refine awp_sq ?_) | (refine awp_rg ?_) | (refine awp_rd (by kernel_rfl) (by kernel_rfl) ?_) | (refine awp_block ?_) | (refine awp_exit ?_) | (refine awp_ret ?_) | (refine awp_skip ?_))
      (first | (refine c_q (areFinite_c (lbR dr n A B (n - 1)).1 (by omega)) (h := ?_)) | (refine z_q (areFinite_c (lbR dr n A B (n - 1)).1 (by omega)) (h := ?_)))
      repeat (first | (refine w_q (h := ?_)) | (refine w_s (h := ?_)) | (refine w_t (h := ?_)) | (refine w_k (h := ?_)) | (refine lex_nil (by kernel_rfl) ?_) | (refine awp_sq ?_) | (refine awp_rg ?_) | (refine awp_rd (by kernel_rfl) (by kernel_rfl) ?_) | (refine awp_block ?_) | (refine awp_exit ?_) | (refine awp_ret ?_) | (refine awp_skip ?_))
      refine lex_if rfl rfl rfl (fun h6 => ?_) (fun h6 => ?_)
      · simp only [Bool.not_eq_true'] at h6
        repeat (first | (refine w_q (h := ?_)) | (refine w_s (h := ?_)) | (refine w_t (h := ?_)) | (refine w_k (h := ?_)) | (refine lex_nil (by kernel_rfl) ?_) | (refine awp_sq ?_) | (refine awp_rg ?_) | (refine awp_rd (by kernel_rfl) (by kernel_rfl) ?_) | (refine awp_block ?_) | (refine awp_exit ?_) | (refine awp_ret ?_) | (refine awp_skip ?_))
        refine awp_ifT rfl rfl ?_
        repeat (first | (refine w_q (h := ?_)) | (refine w_s (h := ?_)) | (refine w_t (h := ?_)) | (refine w_k (h := ?_)) | (refine lex_nil (by kernel_rfl) ?_) | (refine awp_sq ?_) | (refine awp_rg ?_) | (refine awp_rd (by kernel_rfl) (by kernel_rfl) ?_) | (refine awp_block ?_) | (refine awp_exit ?_) | (refine awp_ret ?_) | (refine awp_skip ?_))
        rw [bad (by unfold lbOk; rw [h6]; simp)]
        (refine ret_ok tyOk (by first | exact .inr rfl | exact .inl rfl) pi0 rfl (by first | exact .cons (by first | exact .tmp | exact .cell rfl rfl rfl rfl rfl rfl | exact .cell1 rfl rfl rfl rfl rfl) .nil | exact .cons (by first | exact .tmp | exact .cell rfl rfl rfl rfl rfl rfl | exact .cell1 rfl rfl rfl rfl rfl) (.cons (by first | exact .tmp | exact .cell rfl rfl rfl rfl rfl rfl | exact .cell1 rfl rfl rfl rfl rfl) .nil) | exact .cons (by first | exact .tmp | exact .cell rfl rfl rfl rfl rfl rfl | exact .cell1 rfl rfl rfl rfl rfl) (.cons (by first | exact .tmp | exact .cell rfl rfl rfl rfl rfl rfl | exact .cell1 rfl rfl rfl rfl rfl) (.cons (by first | exact .tmp | exact .cell rfl rfl rfl rfl rfl rfl | exact .cell1 rfl rfl rfl rfl rfl) .nil)) | exact .cons (by first | exact .tmp | exact .cell rfl rfl rfl rfl rfl rfl | exact .cell1 rfl rfl rfl rfl rfl) (.cons (by first | exact .tmp | exact .cell rfl rfl rfl rfl rfl rfl | exact .cell1 rfl rfl rfl rfl rfl) (.cons (by first | exact .tmp | exact .cell rfl rfl rfl rfl rfl rfl | exact .cell1 rfl rfl rfl rfl rfl) (.cons (by first | exact .tmp | exact .cell rfl rfl rfl rfl rfl rfl | exact .cell1 rfl rfl rfl rfl rfl) .nil)))) ?_ ⟨⟨_, _, rfl, rfl, rfl⟩, ⟨_, _, rfl, rfl, rfl⟩, trivial⟩ (injO_dec rfl); (repeat' (first | exact RetRelL.nil | (refine RetRel.nil rfl ?_) | refine RetRelL.cons ?_ ?_ | refine rr_tup ?_ | refine rr_agg ?_ | refine rr_own rfl ?_ | exact RetRel.arg | exact RetRel.argc | refine rr_t ?_)); all_goals rfl)
      simp only [Bool.not_eq_false'] at h6
      repeat (first | (refine w_q (h := ?_)) | (refine w_s (h := ?_)) | (refine w_t (h := ?_)) | (refine w_k (h := ?_)) | (refine lex_nil (by kernel_rfl) ?_) | (refine awp_sq ?_) | (refine awp_rg ?_) | (refine awp_rd (by kernel_rfl) (by kernel_rfl) ?_) | (refine awp_block ?_) | (refine awp_exit ?_) | (refine awp_ret ?_) | (refine awp_skip ?_))
      (first | (refine c_q (areFinite_c (lbR dr n A B (n - 1)).2 (by omega)) (h := ?_)) | (refine z_q (areFinite_c (lbR dr n A B (n - 1)).2 (by omega)) (h := ?_)))
      repeat (first | (refine w_q (h := ?_)) | (refine w_s (h := ?_)) | (refine w_t (h := ?_)) | (refine w_k (h := ?_)) | (refine lex_nil (by kernel_rfl) ?_) | (refine awp_sq ?_) | (refine awp_rg ?_) | (refine awp_rd (by kernel_rfl) (by kernel_rfl) ?_) | (refine awp_block ?_) | (refine awp_exit ?_) | (refine awp_ret ?_) | (refine awp_skip ?_))
      refine awp_if rfl (fun h7 => ?_) (fun h7 => ?_)
      · simp only [Bool.not_eq_true'] at h7
        repeat (first | (refine w_q (h := ?_)) | (refine w_s (h := ?_)) | (refine w_t (h := ?_)) | (refine w_k (h := ?_)) | (refine lex_nil (by kernel_rfl) ?_) | (refine awp_sq ?_) | (refine awp_rg ?_) | (refine awp_rd (by kernel_rfl) (by kernel_rfl) ?_) | (refine awp_block ?_) | (refine awp_exit ?_) | (refine awp_ret ?_) | (refine awp_skip ?_))
        rw [bad (by unfold lbOk; rw [h7]; simp)]
        (refine ret_ok tyOk (by first | exact .inr rfl | exact .inl rfl) pi0 rfl (by first | exact .cons (by first | exact .tmp | exact .cell rfl rfl rfl rfl rfl rfl | exact .cell1 rfl rfl rfl rfl rfl) .nil | exact .cons (by first | exact .tmp | exact .cell rfl rfl rfl rfl rfl rfl | exact .cell1 rfl rfl rfl rfl rfl) (.cons (by first | exact .tmp | exact .cell rfl rfl rfl rfl rfl rfl | exact .cell1 rfl rfl rfl rfl rfl) .nil) | exact .cons (by first | exact .tmp | exact .cell rfl rfl rfl rfl rfl rfl | exact .cell1 rfl rfl rfl rfl rfl) (.cons (by first | exact .tmp | exact .cell rfl rfl rfl rfl rfl rfl | exact .cell1 rfl rfl rfl rfl rfl) (.cons (by first | exact .tmp | exact .cell rfl rfl rfl rfl rfl rfl | exact .cell1 rfl rfl rfl rfl rfl) .nil)) | exact .cons (by first | exact .tmp | exact .cell rfl rfl rfl rfl rfl rfl | exact .cell1 rfl rfl rfl rfl rfl) (.cons (by first | exact .tmp | exact .cell rfl rfl rfl rfl rfl rfl | exact .cell1 rfl rfl rfl rfl rfl) (.cons (by first | exact .tmp | exact .cell rfl rfl rfl rfl rfl rfl | exact .cell1 rfl rfl rfl rfl rfl) (.cons (by first | exact .tmp | exact .cell rfl rfl rfl rfl rfl rfl | exact .cell1 rfl rfl rfl rfl rfl) .nil)))) ?_ ⟨⟨_, _, rfl, rfl, rfl⟩, ⟨_, _, rfl, rfl, rfl⟩, trivial⟩ (injO_dec rfl); (repeat' (first | exact RetRelL.nil | (refine RetRel.nil rfl ?_) | refine RetRelL.cons ?_ ?_ | refine rr_tup ?_ | refine rr_agg ?_ | refine rr_own rfl ?_ | exact RetRel.arg | exact RetRel.argc | refine rr_t ?_)); all_goals rfl)
      simp only [Bool.not_eq_false'] at h7
      repeat (first | (refine w_q (h := ?_)) | (refine w_s (h := ?_)) | (refine w_t (h := ?_)) | (refine w_k (h := ?_)) | (refine lex_nil (by kernel_rfl) ?_) | (refine awp_sq ?_) | (refine awp_rg ?_) | (refine awp_rd (by kernel_rfl) (by kernel_rfl) ?_) | (refine awp_block ?_) | (refine awp_exit ?_) | (refine awp_ret ?_) | (refine awp_skip ?_))
      rw [good (by unfold lbOk; rw [hall, h6, h7]; rfl)]
      refine ret_ok tyOk (by first | exact .inr rfl | exact .inl rfl) (pi2 (cid 22 0) (cid 22 1)) rfl (by first | exact .cons (by first | exact .tmp | exact .cell rfl rfl rfl rfl rfl rfl | exact .cell1 rfl rfl rfl rfl rfl) .nil | exact .cons (by first | exact .tmp | exact .cell rfl rfl rfl rfl rfl rfl | exact .cell1 rfl rfl rfl rfl rfl) (.cons (by first | exact .tmp | exact .cell rfl rfl rfl rfl rfl rfl | exact .cell1 rfl rfl rfl rfl rfl) .nil) | exact .cons (by first | exact .tmp | exact .cell rfl rfl rfl rfl rfl rfl | exact .cell1 rfl rfl rfl rfl rfl) (.cons (by first | exact .tmp | exact .cell rfl rfl rfl rfl rfl rfl | exact .cell1 rfl rfl rfl rfl rfl) (.cons (by first | exact .tmp | exact .cell rfl rfl rfl rfl rfl rfl | exact .cell1 rfl rfl rfl rfl rfl) .nil)) | exact .cons (by first | exact .tmp | exact .cell rfl rfl rfl rfl rfl rfl | exact .cell1 rfl rfl rfl rfl rfl) (.cons (by first | exact .tmp | exact .cell rfl rfl rfl rfl rfl rfl | exact .cell1 rfl rfl rfl rfl rfl) (.cons (by first | exact .tmp | exact .cell rfl rfl rfl rfl rfl rfl | exact .cell1 rfl rfl rfl rfl rfl) (.cons (by first | exact .tmp | exact .cell rfl rfl rfl rfl rfl rfl | exact .cell1 rfl rfl rfl rfl rfl) .nil)))) ?_ ⟨rfl, rfl, trivial⟩ (injO_pi2 _ _ (by decide) _ _)
      repeat' (first | exact RetRelL.nil | (refine RetRel.nil rfl ?_) | refine RetRelL.cons ?_ ?_ | refine rr_tup ?_ | refine rr_agg ?_ | refine rr_own rfl ?_ | exact RetRel.arg | exact RetRel.argc | refine rr_t ?_)
      all_goals first | rfl | (dsimp only; omega)
end Go.Proofs.Ytjjpjnhjnpplcaa
