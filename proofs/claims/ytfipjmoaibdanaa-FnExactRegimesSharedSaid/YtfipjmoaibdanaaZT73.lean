import Derived.Test.YtfipjmoaibdanaaZT24
import Derived.Test.YtfipjmoaibdanaaZT14
import Derived.Test.YtfipjmoaibdanaaZAwC
set_option linter.unusedVariables false
set_option linter.unusedSimpArgs false
set_option maxRecDepth 20000
set_option maxHeartbeats 8000000
namespace Go.Proofs.Ytfipjmoaibdanaa
open Go.Aw
attribute [local irreducible] QRun LexD AWp TCall TMut fop fint fcmp fconv VWp

/-! ### slices of slices of the laws -/
theorem totL_take {ls : List (List Nat)} {i : Nat} (h : i < ls.length) : totL (ls.take (i + 1)) = totL (ls.take i) + (ls.getD i []).length := by
  unfold totL
  rw [List.take_succ_eq_append_getElem h, List.map_append, List.sum_append]
  simp [-List.map_take, List.getD_eq_getElem?_getD, h]
theorem totL_le {ls : List (List Nat)} : ∀ (i : Nat), totL (ls.take i) ≤ totL ls := fun i => by
  have : totL ls = totL (ls.take i) + totL (ls.drop i) := by
    unfold totL
    rw [← List.sum_append, ← List.map_append, List.take_append_drop]
  omega
theorem len_tot {ls : List (List Nat)} {i : Nat} (h : i < ls.length) : (ls.getD i []).length ≤ totL ls := by
  have h1 := totL_take h
  have h2 := totL_le (ls := ls) (i + 1)
  omega
/-- what is left when all is counted; -1: too much -/
def szGo (ls : List (List Nat)) (left : Int) : Nat → Int
  | 0 => left
  | i + 1 => sz1 (ls.getD i []).length (szGo ls left i)
def szBad (ls : List (List Nat)) (left : Int) (n : Nat) : Bool := (List.range n).any fun i => decide (szGo ls left (i + 1) < 0)
def szSS (ls : List (List Nat)) (left : Int) : Int := if left - (ls.length : Int) < 0 then -1 else if szBad ls (left - ls.length) ls.length then -1 else szGo ls (left - ls.length) ls.length
theorem szGo_tot {ls : List (List Nat)} {left : Int} : ∀ (i : Nat), i ≤ ls.length → (∀ j, j < i → ¬ szGo ls left (j + 1) < 0) → szGo ls left i = left - (totL (ls.take i) : Int)
  | 0, _, _ => by simp [szGo, totL]
  | i + 1, hi, h => by
    have h1 := szGo_tot i (by omega) (fun j hj => h j (by omega))
    have h2 := h i (by omega)
    rw [szGo] at h2 ⊢
    obtain ⟨e, _⟩ := sz1_ok h2
    rw [e, h1, totL_take (by omega)]
    omega
theorem szSS_ok {ls : List (List Nat)} {left : Int} (h : ¬ szSS ls left < 0) : (totL ls : Int) + ls.length ≤ left := by
  unfold szSS at h
  split at h
  · exact absurd (by decide : (-1 : Int) < 0) h
  split at h
  · exact absurd (by decide : (-1 : Int) < 0) h
  rename_i h1 h2
  have h3 : ∀ j, j < ls.length → ¬ szGo ls (left - ls.length) (j + 1) < 0 := fun j hj hn => h2 (List.any_eq_true.2 ⟨j, List.mem_range.2 hj, by simpa using hn⟩)
  have h4 := szGo_tot ls.length (Nat.le_refl _) h3
  rw [List.take_length] at h4
  rw [h4] at h
  omega
theorem szGo_rng {ls : List (List Nat)} {left : Int} (h : -1 ≤ left ∧ left ≤ 1048576) : ∀ i, -1 ≤ szGo ls left i ∧ szGo ls left i ≤ 1048576
  | 0 => h
  | i + 1 => sz1_rng (szGo_rng h i)
theorem szFloat32SS_c (ls : List (List Nat)) (left : Int) (hl : ls.length ≤ 9223372036854775807) (hls : ∀ i, i < ls.length → (ls.getD i []).length ≤ 9223372036854775807) (hk : 0 ≤ left ∧ left ≤ 1048576) :
    TCall Try.prog 26 [.ffl ls, .v (.int .i64 left)] (.t (.v (.int .i64 (szSS ls left)))) [] := by
  refine tcall_of Try.func26 rfl (by kernel_rfl) (Nat.le_of_ble_eq_true rfl) rfl ?_
  simp only [argsL, argAV, argCs, argS]
  repeat (first | (refine w_q (h := ?_)) | (refine w_s (h := ?_)) | (refine w_t (h := ?_)) | (refine w_k (h := ?_)) | (refine lex_nil (by kernel_rfl) ?_) | (refine awp_sq ?_) | (refine awp_rg ?_) | (refine awp_rd (by kernel_rfl) (by kernel_rfl) ?_) | (refine awp_block ?_) | (refine awp_exit ?_) | (refine awp_ret ?_) | (refine awp_skip ?_))
  refine awp_if rfl (fun h => ?_) (fun h => ?_)
  · simp only [icmp, decide_eq_true_eq] at h
    repeat (first | (refine w_q (h := ?_)) | (refine w_s (h := ?_)) | (refine w_t (h := ?_)) | (refine w_k (h := ?_)) | (refine lex_nil (by kernel_rfl) ?_) | (refine awp_sq ?_) | (refine awp_rg ?_) | (refine awp_rd (by kernel_rfl) (by kernel_rfl) ?_) | (refine awp_block ?_) | (refine awp_exit ?_) | (refine awp_ret ?_) | (refine awp_skip ?_))
    rw [show szSS ls left = -1 by unfold szSS; rw [if_pos h]]
    refine ret_ok tyOk (by first | exact .inr rfl | exact .inl rfl) pi0 rfl (by first | exact .cons (by first | exact .tmp | exact .cell rfl rfl rfl rfl rfl rfl | exact .cell1 rfl rfl rfl rfl rfl) .nil | exact .cons (by first | exact .tmp | exact .cell rfl rfl rfl rfl rfl rfl | exact .cell1 rfl rfl rfl rfl rfl) (.cons (by first | exact .tmp | exact .cell rfl rfl rfl rfl rfl rfl | exact .cell1 rfl rfl rfl rfl rfl) .nil) | exact .cons (by first | exact .tmp | exact .cell rfl rfl rfl rfl rfl rfl | exact .cell1 rfl rfl rfl rfl rfl) (.cons (by first | exact .tmp | exact .cell rfl rfl rfl rfl rfl rfl | exact .cell1 rfl rfl rfl rfl rfl) (.cons (by first | exact .tmp | exact .cell rfl rfl rfl rfl rfl rfl | exact .cell1 rfl rfl rfl rfl rfl) .nil)) | exact .cons (by first | exact .tmp | exact .cell rfl rfl rfl rfl rfl rfl | exact .cell1 rfl rfl rfl rfl rfl) (.cons (by first | exact .tmp | exact .cell rfl rfl rfl rfl rfl rfl | exact .cell1 rfl rfl rfl rfl rfl) (.cons (by first | exact .tmp | exact .cell rfl rfl rfl rfl rfl rfl | exact .cell1 rfl rfl rfl rfl rfl) (.cons (by first | exact .tmp | exact .cell rfl rfl rfl rfl rfl rfl | exact .cell1 rfl rfl rfl rfl rfl) .nil)))) ?_ trivial (injO_0 _)
    repeat' (first | exact RetRelL.nil | (refine RetRel.nil rfl ?_) | refine RetRelL.cons ?_ ?_ | refine rr_tup ?_ | refine rr_agg ?_ | refine rr_own rfl ?_ | exact RetRel.arg | exact RetRel.argc | refine rr_t ?_)
    rfl
  simp only [icmp, decide_eq_false_iff_not] at h
  repeat (first | (refine w_q (h := ?_)) | (refine w_s (h := ?_)) | (refine w_t (h := ?_)) | (refine w_k (h := ?_)) | (refine lex_nil (by kernel_rfl) ?_) | (refine awp_sq ?_) | (refine awp_rg ?_) | (refine awp_rd (by kernel_rfl) (by kernel_rfl) ?_) | (refine awp_block ?_) | (refine awp_exit ?_) | (refine awp_ret ?_) | (refine awp_skip ?_))
  refine awp_loop (X := Nat) (fun i => i ≤ ls.length ∧ ∀ j, j < i → ¬ szGo ls (left - ls.length) (j + 1) < 0) (fun i => [(0, .arg 0 (.ffl ls)), (1, .t (.v (.int .i64 (szGo ls (left - ls.length) i)))), (5, .t (.v (.int .i64 i)))]) (fun _ => []) (fun i => ls.length - i)
    0 ⟨⟨by omega, fun j hj => by omega⟩, fun i => i, ⟨rfl, rfl, rfl, trivial⟩, trivial, injOn_id _⟩ (fun i hi => ?_)
  obtain ⟨hi, hok⟩ := hi
  repeat (first | (refine w_q (h := ?_)) | (refine w_s (h := ?_)) | (refine w_t (h := ?_)) | (refine w_k (h := ?_)) | (refine lex_nil (by kernel_rfl) ?_) | (refine awp_sq ?_) | (refine awp_rg ?_) | (refine awp_rd (by kernel_rfl) (by kernel_rfl) ?_) | (refine awp_block ?_) | (refine awp_exit ?_) | (refine awp_ret ?_) | (refine awp_skip ?_))
  refine awp_if rfl (fun h1 => ?_) (fun h1 => ?_)
  · simp only [icmp, decide_eq_true_eq] at h1
    repeat (first | (refine w_q (h := ?_)) | (refine w_s (h := ?_)) | (refine w_t (h := ?_)) | (refine w_k (h := ?_)) | (refine lex_nil (by kernel_rfl) ?_) | (refine awp_sq ?_) | (refine awp_rg ?_) | (refine awp_rd (by kernel_rfl) (by kernel_rfl) ?_) | (refine awp_block ?_) | (refine awp_exit ?_) | (refine awp_ret ?_) | (refine awp_skip ?_))
    (first | (refine c_q (szFl_c (ls.getD i []) (szGo ls (left - ls.length) i) (hls i (by omega)) (szGo_rng ⟨by omega, by omega⟩ i)) (h := ?_)) | (refine z_q (szFl_c (ls.getD i []) (szGo ls (left - ls.length) i) (hls i (by omega)) (szGo_rng ⟨by omega, by omega⟩ i)) (h := ?_)))
    repeat (first | (refine w_q (h := ?_)) | (refine w_s (h := ?_)) | (refine w_t (h := ?_)) | (refine w_k (h := ?_)) | (refine lex_nil (by kernel_rfl) ?_) | (refine awp_sq ?_) | (refine awp_rg ?_) | (refine awp_rd (by kernel_rfl) (by kernel_rfl) ?_) | (refine awp_block ?_) | (refine awp_exit ?_) | (refine awp_ret ?_) | (refine awp_skip ?_))
    refine awp_if rfl (fun h2 => ?_) (fun h2 => ?_)
    · simp only [icmp, decide_eq_true_eq] at h2
      repeat (first | (refine w_q (h := ?_)) | (refine w_s (h := ?_)) | (refine w_t (h := ?_)) | (refine w_k (h := ?_)) | (refine lex_nil (by kernel_rfl) ?_) | (refine awp_sq ?_) | (refine awp_rg ?_) | (refine awp_rd (by kernel_rfl) (by kernel_rfl) ?_) | (refine awp_block ?_) | (refine awp_exit ?_) | (refine awp_ret ?_) | (refine awp_skip ?_))
      rw [show szSS ls left = -1 by unfold szSS; rw [if_neg h, if_pos (show szBad ls (left - ls.length) ls.length = true from List.any_eq_true.2 ⟨i, List.mem_range.2 (by omega), by simpa [szGo] using h2⟩)]]
      refine ret_ok tyOk (by first | exact .inr rfl | exact .inl rfl) pi0 rfl (by first | exact .cons (by first | exact .tmp | exact .cell rfl rfl rfl rfl rfl rfl | exact .cell1 rfl rfl rfl rfl rfl) .nil | exact .cons (by first | exact .tmp | exact .cell rfl rfl rfl rfl rfl rfl | exact .cell1 rfl rfl rfl rfl rfl) (.cons (by first | exact .tmp | exact .cell rfl rfl rfl rfl rfl rfl | exact .cell1 rfl rfl rfl rfl rfl) .nil) | exact .cons (by first | exact .tmp | exact .cell rfl rfl rfl rfl rfl rfl | exact .cell1 rfl rfl rfl rfl rfl) (.cons (by first | exact .tmp | exact .cell rfl rfl rfl rfl rfl rfl | exact .cell1 rfl rfl rfl rfl rfl) (.cons (by first | exact .tmp | exact .cell rfl rfl rfl rfl rfl rfl | exact .cell1 rfl rfl rfl rfl rfl) .nil)) | exact .cons (by first | exact .tmp | exact .cell rfl rfl rfl rfl rfl rfl | exact .cell1 rfl rfl rfl rfl rfl) (.cons (by first | exact .tmp | exact .cell rfl rfl rfl rfl rfl rfl | exact .cell1 rfl rfl rfl rfl rfl) (.cons (by first | exact .tmp | exact .cell rfl rfl rfl rfl rfl rfl | exact .cell1 rfl rfl rfl rfl rfl) (.cons (by first | exact .tmp | exact .cell rfl rfl rfl rfl rfl rfl | exact .cell1 rfl rfl rfl rfl rfl) .nil)))) ?_ trivial (injO_0 _)
      repeat' (first | exact RetRelL.nil | (refine RetRel.nil rfl ?_) | refine RetRelL.cons ?_ ?_ | refine rr_tup ?_ | refine rr_agg ?_ | refine rr_own rfl ?_ | exact RetRel.arg | exact RetRel.argc | refine rr_t ?_)
      rfl
    · simp only [icmp, decide_eq_false_iff_not] at h2
      repeat (first | (refine w_q (h := ?_)) | (refine w_s (h := ?_)) | (refine w_t (h := ?_)) | (refine w_k (h := ?_)) | (refine lex_nil (by kernel_rfl) ?_) | (refine awp_sq ?_) | (refine awp_rg ?_) | (refine awp_rd (by kernel_rfl) (by kernel_rfl) ?_) | (refine awp_block ?_) | (refine awp_exit ?_) | (refine awp_ret ?_) | (refine awp_skip ?_))
      exact ⟨i + 1, by omega, ⟨by omega, fun j hj => by
        rcases Nat.lt_or_eq_of_le (Nat.le_of_lt_succ hj) with hj' | hj'
        · exact hok j hj'
        · subst hj'; exact h2⟩, fun i => i, ⟨rfl, rfl, rfl, trivial⟩, trivial, injOn_id _⟩
  · simp only [icmp, decide_eq_false_iff_not] at h1
    obtain rfl : i = ls.length := by omega
    repeat (first | (refine w_q (h := ?_)) | (refine w_s (h := ?_)) | (refine w_t (h := ?_)) | (refine w_k (h := ?_)) | (refine lex_nil (by kernel_rfl) ?_) | (refine awp_sq ?_) | (refine awp_rg ?_) | (refine awp_rd (by kernel_rfl) (by kernel_rfl) ?_) | (refine awp_block ?_) | (refine awp_exit ?_) | (refine awp_ret ?_) | (refine awp_skip ?_))
    rw [show szSS ls left = szGo ls (left - ls.length) ls.length by
      unfold szSS; rw [if_neg h, if_neg]
      intro hb
      obtain ⟨j, hj, hn⟩ := List.any_eq_true.1 hb
      exact hok j (List.mem_range.1 hj) (by simpa using hn)]
    refine ret_ok tyOk (by first | exact .inr rfl | exact .inl rfl) pi0 rfl (by first | exact .cons (by first | exact .tmp | exact .cell rfl rfl rfl rfl rfl rfl | exact .cell1 rfl rfl rfl rfl rfl) .nil | exact .cons (by first | exact .tmp | exact .cell rfl rfl rfl rfl rfl rfl | exact .cell1 rfl rfl rfl rfl rfl) (.cons (by first | exact .tmp | exact .cell rfl rfl rfl rfl rfl rfl | exact .cell1 rfl rfl rfl rfl rfl) .nil) | exact .cons (by first | exact .tmp | exact .cell rfl rfl rfl rfl rfl rfl | exact .cell1 rfl rfl rfl rfl rfl) (.cons (by first | exact .tmp | exact .cell rfl rfl rfl rfl rfl rfl | exact .cell1 rfl rfl rfl rfl rfl) (.cons (by first | exact .tmp | exact .cell rfl rfl rfl rfl rfl rfl | exact .cell1 rfl rfl rfl rfl rfl) .nil)) | exact .cons (by first | exact .tmp | exact .cell rfl rfl rfl rfl rfl rfl | exact .cell1 rfl rfl rfl rfl rfl) (.cons (by first | exact .tmp | exact .cell rfl rfl rfl rfl rfl rfl | exact .cell1 rfl rfl rfl rfl rfl) (.cons (by first | exact .tmp | exact .cell rfl rfl rfl rfl rfl rfl | exact .cell1 rfl rfl rfl rfl rfl) (.cons (by first | exact .tmp | exact .cell rfl rfl rfl rfl rfl rfl | exact .cell1 rfl rfl rfl rfl rfl) .nil)))) ?_ trivial (injO_0 _)
    repeat' (first | exact RetRelL.nil | (refine RetRel.nil rfl ?_) | refine RetRelL.cons ?_ ?_ | refine rr_tup ?_ | refine rr_agg ?_ | refine rr_own rfl ?_ | exact RetRel.arg | exact RetRel.argc | refine rr_t ?_)
    rfl

/-- the slices that have been made, and what is still empty -/
def gfs (ls : List (List Nat)) (i : Nat) : List T := (ls.take i).map T.gf ++ List.replicate (ls.length - i) (.v (.slice none 0 0))
theorem gfs_len {ls : List (List Nat)} {i : Nat} (h : i ≤ ls.length) : (gfs ls i).length = ls.length := by simp [gfs]; omega
theorem gfs_set {ls : List (List Nat)} {i : Nat} (h : i < ls.length) : (gfs ls i).set i (.gf (ls.getD i [])) = gfs ls (i + 1) := by
  unfold gfs
  have hz : ((ls.take i).map T.gf).length = i := by simp; omega
  rw [List.set_append_right _ _ (by omega), hz, Nat.sub_self, show ls.length - i = (ls.length - (i + 1)) + 1 by omega, List.replicate_succ, List.set_cons_zero, List.take_succ_eq_append_getElem h, List.map_append, List.append_assoc]
  simp [List.getD_eq_getElem?_getD, h]
theorem gfs_all (ls : List (List Nat)) : gfs ls ls.length = ls.map T.gf := by simp [gfs]
theorem toFloat32SS_c (ls : List (List Nat)) (hl : ls.length ≤ 1048576) (hls : ∀ i, i < ls.length → (ls.getD i []).length ≤ 1048576) :
    TCall Try.prog 28 [.ffl ls] (.own 0 ls.length) [(0, .sl 22 (.tl (ls.map T.gf)))] := by
  refine tcall_of Try.func28 rfl (by kernel_rfl) (Nat.le_of_ble_eq_true rfl) rfl ?_
  simp only [argsL, argAV, argCs, argS]
  repeat (first | (refine w_q (h := ?_)) | (refine w_s (h := ?_)) | (refine w_t (h := ?_)) | (refine w_k (h := ?_)) | (refine lex_nil (by kernel_rfl) ?_) | (refine awp_sq ?_) | (refine awp_rg ?_) | (refine awp_rd (by kernel_rfl) (by kernel_rfl) ?_) | (refine awp_block ?_) | (refine awp_exit ?_) | (refine awp_ret ?_) | (refine awp_skip ?_))
  refine px_s rfl rfl rfl (q_make ls.length tyOk rfl rfl rfl rfl rfl rfl rfl rfl rfl rfl rfl (by simp only []; omega) (by omega)) (by first | exact nf_f rfl | exact nf_b rfl | exact nf_i rfl | exact nf_bp rfl | exact nf_own rfl | exact nf_argo rfl | exact nf_arg rfl | exact nf_argc rfl | exact nf_fl rfl | exact nf_ofl rfl | exact nf_oref rfl | exact nf_tref rfl | exact nf_s rfl | exact nf_t rfl | exact nf_old rfl | exact nf_junk rfl | exact nf_dead rfl | (simp only [resV, resVl, scrubL, scrub, List.map, List.drop, List.take, mkT, zA, cellsA, cid, cids, relab, sg, List.getD, List.append, List.cons_append, List.nil_append, Nat.reduceMul, Nat.reduceAdd, Array.toList, T.get, cond_true, cond_false]; rfl) | rfl) (by first | (simp only [scrubF, scrubHL, scrub, scrubL, scrubB, cblk, cids, cid, relab, sg, List.contains_cons, List.contains_nil, Nat.reduceBEq, Bool.or_false, Bool.or_true, cond_true, cond_false, List.cons_append, List.nil_append, Nat.reduceMul, Nat.reduceAdd, List.set, List.take, List.drop, List.length, List.append_nil]; rfl) | rfl) (by first | (simp only [scrubF, scrubHL, scrub, scrubL, scrubB, cblk, cids, cid, relab, sg, List.contains_cons, List.contains_nil, Nat.reduceBEq, Bool.or_false, Bool.or_true, cond_true, cond_false, List.cons_append, List.nil_append, Nat.reduceMul, Nat.reduceAdd, List.set, List.take, List.drop, List.length, List.append_nil]; rfl) | rfl) ?_
  repeat (first | (refine w_q (h := ?_)) | (refine w_s (h := ?_)) | (refine w_t (h := ?_)) | (refine w_k (h := ?_)) | (refine lex_nil (by kernel_rfl) ?_) | (refine awp_sq ?_) | (refine awp_rg ?_) | (refine awp_rd (by kernel_rfl) (by kernel_rfl) ?_) | (refine awp_block ?_) | (refine awp_exit ?_) | (refine awp_ret ?_) | (refine awp_skip ?_))
  refine awp_loop (X := Nat) (fun i => i ≤ ls.length) (fun i => [(0, .arg 0 (.ffl ls)), (3, .own 7 0 ls.length), (4, .t (.v (.int .i64 i)))])
    (fun i => [(7, .sl 22 (.tl (gfs ls i)))]) (fun i => ls.length - i)
    0 ⟨by omega, fun i => i, ⟨rfl, rfl, rfl, trivial⟩, ⟨sl_eq (congrArg T.tl (by simp [gfs])), trivial⟩, injOn_id _⟩ (fun i hi => ?_)
  have hz := gfs_len hi
  repeat (first | (refine w_q (h := ?_)) | (refine w_s (h := ?_)) | (refine w_t (h := ?_)) | (refine w_k (h := ?_)) | (refine lex_nil (by kernel_rfl) ?_) | (refine awp_sq ?_) | (refine awp_rg ?_) | (refine awp_rd (by kernel_rfl) (by kernel_rfl) ?_) | (refine awp_block ?_) | (refine awp_exit ?_) | (refine awp_ret ?_) | (refine awp_skip ?_))
  refine awp_if rfl (fun h => ?_) (fun h => ?_)
  · simp only [icmp, decide_eq_true_eq] at h
    repeat (first | (refine w_q (h := ?_)) | (refine w_s (h := ?_)) | (refine w_t (h := ?_)) | (refine w_k (h := ?_)) | (refine lex_nil (by kernel_rfl) ?_) | (refine awp_sq ?_) | (refine awp_rg ?_) | (refine awp_rd (by kernel_rfl) (by kernel_rfl) ?_) | (refine awp_block ?_) | (refine awp_exit ?_) | (refine awp_ret ?_) | (refine awp_skip ?_) | (first | (refine c_q (tcall_gf (toFloat32S_c (ls.getD i []) (hls i (by omega))) rfl) (h := ?_)) | (refine z_q (tcall_gf (toFloat32S_c (ls.getD i []) (hls i (by omega))) rfl) (h := ?_))) | (refine px_st rfl rfl (q_store_tree tyOk rfl rfl rfl rfl rfl rfl (by simp only [T.len]; omega) rfl rfl) (by first | (simp only [scrubF, scrubHL, scrub, scrubL, scrubB, cblk, cids, cid, relab, sg, List.contains_cons, List.contains_nil, Nat.reduceBEq, Bool.or_false, Bool.or_true, cond_true, cond_false, List.cons_append, List.nil_append, Nat.reduceMul, Nat.reduceAdd, List.set, List.take, List.drop, List.length, List.append_nil]; rfl) | rfl) ?_))
    exact ⟨i + 1, by omega, by omega, fun i => i, ⟨rfl, rfl, rfl, trivial⟩, ⟨sl_eq (congrArg T.tl (by rw [Nat.zero_add, gfs_set (by omega)])), trivial⟩, injOn_id _⟩
  · simp only [icmp, decide_eq_false_iff_not] at h
    obtain rfl : i = ls.length := by omega
    rw [gfs_all]
    repeat (first | (refine w_q (h := ?_)) | (refine w_s (h := ?_)) | (refine w_t (h := ?_)) | (refine w_k (h := ?_)) | (refine lex_nil (by kernel_rfl) ?_) | (refine awp_sq ?_) | (refine awp_rg ?_) | (refine awp_rd (by kernel_rfl) (by kernel_rfl) ?_) | (refine awp_block ?_) | (refine awp_exit ?_) | (refine awp_ret ?_) | (refine awp_skip ?_))
    refine ret_ok tyOk (by first | exact .inr rfl | exact .inl rfl) (pi1 7) rfl (by first | exact .cons (by first | exact .tmp | exact .cell rfl rfl rfl rfl rfl rfl | exact .cell1 rfl rfl rfl rfl rfl) .nil | exact .cons (by first | exact .tmp | exact .cell rfl rfl rfl rfl rfl rfl | exact .cell1 rfl rfl rfl rfl rfl) (.cons (by first | exact .tmp | exact .cell rfl rfl rfl rfl rfl rfl | exact .cell1 rfl rfl rfl rfl rfl) .nil) | exact .cons (by first | exact .tmp | exact .cell rfl rfl rfl rfl rfl rfl | exact .cell1 rfl rfl rfl rfl rfl) (.cons (by first | exact .tmp | exact .cell rfl rfl rfl rfl rfl rfl | exact .cell1 rfl rfl rfl rfl rfl) (.cons (by first | exact .tmp | exact .cell rfl rfl rfl rfl rfl rfl | exact .cell1 rfl rfl rfl rfl rfl) .nil)) | exact .cons (by first | exact .tmp | exact .cell rfl rfl rfl rfl rfl rfl | exact .cell1 rfl rfl rfl rfl rfl) (.cons (by first | exact .tmp | exact .cell rfl rfl rfl rfl rfl rfl | exact .cell1 rfl rfl rfl rfl rfl) (.cons (by first | exact .tmp | exact .cell rfl rfl rfl rfl rfl rfl | exact .cell1 rfl rfl rfl rfl rfl) (.cons (by first | exact .tmp | exact .cell rfl rfl rfl rfl rfl rfl | exact .cell1 rfl rfl rfl rfl rfl) .nil)))) ?_ ⟨rfl, trivial⟩ (injO_1 _ _ _)
    repeat' (first | exact RetRelL.nil | (refine RetRel.nil rfl ?_) | refine RetRelL.cons ?_ ?_ | refine rr_tup ?_ | refine rr_agg ?_ | refine rr_own rfl ?_ | exact RetRel.arg | exact RetRel.argc | refine rr_t ?_)
    all_goals rfl
theorem eqFloat32SS_c (ls : List (List Nat)) (hl : ls.length ≤ 1048576) (hls : ∀ i, i < ls.length → (ls.getD i []).length ≤ 1048576) :
    TCall Try.prog 30 [.ffl ls, .ffl ls] (.t (.v (.bool true))) [] := by
  refine tcall_of Try.func30 rfl (by kernel_rfl) (Nat.le_of_ble_eq_true rfl) rfl ?_
  simp only [argsL, argAV, argCs, argS]
  repeat (first | (refine w_q (h := ?_)) | (refine w_s (h := ?_)) | (refine w_t (h := ?_)) | (refine w_k (h := ?_)) | (refine lex_nil (by kernel_rfl) ?_) | (refine awp_sq ?_) | (refine awp_rg ?_) | (refine awp_rd (by kernel_rfl) (by kernel_rfl) ?_) | (refine awp_block ?_) | (refine awp_exit ?_) | (refine awp_ret ?_) | (refine awp_skip ?_))
  refine awp_if rfl (fun h => ?_) (fun h => ?_)
  · simp [icmp] at h
  · repeat (first | (refine w_q (h := ?_)) | (refine w_s (h := ?_)) | (refine w_t (h := ?_)) | (refine w_k (h := ?_)) | (refine lex_nil (by kernel_rfl) ?_) | (refine awp_sq ?_) | (refine awp_rg ?_) | (refine awp_rd (by kernel_rfl) (by kernel_rfl) ?_) | (refine awp_block ?_) | (refine awp_exit ?_) | (refine awp_ret ?_) | (refine awp_skip ?_))
    refine awp_loop (X := Nat) (fun i => i ≤ ls.length) (fun i => [(0, .arg 0 (.ffl ls)), (1, .arg 1 (.ffl ls)), (5, .t (.v (.int .i64 i)))]) (fun _ => []) (fun i => ls.length - i)
      0 ⟨by omega, fun i => i, ⟨rfl, rfl, rfl, trivial⟩, trivial, injOn_id _⟩ (fun i hi => ?_)
    repeat (first | (refine w_q (h := ?_)) | (refine w_s (h := ?_)) | (refine w_t (h := ?_)) | (refine w_k (h := ?_)) | (refine lex_nil (by kernel_rfl) ?_) | (refine awp_sq ?_) | (refine awp_rg ?_) | (refine awp_rd (by kernel_rfl) (by kernel_rfl) ?_) | (refine awp_block ?_) | (refine awp_exit ?_) | (refine awp_ret ?_) | (refine awp_skip ?_))
    refine awp_if rfl (fun h => ?_) (fun h => ?_)
    · simp only [icmp, decide_eq_true_eq] at h
      repeat (first | (refine w_q (h := ?_)) | (refine w_s (h := ?_)) | (refine w_t (h := ?_)) | (refine w_k (h := ?_)) | (refine y_q (h := ?_)) | (refine y_s (h := ?_)) | (refine y_t (h := ?_)) | (refine y_k (h := ?_)) | (refine lex_nil (by kernel_rfl) ?_) | (refine awp_sq ?_) | (refine awp_rg ?_) | (refine awp_rd (by kernel_rfl) (by kernel_rfl) ?_) | (refine awp_block ?_) | (refine awp_exit ?_) | (refine awp_ret ?_) | (refine awp_skip ?_))
      (first | (refine c_q (eqFloat32S_c (ls.getD i []) (by have := hls i (by omega); omega)) (h := ?_)) | (refine z_q (eqFloat32S_c (ls.getD i []) (by have := hls i (by omega); omega)) (h := ?_)))
      repeat (first | (refine w_q (h := ?_)) | (refine w_s (h := ?_)) | (refine w_t (h := ?_)) | (refine w_k (h := ?_)) | (refine y_q (h := ?_)) | (refine y_s (h := ?_)) | (refine y_t (h := ?_)) | (refine y_k (h := ?_)) | (refine lex_nil (by kernel_rfl) ?_) | (refine awp_sq ?_) | (refine awp_rg ?_) | (refine awp_rd (by kernel_rfl) (by kernel_rfl) ?_) | (refine awp_block ?_) | (refine awp_exit ?_) | (refine awp_ret ?_) | (refine awp_skip ?_))
      refine awp_ifF rfl rfl ?_
      repeat (first | (refine w_q (h := ?_)) | (refine w_s (h := ?_)) | (refine w_t (h := ?_)) | (refine w_k (h := ?_)) | (refine lex_nil (by kernel_rfl) ?_) | (refine awp_sq ?_) | (refine awp_rg ?_) | (refine awp_rd (by kernel_rfl) (by kernel_rfl) ?_) | (refine awp_block ?_) | (refine awp_exit ?_) | (refine awp_ret ?_) | (refine awp_skip ?_))
      exact ⟨i + 1, by omega, by omega, fun i => i, ⟨rfl, rfl, rfl, trivial⟩, trivial, injOn_id _⟩
    · simp only [icmp, decide_eq_false_iff_not] at h
      repeat (first | (refine w_q (h := ?_)) | (refine w_s (h := ?_)) | (refine w_t (h := ?_)) | (refine w_k (h := ?_)) | (refine lex_nil (by kernel_rfl) ?_) | (refine awp_sq ?_) | (refine awp_rg ?_) | (refine awp_rd (by kernel_rfl) (by kernel_rfl) ?_) | (refine awp_block ?_) | (refine awp_exit ?_) | (refine awp_ret ?_) | (refine awp_skip ?_))
      refine ret_ok tyOk (by first | exact .inr rfl | exact .inl rfl) pi0 rfl (by first | exact .cons (by first | exact .tmp | exact .cell rfl rfl rfl rfl rfl rfl | exact .cell1 rfl rfl rfl rfl rfl) .nil | exact .cons (by first | exact .tmp | exact .cell rfl rfl rfl rfl rfl rfl | exact .cell1 rfl rfl rfl rfl rfl) (.cons (by first | exact .tmp | exact .cell rfl rfl rfl rfl rfl rfl | exact .cell1 rfl rfl rfl rfl rfl) .nil) | exact .cons (by first | exact .tmp | exact .cell rfl rfl rfl rfl rfl rfl | exact .cell1 rfl rfl rfl rfl rfl) (.cons (by first | exact .tmp | exact .cell rfl rfl rfl rfl rfl rfl | exact .cell1 rfl rfl rfl rfl rfl) (.cons (by first | exact .tmp | exact .cell rfl rfl rfl rfl rfl rfl | exact .cell1 rfl rfl rfl rfl rfl) .nil)) | exact .cons (by first | exact .tmp | exact .cell rfl rfl rfl rfl rfl rfl | exact .cell1 rfl rfl rfl rfl rfl) (.cons (by first | exact .tmp | exact .cell rfl rfl rfl rfl rfl rfl | exact .cell1 rfl rfl rfl rfl rfl) (.cons (by first | exact .tmp | exact .cell rfl rfl rfl rfl rfl rfl | exact .cell1 rfl rfl rfl rfl rfl) (.cons (by first | exact .tmp | exact .cell rfl rfl rfl rfl rfl rfl | exact .cell1 rfl rfl rfl rfl rfl) .nil)))) ?_ trivial (injO_0 _)
      repeat' (first | exact RetRelL.nil | (refine RetRel.nil rfl ?_) | refine RetRelL.cons ?_ ?_ | refine rr_tup ?_ | refine rr_agg ?_ | refine rr_own rfl ?_ | exact RetRel.arg | exact RetRel.argc | refine rr_t ?_)
      rfl

/-! ### marks in a slice of slices -/
def mkA (k : Int) (l : List T) : Nat → List T
  | 0 => l
  | i + 1 => (mkA k l i).set i (.f .f32 (fint .f32 (k + (i : Int))))
theorem mkA_len (k : Int) (l : List T) : ∀ i, (mkA k l i).length = l.length
  | 0 => rfl
  | i + 1 => by rw [mkA, List.length_set, mkA_len k l i]
theorem markA_c (e : TypeId) (l : List T) (n : Nat) (k : Int) (hn : n ≤ l.length) (hn2 : n ≤ 1048576) (hk : 0 ≤ k ∧ k ≤ 4611686018427387904) :
    TMut Try.prog 19 [.argo 0 900 0 n, .t (.v (.int .i64 k))] [(900, .sl e (.tl l))] (.t (.v (.int .i64 (k + (n : Int))))) [(900, .sl e (.tl (mkA k l n)))] [] := by
  refine tmut_of Try.func19 rfl (by kernel_rfl) (Nat.le_of_ble_eq_true rfl) rfl ?_
  simp only [slotsL]
  repeat (first | (refine w_q (h := ?_)) | (refine w_s (h := ?_)) | (refine w_t (h := ?_)) | (refine w_k (h := ?_)) | (refine lex_nil (by kernel_rfl) ?_) | (refine awp_sq ?_) | (refine awp_rg ?_) | (refine awp_rd (by kernel_rfl) (by kernel_rfl) ?_) | (refine awp_block ?_) | (refine awp_exit ?_) | (refine awp_ret ?_) | (refine awp_skip ?_))
  refine awp_loop (X := Nat) (fun i => i ≤ n) (fun i => [(0, .argo 0 900 0 n), (1, .t (.v (.int .i64 (k + (i : Int))))), (5, .t (.v (.int .i64 i)))])
    (fun i => [(900, .sl e (.tl (mkA k l i)))]) (fun i => n - i)
    0 ⟨by omega, fun i => i, ⟨rfl, by simp; rfl, rfl, trivial⟩, ⟨rfl, trivial⟩, injOn_id _⟩ (fun i hi => ?_)
  have hz := mkA_len k l i
  repeat (first | (refine w_q (h := ?_)) | (refine w_s (h := ?_)) | (refine w_t (h := ?_)) | (refine w_k (h := ?_)) | (refine lex_nil (by kernel_rfl) ?_) | (refine awp_sq ?_) | (refine awp_rg ?_) | (refine awp_rd (by kernel_rfl) (by kernel_rfl) ?_) | (refine awp_block ?_) | (refine awp_exit ?_) | (refine awp_ret ?_) | (refine awp_skip ?_))
  refine awp_if rfl (fun h => ?_) (fun h => ?_)
  · simp only [icmp, decide_eq_true_eq] at h
    repeat (first | (refine w_q (h := ?_)) | (refine w_s (h := ?_)) | (refine w_t (h := ?_)) | (refine w_k (h := ?_)) | (refine lex_nil (by kernel_rfl) ?_) | (refine awp_sq ?_) | (refine awp_rg ?_) | (refine awp_rd (by kernel_rfl) (by kernel_rfl) ?_) | (refine awp_block ?_) | (refine awp_exit ?_) | (refine awp_ret ?_) | (refine awp_skip ?_))
    exact ⟨i + 1, by omega, by omega, fun i => i, ⟨rfl, by simp only [Int.add_assoc]; rfl, rfl, trivial⟩, ⟨sl_eq (congrArg T.tl (by rw [Nat.zero_add]; rfl)), trivial⟩, injOn_id _⟩
  · simp only [icmp, decide_eq_false_iff_not] at h
    obtain rfl : i = n := by omega
    repeat (first | (refine w_q (h := ?_)) | (refine w_s (h := ?_)) | (refine w_t (h := ?_)) | (refine w_k (h := ?_)) | (refine lex_nil (by kernel_rfl) ?_) | (refine awp_sq ?_) | (refine awp_rg ?_) | (refine awp_rd (by kernel_rfl) (by kernel_rfl) ?_) | (refine awp_block ?_) | (refine awp_exit ?_) | (refine awp_ret ?_) | (refine awp_skip ?_))
    refine mret_ok tyOk (by first | exact .inr rfl | exact .inl rfl) (piA 900 900) rfl (by first | exact .cons (by first | exact .tmp | exact .cell rfl rfl rfl rfl rfl rfl | exact .cell1 rfl rfl rfl rfl rfl) .nil | exact .cons (by first | exact .tmp | exact .cell rfl rfl rfl rfl rfl rfl | exact .cell1 rfl rfl rfl rfl rfl) (.cons (by first | exact .tmp | exact .cell rfl rfl rfl rfl rfl rfl | exact .cell1 rfl rfl rfl rfl rfl) .nil) | exact .cons (by first | exact .tmp | exact .cell rfl rfl rfl rfl rfl rfl | exact .cell1 rfl rfl rfl rfl rfl) (.cons (by first | exact .tmp | exact .cell rfl rfl rfl rfl rfl rfl | exact .cell1 rfl rfl rfl rfl rfl) (.cons (by first | exact .tmp | exact .cell rfl rfl rfl rfl rfl rfl | exact .cell1 rfl rfl rfl rfl rfl) .nil)) | exact .cons (by first | exact .tmp | exact .cell rfl rfl rfl rfl rfl rfl | exact .cell1 rfl rfl rfl rfl rfl) (.cons (by first | exact .tmp | exact .cell rfl rfl rfl rfl rfl rfl | exact .cell1 rfl rfl rfl rfl rfl) (.cons (by first | exact .tmp | exact .cell rfl rfl rfl rfl rfl rfl | exact .cell1 rfl rfl rfl rfl rfl) (.cons (by first | exact .tmp | exact .cell rfl rfl rfl rfl rfl rfl | exact .cell1 rfl rfl rfl rfl rfl) .nil)))) ?_ ⟨rfl, trivial⟩ (injO_1 _ _ _) (held1 0 0 900 0 _ 0 _ rfl rfl rfl)
    repeat' (first | exact RetRelL.nil | (refine RetRel.nil rfl ?_) | refine RetRelL.cons ?_ ?_ | refine rr_tup ?_ | refine rr_agg ?_ | refine rr_own rfl ?_ | exact RetRel.arg | exact RetRel.argc | refine rr_t ?_)
    rfl
theorem mark0_c (k : Int) : TCall Try.prog 19 [.fl [], .v (.int .i64 k)] (.t (.v (.int .i64 k))) [] := by
  refine tcall_of Try.func19 rfl (by kernel_rfl) (Nat.le_of_ble_eq_true rfl) rfl ?_
  simp only [argsL, argAV, argCs, argS]
  repeat (first | (refine w_q (h := ?_)) | (refine w_s (h := ?_)) | (refine w_t (h := ?_)) | (refine w_k (h := ?_)) | (refine lex_nil (by kernel_rfl) ?_) | (refine awp_sq ?_) | (refine awp_rg ?_) | (refine awp_rd (by kernel_rfl) (by kernel_rfl) ?_) | (refine awp_block ?_) | (refine awp_exit ?_) | (refine awp_ret ?_) | (refine awp_skip ?_))
  refine awp_loop (X := Unit) (fun _ => True) (fun _ => [(0, .arg 0 (.fl [])), (1, .t (.v (.int .i64 k))), (5, .t (.v (.int .i64 0)))]) (fun _ => []) (fun _ => 0)
    () ⟨trivial, fun i => i, ⟨rfl, rfl, rfl, trivial⟩, trivial, injOn_id _⟩ (fun _ _ => ?_)
  repeat (first | (refine w_q (h := ?_)) | (refine w_s (h := ?_)) | (refine w_t (h := ?_)) | (refine w_k (h := ?_)) | (refine lex_nil (by kernel_rfl) ?_) | (refine awp_sq ?_) | (refine awp_rg ?_) | (refine awp_rd (by kernel_rfl) (by kernel_rfl) ?_) | (refine awp_block ?_) | (refine awp_exit ?_) | (refine awp_ret ?_) | (refine awp_skip ?_))
  refine awp_if rfl (fun h => ?_) (fun h => ?_)
  · simp [icmp] at h
  · repeat (first | (refine w_q (h := ?_)) | (refine w_s (h := ?_)) | (refine w_t (h := ?_)) | (refine w_k (h := ?_)) | (refine lex_nil (by kernel_rfl) ?_) | (refine awp_sq ?_) | (refine awp_rg ?_) | (refine awp_rd (by kernel_rfl) (by kernel_rfl) ?_) | (refine awp_block ?_) | (refine awp_exit ?_) | (refine awp_ret ?_) | (refine awp_skip ?_))
    refine ret_ok tyOk (by first | exact .inr rfl | exact .inl rfl) pi0 rfl (by first | exact .cons (by first | exact .tmp | exact .cell rfl rfl rfl rfl rfl rfl | exact .cell1 rfl rfl rfl rfl rfl) .nil | exact .cons (by first | exact .tmp | exact .cell rfl rfl rfl rfl rfl rfl | exact .cell1 rfl rfl rfl rfl rfl) (.cons (by first | exact .tmp | exact .cell rfl rfl rfl rfl rfl rfl | exact .cell1 rfl rfl rfl rfl rfl) .nil) | exact .cons (by first | exact .tmp | exact .cell rfl rfl rfl rfl rfl rfl | exact .cell1 rfl rfl rfl rfl rfl) (.cons (by first | exact .tmp | exact .cell rfl rfl rfl rfl rfl rfl | exact .cell1 rfl rfl rfl rfl rfl) (.cons (by first | exact .tmp | exact .cell rfl rfl rfl rfl rfl rfl | exact .cell1 rfl rfl rfl rfl rfl) .nil)) | exact .cons (by first | exact .tmp | exact .cell rfl rfl rfl rfl rfl rfl | exact .cell1 rfl rfl rfl rfl rfl) (.cons (by first | exact .tmp | exact .cell rfl rfl rfl rfl rfl rfl | exact .cell1 rfl rfl rfl rfl rfl) (.cons (by first | exact .tmp | exact .cell rfl rfl rfl rfl rfl rfl | exact .cell1 rfl rfl rfl rfl rfl) (.cons (by first | exact .tmp | exact .cell rfl rfl rfl rfl rfl rfl | exact .cell1 rfl rfl rfl rfl rfl) .nil)))) ?_ trivial (injO_0 _)
    repeat' (first | exact RetRelL.nil | (refine RetRel.nil rfl ?_) | refine RetRelL.cons ?_ ?_ | refine rr_tup ?_ | refine rr_agg ?_ | refine rr_own rfl ?_ | exact RetRel.arg | exact RetRel.argc | refine rr_t ?_)
    rfl
theorem markSS_c : MarkSS Try.prog 31 := by
  refine markss_of Try.func31 rfl (by kernel_rfl) (Nat.le_of_ble_eq_true rfl) (fun w Z x xs ls k hsz hk0 hk1 hxl hx => ?_)
  repeat (first | (refine w_q (h := ?_)) | (refine w_s (h := ?_)) | (refine w_t (h := ?_)) | (refine w_k (h := ?_)) | (refine lex_nil (by kernel_rfl) ?_) | (refine v_seq ?_) | (refine v_of (awp_rg ?_)) | (refine v_block ?_) | (refine v_of (awp_exit ?_)) | (refine v_of (awp_ret ?_)) | (refine v_of (awp_skip ?_)))
  refine v_loop (X := Nat) (fun i => i ≤ ls.length) (fun i => [(0, .arg 0 (.tl (xs.map T.v))), (1, .t (.v (.int .i64 (k + (totL (ls.take i) : Int))))), (5, .t (.v (.int .i64 i)))]) (fun _ => []) (fun i => ls.length - i)
    0 ⟨by omega, fun i => i, ⟨rfl, by simp [totL]; rfl, rfl, trivial⟩, trivial, injOn_id _⟩ (fun i hi => ?_)
  repeat (first | (refine w_q (h := ?_)) | (refine w_s (h := ?_)) | (refine w_t (h := ?_)) | (refine w_k (h := ?_)) | (refine lex_nil (by kernel_rfl) ?_) | (refine v_seq ?_) | (refine v_of (awp_rg ?_)) | (refine v_block ?_) | (refine v_of (awp_exit ?_)) | (refine v_of (awp_ret ?_)) | (refine v_of (awp_skip ?_)))
  (first | (refine w_r (q_len_tree tyOk rfl rfl rfl rfl rfl) (h := ?_)) | (refine y_r (q_len_tree tyOk rfl rfl rfl rfl rfl) (h := ?_)))
  repeat (first | (refine w_q (h := ?_)) | (refine w_s (h := ?_)) | (refine w_t (h := ?_)) | (refine w_k (h := ?_)) | (refine lex_nil (by kernel_rfl) ?_) | (refine v_seq ?_) | (refine v_of (awp_rg ?_)) | (refine v_block ?_) | (refine v_of (awp_exit ?_)) | (refine v_of (awp_ret ?_)) | (refine v_of (awp_skip ?_)))
  refine v_if rfl (fun h => ?_) (fun h => ?_)
  · simp only [icmp, T.len, List.length_map, decide_eq_true_eq, hxl] at h
    repeat (first | (refine v_seq ?_) | (refine v_block ?_) | (refine v_of (awp_skip ?_)))
    refine v_hav (k := 5) (ho := by exact rfl) ?_
    obtain ⟨ad, n, c, hxi, hn, hz⟩ := hx i (by omega)
    have hget : T.get i (.tl (xs.map T.v)) = .v (.slice ad n c) := by simp [T.get, List.getD_eq_getElem?_getD, hxi]
    have hml : (xs.map T.v).length = ls.length := by rw [List.length_map, hxl]
    have h1 := totL_take (ls := ls) (i := i) (by omega)
    have h2 := totL_le (ls := ls) (i + 1)
    have h3 := totL_le (ls := ls) i
    repeat (first | (refine w_q (h := ?_)) | (refine w_s (h := ?_)) | (refine w_t (h := ?_)) | (refine w_k (h := ?_)))
    have hget3 : (xs.map T.v)[i]?.getD (.v (.bool false)) = .v (.slice ad n c) := by simp [hxi]
    simp only [hget3]
    refine lex_nil (by exact rfl) ?_
    refine havs_mk (mark0_c _) (fun e l hl => ⟨_, markA_c e l n _ hl (by omega) (by omega)⟩) rfl rfl rfl rfl (by exact rfl) rfl (hz.imp id fun ⟨b, e, m, g1, g2, g3, g4, g5⟩ => ⟨b, e, m, g1, g2, g3, g4, fun μ i hi => by simp [lkH] at hi, g5⟩) (by (try simp only [dirtyL, T.flat, cid, Nat.reduceMul, Nat.reduceAdd, jkF, scrubF, scrubHL, scrub, scrubL, scrubB, cleanA, cleanL, List.contains_cons, List.contains_nil, Nat.reduceBEq, Bool.or_false, Bool.or_true, Bool.and_true, Bool.true_and, cond_true, cond_false]); rfl) (by (try simp only [dirtyL, T.flat, cid, Nat.reduceMul, Nat.reduceAdd, jkF, scrubF, scrubHL, scrub, scrubL, scrubB, cleanA, cleanL, List.contains_cons, List.contains_nil, Nat.reduceBEq, Bool.or_false, Bool.or_true, Bool.and_true, Bool.true_and, cond_true, cond_false]); rfl) rfl ?_
    repeat (first | (refine w_q (h := ?_)) | (refine w_s (h := ?_)) | (refine w_t (h := ?_)) | (refine w_k (h := ?_)) | (refine lex_nil (by kernel_rfl) ?_) | (refine v_seq ?_) | (refine v_of (awp_rg ?_)) | (refine v_block ?_) | (refine v_of (awp_exit ?_)) | (refine v_of (awp_ret ?_)) | (refine v_of (awp_skip ?_)))
    exact ⟨i + 1, by omega, by omega, fun i => i, ⟨rfl, congrArg (fun z => AV.t (T.v (Value.int .i64 z))) (show k + (totL (ls.take i) : Int) + (n : Int) = k + (totL (ls.take (i + 1)) : Int) by omega), rfl, trivial⟩, trivial, injOn_id _⟩
  · simp only [icmp, T.len, List.length_map, decide_eq_false_iff_not, hxl] at h
    obtain rfl : i = ls.length := by omega
    rw [List.take_length]
    repeat (first | (refine w_q (h := ?_)) | (refine w_s (h := ?_)) | (refine w_t (h := ?_)) | (refine w_k (h := ?_)) | (refine lex_nil (by kernel_rfl) ?_) | (refine v_seq ?_) | (refine v_of (awp_rg ?_)) | (refine v_block ?_) | (refine v_of (awp_exit ?_)) | (refine v_of (awp_ret ?_)) | (refine v_of (awp_skip ?_)))
    exact ⟨by first | exact .inr rfl | exact .inl rfl, retA_of (l := [_]) tyOk rfl (.cons .tmp .nil)⟩
/-- the blocks that would not last -/
def dirtyL : List (Nat × Blk) → List Nat
  | [] => []
  | (i, .sl _ c) :: r => bif c.flat then dirtyL r else i :: dirtyL r
  | (i, .box _ l) :: r => bif cleanL l then dirtyL r else i :: dirtyL r
theorem havss_mk2 {P : Program} {N : Nat} {Q : Exit → Fr → Hp → Prop} {ops : Array Oper} {o : Oper} {l2 : List Oper} {vs : Env} {w0 : World} {f : FuncId} {x y : Operand} {tys : Array TypeId} {id n d : Nat} {e : TypeId} {ls : List (List Nat)} {k : Int} {α α' : List (Nat × AV)} {H H' : List (Nat × Blk)} (hc : MarkSS P f)
    (ho : o.op = .call { callee := .value (.func f), args := #[x, y], argTypes := tys }) (hd : o.dst = some d) (hN : Nat.blt d N = true) (hg : guardA ops (lkF α) o = some true)
    (hx : evA (lkF α) x = .own id 0 n) (hη : lkH H id = some (.sl e (.tl (ls.map T.gf)))) (hy : evA (lkF α) y = .t (.v (.int .i64 k))) (hn : n = ls.length) (hsz : totL ls + ls.length ≤ 1048576) (hk : 0 ≤ k ∧ k ≤ 1099511627776)
    (hα : jkF (scrubF (dirtyL H) α) = α') (hH : scrubHL (dirtyL H) H = H') (hcB : cleanB H' = true)
    (h : LexD P N ops false (fun ρ η => Q .normal ρ η) [] l2 (lkF ((d, .t (.v (.int .i64 (k + (totL ls : Int))))) :: α')) (lkH H')) : HavK vs w0 P N ops o l2 Q (lkF α) (lkH H) :=
  ⟨dirtyL H, α, α', H, H', d, _, rfl, rfl, hg, hd, hN, hav_ss hc ho hx hη hn hy hsz hk, hα, hH, hcB, h⟩
end Go.Proofs.Ytfipjmoaibdanaa
