import Derived.Test.YtodnginckchmdaaT54
set_option linter.unusedVariables false
set_option linter.unusedSimpArgs false
set_option maxRecDepth 20000
set_option maxHeartbeats 8000000
namespace Go.Proofs.Ytodnginckchmdaa
open Go.Aw
attribute [local irreducible] QRun LexD AWp TCall TMut

def marksI (k : Int) (n : Nat) : List Int := (List.range n).map fun (i : Nat) => k + (i : Int)
theorem marksI_len (k : Int) (n : Nat) : (marksI k n).length = n := by simp [marksI]
theorem marksI_get (k : Int) {n i : Nat} (h : i < n) : (marksI k n).getD i 0 = k + (i : Int) := by simp [marksI, List.getD_eq_getElem?_getD, h]
theorem markI_c (l : List Int) (k : Int) (hl : l.length ≤ 1048576) (hk : 0 ≤ k ∧ k ≤ 4611686018427387904) :
    TMut Try.prog 51 [.argo 0 900 0 l.length, .t (.v (.int .i64 k))] [(900, .sl 2 (.il l))] (.t (.v (.int .i64 (k + (l.length : Int))))) [(900, .sl 2 (.il (marksI k l.length)))] [] := by
  refine tmut_of Try.func51 rfl (by kernel_rfl) (Nat.le_of_ble_eq_true rfl) rfl ?_
  simp only [slotsL]
  repeat (first | (refine w_q (h := ?_)) | (refine w_s (h := ?_)) | (refine w_t (h := ?_)) | (refine w_k (h := ?_)) | (refine lex_nil (by kernel_rfl) ?_) | (refine awp_sq ?_) | (refine awp_rg ?_) | (refine awp_rd (by kernel_rfl) (by kernel_rfl) ?_) | (refine awp_block ?_) | (refine awp_exit ?_) | (refine awp_ret ?_) | (refine awp_skip ?_))
  refine awp_loop (X := Nat × List Int) (fun x => x.1 ≤ l.length ∧ x.2.length = l.length ∧ ∀ j, j < x.1 → x.2.getD j 0 = k + (j : Int)) (fun x => [(0, .argo 0 900 0 l.length), (1, .t (.v (.int .i64 (k + (x.1 : Int))))), (5, .t (.v (.int .i64 x.1)))])
    (fun x => [(900, .sl 2 (.il x.2))]) (fun x => l.length - x.1)
    (0, l) ⟨⟨by omega, rfl, fun j hj => by omega⟩, fun i => i, ⟨rfl, by simp; rfl, rfl, trivial⟩, ⟨rfl, trivial⟩, injOn_id _⟩ (fun x hx => ?_)
  obtain ⟨i, m⟩ := x
  obtain ⟨h1, h2, h3⟩ := hx
  simp only [] at h1 h2 h3
  repeat (first | (refine w_q (h := ?_)) | (refine w_s (h := ?_)) | (refine w_t (h := ?_)) | (refine w_k (h := ?_)) | (refine lex_nil (by kernel_rfl) ?_) | (refine awp_sq ?_) | (refine awp_rg ?_) | (refine awp_rd (by kernel_rfl) (by kernel_rfl) ?_) | (refine awp_block ?_) | (refine awp_exit ?_) | (refine awp_ret ?_) | (refine awp_skip ?_))
  refine awp_if rfl (fun h => ?_) (fun h => ?_)
  · simp only [icmp, decide_eq_true_eq] at h
    repeat (first | (refine w_q (h := ?_)) | (refine w_s (h := ?_)) | (refine w_t (h := ?_)) | (refine w_k (h := ?_)) | (refine y_q (h := ?_)) | (refine y_s (h := ?_)) | (refine y_t (h := ?_)) | (refine y_k (h := ?_)) | (refine lex_nil (by kernel_rfl) ?_) | (refine awp_sq ?_) | (refine awp_rg ?_) | (refine awp_rd (by kernel_rfl) (by kernel_rfl) ?_) | (refine awp_block ?_) | (refine awp_exit ?_) | (refine awp_ret ?_) | (refine awp_skip ?_))
    exact ⟨(i + 1, m.set (0 + i) (k + (i : Int))), by simp only []; omega, ⟨by simp only []; omega, by simp only [List.length_set]; exact h2, fun j hj => by
      simp only [Nat.zero_add] at hj ⊢
      rw [getD_setI (by omega)]
      by_cases hji : j = i
      · rw [if_pos hji, hji]
      · rw [if_neg hji]; exact h3 j (by omega)⟩, fun i => i, ⟨rfl, by simp only [Int.add_assoc]; rfl, rfl, trivial⟩, ⟨rfl, trivial⟩, injOn_id _⟩
  · simp only [icmp, decide_eq_false_iff_not] at h
    have hi : i = l.length := by omega
    subst hi
    have hm : m = marksI k l.length := list_eqI (by rw [marksI_len, h2]) fun j hj => by rw [h3 j (by rw [marksI_len] at hj; omega), marksI_get k (by rw [marksI_len] at hj; omega)]
    subst hm
    repeat (first | (refine w_q (h := ?_)) | (refine w_s (h := ?_)) | (refine w_t (h := ?_)) | (refine w_k (h := ?_)) | (refine lex_nil (by kernel_rfl) ?_) | (refine awp_sq ?_) | (refine awp_rg ?_) | (refine awp_rd (by kernel_rfl) (by kernel_rfl) ?_) | (refine awp_block ?_) | (refine awp_exit ?_) | (refine awp_ret ?_) | (refine awp_skip ?_))
    refine mret_ok tyOk (by first | exact .inr rfl | exact .inl rfl) (piA 900 900) rfl (by first | exact .cons (by first | exact .tmp | exact .cell rfl rfl rfl rfl rfl rfl | exact .cell1 rfl rfl rfl rfl rfl) .nil | exact .cons (by first | exact .tmp | exact .cell rfl rfl rfl rfl rfl rfl | exact .cell1 rfl rfl rfl rfl rfl) (.cons (by first | exact .tmp | exact .cell rfl rfl rfl rfl rfl rfl | exact .cell1 rfl rfl rfl rfl rfl) .nil) | exact .cons (by first | exact .tmp | exact .cell rfl rfl rfl rfl rfl rfl | exact .cell1 rfl rfl rfl rfl rfl) (.cons (by first | exact .tmp | exact .cell rfl rfl rfl rfl rfl rfl | exact .cell1 rfl rfl rfl rfl rfl) (.cons (by first | exact .tmp | exact .cell rfl rfl rfl rfl rfl rfl | exact .cell1 rfl rfl rfl rfl rfl) .nil)) | exact .cons (by first | exact .tmp | exact .cell rfl rfl rfl rfl rfl rfl | exact .cell1 rfl rfl rfl rfl rfl) (.cons (by first | exact .tmp | exact .cell rfl rfl rfl rfl rfl rfl | exact .cell1 rfl rfl rfl rfl rfl) (.cons (by first | exact .tmp | exact .cell rfl rfl rfl rfl rfl rfl | exact .cell1 rfl rfl rfl rfl rfl) (.cons (by first | exact .tmp | exact .cell rfl rfl rfl rfl rfl rfl | exact .cell1 rfl rfl rfl rfl rfl) .nil)))) ?_ ⟨rfl, trivial⟩ (injO_1 _ _ _) (held1 0 0 900 0 _ 0 _ rfl rfl rfl)
    repeat' (first | exact RetRelL.nil | (refine RetRel.nil rfl ?_) | refine RetRelL.cons ?_ ?_ | refine rr_tup ?_ | refine rr_agg ?_ | refine rr_own rfl ?_ | exact RetRel.arg | exact RetRel.argc | refine rr_t ?_)
    rfl
end Go.Proofs.Ytodnginckchmdaa
