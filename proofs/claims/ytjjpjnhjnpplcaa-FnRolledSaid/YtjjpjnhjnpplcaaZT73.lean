import Derived.Test.YtjjpjnhjnpplcaaZT24
import Derived.Test.YtjjpjnhjnpplcaaZT14
import Derived.Test.YtjjpjnhjnpplcaaZAwC
set_option linter.unusedVariables false
set_option linter.unusedSimpArgs false
set_option maxRecDepth 20000
set_option maxHeartbeats 8000000
namespace Go.Proofs.Ytjjpjnhjnpplcaa
open Go.Aw
attribute [local irreducible] QRun LexD AWp TCall TMut fop fint fcmp fconv VWp

/-! ### slices of slices of the laws -/
theorem totL_take {ls : List (List Nat)} {i : Nat} (h : i < ls.length) : totL (ls.take (i + 1)) = totL (ls.take i) + (ls.getD i []).length := by
  unfold totL
  rw [List.take_succ_eq_append_getElem h, List.map_append, List.sum_append]
  simp [-List.map_take, List.getD_eq_getElem?_getD, h]
theorem totL_le {ls : List (List Nat)} : ∀ (i : Nat), totL (ls.take i) ≤ totL ls := fun i => by
  have : totL ls = totL (ls.take i) + totL (ls.drop i) := by
    unfold totL
    rw [← List.sum_append, ← List.map_append, List.take_append_drop]
  omega
theorem len_tot {ls : List (List Nat)} {i : Nat} (h : i < ls.length) : (ls.getD i []).length ≤ totL ls := by
  have h1 := totL_take h
  have h2 := totL_le (ls := ls) (i + 1)
  omega
/-- what is left when all is counted; -1: too much -/
def szGo (ls : List (List Nat)) (left : Int) : Nat → Int
  | 0 => left
  | i + 1 => sz1 (ls.getD i []).length (szGo ls left i)
def szBad (ls : List (List Nat)) (left : Int) (n : Nat) : Bool := (List.range n).any fun i => decide (szGo ls left (i + 1) < 0)
def szSS (ls : List (List Nat)) (left : Int) : Int := if left - (ls.length : Int) < 0 then -1 else if szBad ls (left - ls.length) ls.length then -1 else szGo ls (left - ls.length) ls.length
theorem szGo_tot {ls : List (List Nat)} {left : Int} : ∀ (i : Nat), i ≤ ls.length → (∀ j, j < i → ¬ szGo ls left (j + 1) < 0) → szGo ls left i = left - (totL (ls.take i) : Int)
  | 0, _, _ => by simp [szGo, totL]
  | i + 1, hi, h => by
    have h1 := szGo_tot i (by omega) (fun j hj => h j (by omega))
    have h2 := h i (by omega)
    rw [szGo] at h2 ⊢
    obtain ⟨e, _⟩ := sz1_ok h2
    rw [e, h1, totL_take (by omega)]
    omega
theorem szSS_ok {ls : List (List Nat)} {left : Int} (h : ¬ szSS ls left < 0) : (totL ls : Int) + ls.length ≤ left := by
  unfold szSS at h
  split at h
  · exact absurd (by decide : (-1 : Int) < 0) h
  split at h
  · exact absurd (by decide : (-1 : Int) < 0) h
  rename_i h1 h2
  have h3 : ∀ j, j < ls.length → ¬ szGo ls (left - ls.length) (j + 1) < 0 := fun j hj hn => h2 (List.any_eq_true.2 ⟨j, List.mem_range.2 hj, by simpa using hn⟩)
  have h4 := szGo_tot ls.length (Nat.le_refl _) h3
  rw [List.take_length] at h4
  rw [h4] at h
  omega
theorem szGo_rng {ls : List (List Nat)} {left : Int} (h : -1 ≤ left ∧ left ≤ 1048576) : ∀ i, -1 ≤ szGo ls left i ∧ szGo ls left i ≤ 1048576
  | 0 => h
  | i + 1 => sz1_rng (szGo_rng h i)
/-- the slices that have been made, and what is still empty -/
def gfs (ls : List (List Nat)) (i : Nat) : List T := (ls.take i).map T.gf ++ List.replicate (ls.length - i) (.v (.slice none 0 0))
theorem gfs_len {ls : List (List Nat)} {i : Nat} (h : i ≤ ls.length) : (gfs ls i).length = ls.length := by simp [gfs]; omega
theorem gfs_set {ls : List (List Nat)} {i : Nat} (h : i < ls.length) : (gfs ls i).set i (.gf (ls.getD i [])) = gfs ls (i + 1) := by
  unfold gfs
  have hz : ((ls.take i).map T.gf).length = i := by simp; omega
  rw [List.set_append_right _ _ (by omega), hz, Nat.sub_self, show ls.length - i = (ls.length - (i + 1)) + 1 by omega, List.replicate_succ, List.set_cons_zero, List.take_succ_eq_append_getElem h, List.map_append, List.append_assoc]
  simp [List.getD_eq_getElem?_getD, h]
theorem gfs_all (ls : List (List Nat)) : gfs ls ls.length = ls.map T.gf := by simp [gfs]
def mkA (k : Int) (l : List T) : Nat → List T
  | 0 => l
  | i + 1 => (mkA k l i).set i (.f .f32 (fint .f32 (k + (i : Int))))
theorem mkA_len (k : Int) (l : List T) : ∀ i, (mkA k l i).length = l.length
  | 0 => rfl
  | i + 1 => by rw [mkA, List.length_set, mkA_len k l i]
theorem markA_c (e : TypeId) (l : List T) (n : Nat) (k : Int) (hn : n ≤ l.length) (hn2 : n ≤ 1048576) (hk : 0 ≤ k ∧ k ≤ 4611686018427387904) :
    TMut Try.prog 58 [.argo 0 900 0 n, .t (.v (.int .i64 k))] [(900, .sl e (.tl l))] (.t (.v (.int .i64 (k + (n : Int))))) [(900, .sl e (.tl (mkA k l n)))] [] := by
  refine tmut_of Try.func58 rfl (by kernel_rfl) (Nat.le_of_ble_eq_true rfl) rfl ?_
  simp only [slotsL]
  repeat (first | (refine w_q (h := ?_)) | (refine w_s (h := ?_)) | (refine w_t (h := ?_)) | (refine w_k (h := ?_)) | (refine lex_nil (by kernel_rfl) ?_) | (refine awp_sq ?_) | (refine awp_rg ?_) | (refine awp_rd (by kernel_rfl) (by kernel_rfl) ?_) | (refine awp_block ?_) | (refine awp_exit ?_) | (refine awp_ret ?_) | (refine awp_skip ?_))
  refine awp_loop (X := Nat) (fun i => i ≤ n) (fun i => [(0, .argo 0 900 0 n), (1, .t (.v (.int .i64 (k + (i : Int))))), (5, .t (.v (.int .i64 i)))])
    (fun i => [(900, .sl e (.tl (mkA k l i)))]) (fun i => n - i)
    0 ⟨by omega, fun i => i, ⟨rfl, by simp; rfl, rfl, trivial⟩, ⟨rfl, trivial⟩, injOn_id _⟩ (fun i hi => ?_)
  have hz := mkA_len k l i
  repeat (first | (refine w_q (h := ?_)) | (refine w_s (h := ?_)) | (refine w_t (h := ?_)) | (refine w_k (h := ?_)) | (refine lex_nil (by kernel_rfl) ?_) | (refine awp_sq ?_) | (refine awp_rg ?_) | (refine awp_rd (by kernel_rfl) (by kernel_rfl) ?_) | (refine awp_block ?_) | (refine awp_exit ?_) | (refine awp_ret ?_) | (refine awp_skip ?_))
  refine awp_if rfl (fun h => ?_) (fun h => ?_)
  · simp only [icmp, decide_eq_true_eq] at h
    repeat (first | (refine w_q (h := ?_)) | (refine w_s (h := ?_)) | (refine w_t (h := ?_)) | (refine w_k (h := ?_)) | (refine lex_nil (by kernel_rfl) ?_) | (refine awp_sq ?_) | (refine awp_rg ?_) | (refine awp_rd (by kernel_rfl) (by kernel_rfl) ?_) | (refine awp_block ?_) | (refine awp_exit ?_) | (refine awp_ret ?_) | (refine awp_skip ?_))
    exact ⟨i + 1, by omega, by omega, fun i => i, ⟨rfl, by simp only [Int.add_assoc]; rfl, rfl, trivial⟩, ⟨sl_eq (congrArg T.tl (by rw [Nat.zero_add]; rfl)), trivial⟩, injOn_id _⟩
  · simp only [icmp, decide_eq_false_iff_not] at h
    obtain rfl : i = n := by omega
    repeat (first | (refine w_q (h := ?_)) | (refine w_s (h := ?_)) | (refine w_t (h := ?_)) | (refine w_k (h := ?_)) | (refine lex_nil (by kernel_rfl) ?_) | (refine awp_sq ?_) | (refine awp_rg ?_) | (refine awp_rd (by kernel_rfl) (by kernel_rfl) ?_) | (refine awp_block ?_) | (refine awp_exit ?_) | (refine awp_ret ?_) | (refine awp_skip ?_))
    refine mret_ok tyOk (by first | exact .inr rfl | exact .inl rfl) (piA 900 900) rfl (by first | exact .cons (by first | exact .tmp | exact .cell rfl rfl rfl rfl rfl rfl | exact .cell1 rfl rfl rfl rfl rfl) .nil | exact .cons (by first | exact .tmp | exact .cell rfl rfl rfl rfl rfl rfl | exact .cell1 rfl rfl rfl rfl rfl) (.cons (by first | exact .tmp | exact .cell rfl rfl rfl rfl rfl rfl | exact .cell1 rfl rfl rfl rfl rfl) .nil) | exact .cons (by first | exact .tmp | exact .cell rfl rfl rfl rfl rfl rfl | exact .cell1 rfl rfl rfl rfl rfl) (.cons (by first | exact .tmp | exact .cell rfl rfl rfl rfl rfl rfl | exact .cell1 rfl rfl rfl rfl rfl) (.cons (by first | exact .tmp | exact .cell rfl rfl rfl rfl rfl rfl | exact .cell1 rfl rfl rfl rfl rfl) .nil)) | exact .cons (by first | exact .tmp | exact .cell rfl rfl rfl rfl rfl rfl | exact .cell1 rfl rfl rfl rfl rfl) (.cons (by first | exact .tmp | exact .cell rfl rfl rfl rfl rfl rfl | exact .cell1 rfl rfl rfl rfl rfl) (.cons (by first | exact .tmp | exact .cell rfl rfl rfl rfl rfl rfl | exact .cell1 rfl rfl rfl rfl rfl) (.cons (by first | exact .tmp | exact .cell rfl rfl rfl rfl rfl rfl | exact .cell1 rfl rfl rfl rfl rfl) .nil)))) ?_ ⟨rfl, trivial⟩ (injO_1 _ _ _) (held1 0 0 900 0 _ 0 _ rfl rfl rfl)
    repeat' (first | exact RetRelL.nil | (refine RetRel.nil rfl ?_) | refine RetRelL.cons ?_ ?_ | refine rr_tup ?_ | refine rr_agg ?_ | refine rr_own rfl ?_ | exact RetRel.arg | exact RetRel.argc | refine rr_t ?_)
    rfl
theorem mark0_c (k : Int) : TCall Try.prog 58 [.fl [], .v (.int .i64 k)] (.t (.v (.int .i64 k))) [] := by
  refine tcall_of Try.func58 rfl (by kernel_rfl) (Nat.le_of_ble_eq_true rfl) rfl ?_
  simp only [argsL, argAV, argCs, argS]
  repeat (first | (refine w_q (h := ?_)) | (refine w_s (h := ?_)) | (refine w_t (h := ?_)) | (refine w_k (h := ?_)) | (refine lex_nil (by kernel_rfl) ?_) | (refine awp_sq ?_) | (refine awp_rg ?_) | (refine awp_rd (by kernel_rfl) (by kernel_rfl) ?_) | (refine awp_block ?_) | (refine awp_exit ?_) | (refine awp_ret ?_) | (refine awp_skip ?_))
  refine awp_loop (X := Unit) (fun _ => True) (fun _ => [(0, .arg 0 (.fl [])), (1, .t (.v (.int .i64 k))), (5, .t (.v (.int .i64 0)))]) (fun _ => []) (fun _ => 0)
    () ⟨trivial, fun i => i, ⟨rfl, rfl, rfl, trivial⟩, trivial, injOn_id _⟩ (fun _ _ => ?_)
  repeat (first | (refine w_q (h := ?_)) | (refine w_s (h := ?_)) | (refine w_t (h := ?_)) | (refine w_k (h := ?_)) | (refine lex_nil (by kernel_rfl) ?_) | (refine awp_sq ?_) | (refine awp_rg ?_) | (refine awp_rd (by kernel_rfl) (by kernel_rfl) ?_) | (refine awp_block ?_) | (refine awp_exit ?_) | (refine awp_ret ?_) | (refine awp_skip ?_))
  refine awp_if rfl (fun h => ?_) (fun h => ?_)
  · simp [icmp] at h
  · repeat (first | (refine w_q (h := ?_)) | (refine w_s (h := ?_)) | (refine w_t (h := ?_)) | (refine w_k (h := ?_)) | (refine lex_nil (by kernel_rfl) ?_) | (refine awp_sq ?_) | (refine awp_rg ?_) | (refine awp_rd (by kernel_rfl) (by kernel_rfl) ?_) | (refine awp_block ?_) | (refine awp_exit ?_) | (refine awp_ret ?_) | (refine awp_skip ?_))
    refine ret_ok tyOk (by first | exact .inr rfl | exact .inl rfl) pi0 rfl (by first | exact .cons (by first | exact .tmp | exact .cell rfl rfl rfl rfl rfl rfl | exact .cell1 rfl rfl rfl rfl rfl) .nil | exact .cons (by first | exact .tmp | exact .cell rfl rfl rfl rfl rfl rfl | exact .cell1 rfl rfl rfl rfl rfl) (.cons (by first | exact .tmp | exact .cell rfl rfl rfl rfl rfl rfl | exact .cell1 rfl rfl rfl rfl rfl) .nil) | exact .cons (by first | exact .tmp | exact .cell rfl rfl rfl rfl rfl rfl | exact .cell1 rfl rfl rfl rfl rfl) (.cons (by first | exact .tmp | exact .cell rfl rfl rfl rfl rfl rfl | exact .cell1 rfl rfl rfl rfl rfl) (.cons (by first | exact .tmp | exact .cell rfl rfl rfl rfl rfl rfl | exact .cell1 rfl rfl rfl rfl rfl) .nil)) | exact .cons (by first | exact .tmp | exact .cell rfl rfl rfl rfl rfl rfl | exact .cell1 rfl rfl rfl rfl rfl) (.cons (by first | exact .tmp | exact .cell rfl rfl rfl rfl rfl rfl | exact .cell1 rfl rfl rfl rfl rfl) (.cons (by first | exact .tmp | exact .cell rfl rfl rfl rfl rfl rfl | exact .cell1 rfl rfl rfl rfl rfl) (.cons (by first | exact .tmp | exact .cell rfl rfl rfl rfl rfl rfl | exact .cell1 rfl rfl rfl rfl rfl) .nil)))) ?_ trivial (injO_0 _)
    repeat' (first | exact RetRelL.nil | (refine RetRel.nil rfl ?_) | refine RetRelL.cons ?_ ?_ | refine rr_tup ?_ | refine rr_agg ?_ | refine rr_own rfl ?_ | exact RetRel.arg | exact RetRel.argc | refine rr_t ?_)
    rfl
/-- the blocks that would not last -/
def dirtyL : List (Nat × Blk) → List Nat
  | [] => []
  | (i, .sl _ c) :: r => bif c.flat then dirtyL r else i :: dirtyL r
  | (i, .box _ l) :: r => bif cleanL l then dirtyL r else i :: dirtyL r
theorem havss_mk2 {P : Program} {N : Nat} {Q : Exit → Fr → Hp → Prop} {ops : Array Oper} {o : Oper} {l2 : List Oper} {vs : Env} {w0 : World} {f : FuncId} {x y : Operand} {tys : Array TypeId} {id n d : Nat} {e : TypeId} {ls : List (List Nat)} {k : Int} {α α' : List (Nat × AV)} {H H' : List (Nat × Blk)} (hc : MarkSS P f)
    (ho : o.op = .call { callee := .value (.func f), args := #[x, y], argTypes := tys }) (hd : o.dst = some d) (hN : Nat.blt d N = true) (hg : guardA ops (lkF α) o = some true)
    (hx : evA (lkF α) x = .own id 0 n) (hη : lkH H id = some (.sl e (.tl (ls.map T.gf)))) (hy : evA (lkF α) y = .t (.v (.int .i64 k))) (hn : n = ls.length) (hsz : totL ls + ls.length ≤ 1048576) (hk : 0 ≤ k ∧ k ≤ 1099511627776)
    (hα : jkF (scrubF (dirtyL H) α) = α') (hH : scrubHL (dirtyL H) H = H') (hcB : cleanB H' = true)
    (h : LexD P N ops false (fun ρ η => Q .normal ρ η) [] l2 (lkF ((d, .t (.v (.int .i64 (k + (totL ls : Int))))) :: α')) (lkH H')) : HavK vs w0 P N ops o l2 Q (lkF α) (lkH H) :=
  ⟨dirtyL H, α, α', H, H', d, _, rfl, rfl, hg, hd, hN, hav_ss hc ho hx hη hn hy hsz hk, hα, hH, hcB, h⟩
end Go.Proofs.Ytjjpjnhjnpplcaa
