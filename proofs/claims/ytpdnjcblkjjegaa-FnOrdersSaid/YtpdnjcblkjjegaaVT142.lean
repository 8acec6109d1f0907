import Derived.Test.YtpdnjcblkjjegaaVT1n
import Derived.Test.YtpdnjcblkjjegaaVT28
import Derived.Test.YtpdnjcblkjjegaaVT26
import Derived.Test.YtpdnjcblkjjegaaVAwG
import Derived.Test.YtpdnjcblkjjegaaVAwN
set_option linter.unusedVariables false
set_option linter.unusedSimpArgs false
set_option maxRecDepth 20000
set_option maxHeartbeats 8000000
namespace Go.Proofs.Ytpdnjcblkjjegaa
open Go.Aw

/-! ### columns of ones -/
section
variable {P : Program} {ty0 : Ty} {o : Oper} {F : List Nat} {ρ : Fr} {η : Hp}
theorem q_iz {op : BinOp} {t u : TypeId} {x y : Operand} {k : IntKind} {m n : Int} (z : Int) (hz : k.wrap (match op with | .add => m + n | .sub => m - n | _ => m * n) = z) (ho : o.op = .binOp op t x y u) (hop : op = .add ∨ op = .sub ∨ op = .mul)
    (hx : evA ρ x = .t (.v (.int k m))) (hy : evA ρ y = .t (.v (.int k n))) : QRun P o F [] ρ η (.t (.v (.int k z))) (lkH []) := by
  have h := q_iarith (P := P) (F := F) (η := η) ho hop hx hy
  rcases hop with rfl | rfl | rfl <;> (subst hz; exact h)
theorem q_az {t u : TypeId} {x y : Operand} {k : IntKind} {m n : Int} (z : Int) (hz : ibit .and k m n = z) (ho : o.op = .binOp .and t x y u)
    (hx : evA ρ x = .t (.v (.int k m))) (hy : evA ρ y = .t (.v (.int k n))) : QRun P o F [] ρ η (.t (.v (.int k z))) (lkH []) := by subst hz; exact q_ibit ho (.inl rfl) hx hy
theorem q_sz {t u : TypeId} {x y : Operand} {k j : IntKind} {m n : Int} (z : Int) (hz : ishr k m n = z) (ho : o.op = .binOp .shr t x y u) (hn : 0 ≤ n)
    (hx : evA ρ x = .t (.v (.int k m))) (hy : evA ρ y = .t (.v (.int j n))) : QRun P o F [] ρ η (.t (.v (.int k z))) (lkH []) := by subst hz; exact q_shr ho hn hx hy
theorem q_cz {s t : TypeId} {es et : TE} {x : Operand} {k j : IntKind} {n : Int} (z : Int) (hz : j.wrap n = z) (hT : TyOk P ty0) (ho : o.op = .convert s t x) (hs : ty0.get s = some es) (ht : ty0.get t = some et) (hd : et.d = .i j)
    (hx : evA ρ x = .t (.v (.int k n))) : QRun P o F [] ρ η (.t (.v (.int j z))) (lkH []) := by subst hz; exact q_cv_ii hT ho hs ht hd hx
end
theorem wrapU {z : Int} (h : 0 ≤ z ∧ z < 18446744073709551616) : IntKind.u64.wrap z = z := by
  unfold IntKind.wrap
  simp only [IntKind.signed, IntKind.bits, Bool.false_and, Bool.false_eq_true, if_false]
  omega
theorem and32 {n : Nat} (h : n ≤ 96) : ibit .and .u64 (n : Int) 4294967295 = (n : Int) := by
  have : (List.range 97).all (fun n => decide (ibit .and .u64 (n : Int) 4294967295 = (n : Int))) = true := by decide +kernel
  simpa using List.all_eq_true.1 this n (List.mem_range.2 (by omega))
theorem shr32 {n : Nat} (h : n ≤ 96) : ishr .u64 (n : Int) 32 = 0 := by
  have : (List.range 97).all (fun n => decide (ishr .u64 (n : Int) 32 = 0)) = true := by decide +kernel
  simpa using List.all_eq_true.1 this n (List.mem_range.2 (by omega))
attribute [local irreducible] QRun LexD AWp TCall TMut
theorem mul64_c (n : Nat) (hn : n ≤ 96) : TCall Try.prog 137 [.v (.int .u64 1), .v (.int .u64 (n : Nat))] (.tup [.t (.v (.int .u64 0)), .t (.v (.int .u64 (n : Nat)))]) [] := by
  have a1 := and32 (n := 1) (by omega)
  have a2 := and32 hn
  have s1 := shr32 (n := 1) (by omega)
  have s2 := shr32 hn
  have e0 : (1 : Int) = ((1 : Nat) : Int) := rfl
  refine tcall_of Try.func137 rfl (by kernel_rfl) (Nat.le_of_ble_eq_true rfl) rfl ?_
  simp only [argsL, argAV, argCs, argS]
  refine V1 ?_
  (first | (refine w_r (q_az 1 (by decide +kernel) rfl rfl rfl) (h := ?_)) | (refine y_r (q_az 1 (by decide +kernel) rfl rfl rfl) (h := ?_)))
  refine V1 ?_
  (first | (refine w_r (q_sz 0 (by decide +kernel) rfl (by omega) rfl rfl) (h := ?_)) | (refine y_r (q_sz 0 (by decide +kernel) rfl (by omega) rfl rfl) (h := ?_)))
  refine V1 ?_
  (first | (refine w_r (q_az (n : Int) a2 rfl rfl rfl) (h := ?_)) | (refine y_r (q_az (n : Int) a2 rfl rfl rfl) (h := ?_)))
  refine V1 ?_
  (first | (refine w_r (q_sz 0 s2 rfl (by omega) rfl rfl) (h := ?_)) | (refine y_r (q_sz 0 s2 rfl (by omega) rfl rfl) (h := ?_)))
  refine V1 ?_
  (first | (refine w_r (q_iz (n : Int) (by show IntKind.u64.wrap (1 * (n : Int)) = _; rw [Int.one_mul]; exact wrapU (by omega)) rfl (by simp) rfl rfl) (h := ?_)) | (refine y_r (q_iz (n : Int) (by show IntKind.u64.wrap (1 * (n : Int)) = _; rw [Int.one_mul]; exact wrapU (by omega)) rfl (by simp) rfl rfl) (h := ?_)))
  refine V1 ?_
  (first | (refine w_r (q_iz 0 (by show IntKind.u64.wrap (0 * (n : Int)) = _; rw [Int.zero_mul]; exact wrapU (by omega)) rfl (by simp) rfl rfl) (h := ?_)) | (refine y_r (q_iz 0 (by show IntKind.u64.wrap (0 * (n : Int)) = _; rw [Int.zero_mul]; exact wrapU (by omega)) rfl (by simp) rfl rfl) (h := ?_)))
  refine V1 ?_
  (first | (refine w_r (q_sz 0 s2 rfl (by omega) rfl rfl) (h := ?_)) | (refine y_r (q_sz 0 s2 rfl (by omega) rfl rfl) (h := ?_)))
  refine V1 ?_
  (first | (refine w_r (q_iz 0 (by decide +kernel) rfl (by simp) rfl rfl) (h := ?_)) | (refine y_r (q_iz 0 (by decide +kernel) rfl (by simp) rfl rfl) (h := ?_)))
  refine V1 ?_
  (first | (refine w_r (q_az 0 (by decide +kernel) rfl rfl rfl) (h := ?_)) | (refine y_r (q_az 0 (by decide +kernel) rfl rfl rfl) (h := ?_)))
  refine V1 ?_
  (first | (refine w_r (q_sz 0 (by decide +kernel) rfl (by omega) rfl rfl) (h := ?_)) | (refine y_r (q_sz 0 (by decide +kernel) rfl (by omega) rfl rfl) (h := ?_)))
  refine V1 ?_
  (first | (refine w_r (q_iz 0 (by decide +kernel) rfl (by simp) rfl rfl) (h := ?_)) | (refine y_r (q_iz 0 (by decide +kernel) rfl (by simp) rfl rfl) (h := ?_)))
  refine V1 ?_
  (first | (refine w_r (q_iz 0 (by decide +kernel) rfl (by simp) rfl rfl) (h := ?_)) | (refine y_r (q_iz 0 (by decide +kernel) rfl (by simp) rfl rfl) (h := ?_)))
  refine V1 ?_
  (first | (refine w_r (q_iz 0 (by decide +kernel) rfl (by simp) rfl rfl) (h := ?_)) | (refine y_r (q_iz 0 (by decide +kernel) rfl (by simp) rfl rfl) (h := ?_)))
  refine V1 ?_
  (first | (refine w_r (q_iz 0 (by decide +kernel) rfl (by simp) rfl rfl) (h := ?_)) | (refine y_r (q_iz 0 (by decide +kernel) rfl (by simp) rfl rfl) (h := ?_)))
  refine V1 ?_
  (first | (refine w_r (q_sz 0 (by decide +kernel) rfl (by omega) rfl rfl) (h := ?_)) | (refine y_r (q_sz 0 (by decide +kernel) rfl (by omega) rfl rfl) (h := ?_)))
  refine V1 ?_
  (first | (refine w_r (q_iz 0 (by decide +kernel) rfl (by simp) rfl rfl) (h := ?_)) | (refine y_r (q_iz 0 (by decide +kernel) rfl (by simp) rfl rfl) (h := ?_)))
  refine V1 ?_
  (first | (refine w_r (q_iz (n : Int) (by show IntKind.u64.wrap (1 * (n : Int)) = _; rw [Int.one_mul]; exact wrapU (by omega)) rfl (by simp) rfl rfl) (h := ?_)) | (refine y_r (q_iz (n : Int) (by show IntKind.u64.wrap (1 * (n : Int)) = _; rw [Int.one_mul]; exact wrapU (by omega)) rfl (by simp) rfl rfl) (h := ?_)))
  refine V1 ?_
  (refine u_0 ?_; (repeat' (first | exact RetRelL.nil | refine RetRel.nil rfl ?_ | refine RetRelL.cons ?_ ?_ | refine rr_tup ?_ | refine rr_agg ?_ | refine rr_own rfl ?_ | exact RetRel.arg | exact RetRel.argc | refine rr_t ?_)); all_goals rfl)
theorem mul_c (n : Nat) (hn : n ≤ 96) : TCall Try.prog 135 [.v (.int .u64 1), .v (.int .u64 (n : Nat))] (.tup [.t (.v (.int .u64 0)), .t (.v (.int .u64 (n : Nat)))]) [] := by
  refine tcall_of Try.func135 rfl (by kernel_rfl) (Nat.le_of_ble_eq_true rfl) rfl ?_
  simp only [argsL, argAV, argCs, argS]
  refine V1 ?_
  refine awp_cond (b := false) rfl (fun h => by cases h) (fun _ => ?_)
  refine V1 ?_
  (first | refine c_q (mul64_c n hn) (h := ?_) | refine z_q (mul64_c n hn) (h := ?_))
  refine V1 ?_
  (refine u_0 ?_; (repeat' (first | exact RetRelL.nil | refine RetRel.nil rfl ?_ | refine RetRelL.cons ?_ ?_ | refine rr_tup ?_ | refine rr_agg ?_ | refine rr_own rfl ?_ | exact RetRel.arg | exact RetRel.argc | refine rr_t ?_)); all_goals rfl)
/-- ones as far as they are copied -/
def onN (N n : Nat) : List Nat := List.replicate n 1065353216 ++ List.replicate (N - n) 0
theorem onN_len {N n : Nat} (h : n ≤ N) : (onN N n).length = N := by simp [onN]; omega
theorem onN_all (N : Nat) : onN N N = List.replicate N 1065353216 := by simp [onN]
theorem iE9' {k : IntKind} {a b : Int} (h : a = b) : AV.t (.v (.int k a)) = AV.t (.v (.int k b)) := by rw [h]
theorem onN_copy {N n m : Nat} (h : m ≤ n) (h2 : n + m ≤ N) : (onN N n).take (0 + n) ++ ((onN N n).take (n - 0)).take m ++ (onN N n).drop (0 + n + m) = onN N (n + m) := by
  have e1 : (onN N n).take (0 + n) = List.replicate n 1065353216 := by unfold onN; rw [Nat.zero_add, List.take_left' (by simp)]
  have e2 : (onN N n).take (n - 0) = List.replicate n 1065353216 := by unfold onN; rw [Nat.sub_zero, List.take_left' (by simp)]
  have e3 : (onN N n).drop (0 + n + m) = List.replicate (N - (n + m)) 0 := by
    unfold onN
    rw [Nat.zero_add, ← List.drop_drop, List.drop_left' (by simp), List.drop_replicate]
    congr 1; omega
  rw [e1, e2, e3, List.take_replicate, Nat.min_eq_left h]
  unfold onN
  rw [← List.replicate_append_replicate]
theorem repeat_c (N : Nat) (h1 : 1 ≤ N) (hn : N ≤ 96) : TCall Try.prog 132 [.fl [1065353216], .v (.int .i64 (N : Nat))] (.own 0 N) [(0, .sl 30 (.fl (List.replicate N 1065353216)))] := by
  refine tcall_of Try.func132 rfl (by kernel_rfl) (Nat.le_of_ble_eq_true rfl) rfl ?_
  simp only [argsL, argAV, argCs, argS]
  refine V1 ?_
  refine awp_ifF rfl (by simp [icmp]) ?_
  refine V1 ?_
  (first | (refine w_r (q_cz 1 (by decide +kernel) tyOk rfl rfl rfl rfl rfl) (h := ?_)) | (refine y_r (q_cz 1 (by decide +kernel) tyOk rfl rfl rfl rfl rfl) (h := ?_)))
  refine V1 ?_
  (first | (refine w_r (q_cz (N : Int) (wrapU (by omega)) tyOk rfl rfl rfl rfl rfl) (h := ?_)) | (refine y_r (q_cz (N : Int) (wrapU (by omega)) tyOk rfl rfl rfl rfl rfl) (h := ?_)))
  refine V1 ?_
  (first | refine c_q (mul_c N hn) (h := ?_) | refine z_q (mul_c N hn) (h := ?_))
  refine V4 ?_
  refine awp_ifF rfl rfl ?_
  refine V1 ?_
  (first | (refine w_r (q_cz (N : Int) (wrap_in (by omega)) tyOk rfl rfl rfl rfl rfl) (h := ?_)) | (refine y_r (q_cz (N : Int) (wrap_in (by omega)) tyOk rfl rfl rfl rfl rfl) (h := ?_)))
  refine V1 ?_
  refine w_rs (q_make N tyOk rfl rfl rfl rfl rfl rfl rfl rfl rfl rfl rfl (by simp only []; omega) (by omega)) (h := ?_)
  refine V1 ?_
  refine w_rs (q_copy (l2 := [1065353216]) 1 (.inl ⟨_, rfl⟩) (by simp; omega) tyOk rfl rfl rfl rfl rfl rfl rfl rfl (by simp)) (h := ?_)
  have e1 : 1065353216 :: List.drop 1 (List.replicate N 0) = onN N 1 := by simp [onN]
  rw [e1]
  refine V1 ?_
  refine awp_loop (X := Nat) (fun n => 1 ≤ n ∧ n ≤ N) (fun n => [(7, .own 30 0 N), (8, .t (.v (.int .i64 (n : Nat))))]) (fun n => [(30, .sl 30 (.fl (onN N n)))]) (fun n => N - n)
    1 ⟨⟨by omega, h1⟩, fun i => i, ⟨rfl, rfl, trivial⟩, ⟨rfl, trivial⟩, injOn_id _⟩ (fun n hk => ?_)
  obtain ⟨hk, hnN⟩ := hk
  have hol := onN_len hnN
  refine V1 ?_
  refine awp_if rfl (fun h4 => ?_) (fun h4 => ?_)
  · simp only [icmp, decide_eq_true_eq] at h4
    refine V1 ?_
    (first | (refine w_r (q_slice_own n N tyOk rfl rfl rfl rfl rfl rfl (by exact ⟨_, _, rfl, rfl⟩) (by exact rfl) (by omega) (by omega) (by omega)) (h := ?_)) | (refine y_r (q_slice_own n N tyOk rfl rfl rfl rfl rfl rfl (by exact ⟨_, _, rfl, rfl⟩) (by exact rfl) (by omega) (by omega) (by omega)) (h := ?_)))
    refine V1 ?_
    (first | (refine w_r (q_slice_own 0 n tyOk rfl rfl rfl rfl rfl rfl (by exact rfl) (by exact ⟨_, _, rfl, rfl⟩) (by omega) (by omega) (by omega)) (h := ?_)) | (refine y_r (q_slice_own 0 n tyOk rfl rfl rfl rfl rfl rfl (by exact rfl) (by exact ⟨_, _, rfl, rfl⟩) (by omega) (by omega) (by omega)) (h := ?_)))
    refine V1 ?_
    have hl2 : (((onN N n).drop (0 + 0)).take (n - 0)).length = n := by simp [hol]; omega
    have e2 := onN_copy (N := N) (n := n) (m := min n (N - n)) (by omega) (by omega)
    refine dx_s rfl rfl rfl (q_copy (l2 := ((onN N n).drop (0 + 0)).take (n - 0)) (min n (N - n)) (.inr ⟨30, 0 + 0, n - 0, _, onN N n, rfl, rfl, rfl, by omega, rfl⟩) (by rw [hl2]) tyOk rfl rfl rfl rfl rfl rfl rfl rfl (by omega)) (by first | exact nf_f rfl | exact nf_b rfl | exact nf_i rfl | exact nf_bp rfl | exact nf_own rfl | exact nf_argo rfl | exact nf_arg rfl | exact nf_argc rfl | exact nf_fl rfl | exact nf_ofl rfl | exact nf_oref rfl | exact nf_tref rfl | exact nf_s rfl | exact nf_t rfl | exact nf_old rfl | exact nf_junk rfl | exact nf_dead rfl | (simp only [resV, resVl, scrubL, scrub, List.map, List.drop, List.take, mkT, zA, cellsA, cid, cids, relab, sg, List.getD, List.append, List.cons_append, List.nil_append, Nat.reduceMul, Nat.reduceAdd, Array.toList, T.get, cond_true, cond_false]; rfl) | rfl) (by first | (simp only [scrubF, scrubHL, scrub, scrubL, scrubB, cblk, cids, cid, relab, sg, List.contains_cons, List.contains_nil, Nat.reduceBEq, Bool.or_false, Bool.or_true, cond_true, cond_false, List.cons_append, List.nil_append, Nat.reduceMul, Nat.reduceAdd, List.set, List.take, List.drop, List.length, List.append_nil]; rfl) | rfl) (by first | (simp only [scrubF, scrubHL, scrub, scrubL, scrubB, cblk, cids, cid, relab, sg, List.contains_cons, List.contains_nil, Nat.reduceBEq, Bool.or_false, Bool.or_true, cond_true, cond_false, List.cons_append, List.nil_append, Nat.reduceMul, Nat.reduceAdd, List.set, List.take, List.drop, List.length, List.append_nil]; rfl) | rfl) (by kernel_rfl) ?_
    refine V1 ?_
    exact ⟨n + min n (N - n), by omega, ⟨by omega, by omega⟩, fun i => i, ⟨rfl, iE9' (by omega), trivial⟩, ⟨sl_eq (congrArg T.fl e2), trivial⟩, injOn_id _⟩
  simp only [icmp, decide_eq_false_iff_not] at h4
  obtain rfl : n = N := by omega
  rw [onN_all]
  refine V1 ?_
  refine ret_ok tyOk (by first | exact .inr rfl | exact .inl rfl) (pi1 30) rfl (by repeat (first | exact .nil | (apply ResAl.cons; first | exact .tmp | exact .cell rfl rfl rfl rfl rfl rfl | exact .cell1 rfl rfl rfl rfl rfl))) ?_ ⟨rfl, trivial⟩ (injO_1 _ _ _)
  repeat' (first | exact RetRelL.nil | refine RetRel.nil rfl ?_ | refine RetRelL.cons ?_ ?_ | refine rr_tup ?_ | refine rr_agg ?_ | refine rr_own rfl ?_ | exact RetRel.arg | exact RetRel.argc | refine rr_t ?_)
  all_goals rfl
theorem ones_c (N : Nat) (h1 : 1 ≤ N) (hn : N ≤ 96) : TCall Try.prog 124 [.v (.int .i64 (N : Nat))] (.own 0 N) [(0, .sl 30 (.fl (List.replicate N 1065353216)))] := by
  refine tcall_of Try.func124 rfl (by kernel_rfl) (Nat.le_of_ble_eq_true rfl) rfl ?_
  simp only [argsL, argAV, argCs, argS]
  refine V1 ?_
  (first | refine c_s (repeat_c N h1 hn) (h := ?_) | refine z_s (repeat_c N h1 hn) (h := ?_))
  refine V1 ?_
  refine ret_ok tyOk (by first | exact .inr rfl | exact .inl rfl) (pi1 (cid 5 0)) rfl (by repeat (first | exact .nil | (apply ResAl.cons; first | exact .tmp | exact .cell rfl rfl rfl rfl rfl rfl | exact .cell1 rfl rfl rfl rfl rfl))) ?_ ⟨rfl, trivial⟩ (injO_1 _ _ _)
  repeat' (first | exact RetRelL.nil | refine RetRel.nil rfl ?_ | refine RetRelL.cons ?_ ?_ | refine rr_tup ?_ | refine rr_agg ?_ | refine rr_own rfl ?_ | exact RetRel.arg | exact RetRel.argc | refine rr_t ?_)
  all_goals rfl
end Go.Proofs.Ytpdnjcblkjjegaa

set_option linter.unusedVariables false
set_option linter.unusedSimpArgs false
set_option maxRecDepth 20000
set_option maxHeartbeats 8000000
namespace Go.Proofs.Ytpdnjcblkjjegaa
open Go.Aw

/-! ### rows that are data, and one that is not yet -/
def NL (R : List (List Nat)) : List AV := R.map fun r => .t (.fl r)
theorem NL_len (R : List (List Nat)) : (NL R).length = R.length := by simp [NL]
theorem NL_good (R : List (List Nat)) : GoodN [] (NL R) := fun v hv j hj => by
  obtain ⟨t, _, rfl⟩ := List.mem_map.1 hv
  simp [AV.ids] at hj
theorem own1_good (i n : Nat) : GoodN [i] [.own i 0 n] := fun v hv j hj => by
  simp only [List.mem_singleton] at hv
  subst hv
  simp only [AV.ids, List.mem_singleton] at hj
  subst hj; exact .inr (by simp)
theorem NL_ren (R : List (List Nat)) {k : Nat} {v : AV} (hv : (NL R)[k]? = some v) : v = ren (fun i => i) v := by
  obtain ⟨r, _, rfl⟩ := List.mem_map.1 (List.mem_of_getElem? hv); rfl
theorem NL_same {η η' : Hp} {R : List (List Nat)} {i : Nat} {e : TypeId} (h1 : η i = some (.nest e (NL R) [] noRem)) : BTo (fun i => i) η η' i (.nest e (NL R) [] noRem) :=
  .inl ⟨_, _, h1, NL_good R, rfl, fun k v hv => ⟨v, hv, .inl (NL_ren R hv)⟩⟩
theorem NL_bto {η η' : Hp} {R : List (List Nat)} {r : List Nat} {i len id : Nat} {e ef : TypeId} {vis : List Nat} (h1 : η i = some (.nest e (NL R ++ [.own id 0 len]) vis noRem)) (hv : vis = [id]) (h2 : η id = some (.sl ef (.fl r))) (hl : len = r.length) (h3 : (η' id).isSome = false) :
    BTo (fun i => i) η η' i (.nest e (NL (R ++ [r])) [] noRem) := by
  subst hv; subst hl
  refine .inl ⟨_, _, h1, good_app (NL_good R) (own1_good id _), by rw [NL_len, List.length_append, List.length_append, NL_len]; rfl, fun k v hv => ?_⟩
  have e1 : NL (R ++ [r]) = NL R ++ [.t (.fl r)] := by unfold NL; rw [List.map_append]; rfl
  rw [e1] at hv
  rcases Nat.lt_or_ge k (NL R).length with hk | hk
  · rw [List.getElem?_append_left hk] at hv ⊢
    exact ⟨v, hv, .inl (NL_ren R hv)⟩
  · rw [List.getElem?_append_right hk] at hv ⊢
    have h0 : k - (NL R).length = 0 := by
      cases hn : k - (NL R).length with
      | zero => rfl
      | succ n => rw [hn] at hv; simp at hv
    rw [h0] at hv ⊢
    simp only [List.getElem?_cons_zero, Option.some.injEq] at hv ⊢
    subst hv
    exact ⟨_, rfl, .inr ⟨.fl r, id, ef, rfl, rfl, h2, fun j hj e => by simp only at e; subst e; rw [h3] at hj; cases hj⟩⟩
theorem NL_one {η η' : Hp} {r : List Nat} {i len id : Nat} {e ef : TypeId} {vis : List Nat} (h1 : η i = some (.nest e [.own id 0 len] vis noRem)) (hv : vis = [id]) (h2 : η id = some (.sl ef (.fl r))) (hl : len = r.length) (h3 : (η' id).isSome = false) :
    BTo (fun i => i) η η' i (.nest e (NL [r]) [] noRem) := NL_bto (R := []) h1 hv h2 hl h3
/-- all rows are data: the slice is one of slices of floats -/
theorem NL_ffl {η η' : Hp} {R : List (List Nat)} {i : Nat} {e : TypeId} (h1 : η i = some (.nest e (NL R) [] noRem)) : BTo (fun i => i) η η' i (.sl e (.ffl R)) := by
  refine .inr ⟨_, _, h1, NL_good R, rfl, by rw [NL_len]; rfl, fun k v hv => ?_⟩
  unfold NL at hv
  rw [List.getElem?_map, Option.map_eq_some_iff] at hv
  obtain ⟨r, hr, rfl⟩ := hv
  refine ⟨.fl r, ?_, .inl rfl⟩
  show (R.map T.fl)[k]? = _
  rw [List.getElem?_map, hr]; rfl

/-! ### columns of a series and what was ahead of it -/
def lagC (a : List Nat) (L : Nat) : List (List Nat) := List.replicate (a.length - L) 1065353216 :: (List.range L).map fun l => (a.take (a.length - (l + 1))).drop (L - (l + 1))
theorem lagC_len (a : List Nat) (L : Nat) : (lagC a L).length = L + 1 := by simp [lagC]
theorem lagC_take (a : List Nat) {L m : Nat} (h : m < L) : (lagC a L).take (m + 1) ++ [(a.take (a.length - (m + 1))).drop (L - (m + 1))] = (lagC a L).take (m + 1 + 1) := by
  unfold lagC
  rw [List.take_succ_cons, List.take_succ_cons, List.cons_append, ← List.map_take, ← List.map_take, List.take_range, List.take_range, Nat.min_eq_left (by omega), Nat.min_eq_left (by omega), List.range_succ, List.map_append]
  rfl
theorem lagC_one (a : List Nat) (L : Nat) : (lagC a L).take 1 = [List.replicate (a.length - L) 1065353216] := by simp [lagC]
attribute [local irreducible] QRun LexD AWp TCall TMut fop fint fcmp fconv NL lagC
theorem lagCols_c (a : List Nat) (L : Nat) (hl : 1 ≤ a.length ∧ a.length ≤ 96) (hL : 1 ≤ L ∧ L ≤ 5) (hLa : L < a.length) :
    TCall Try.prog 101 [.fl a, .v (.int .i64 (L : Nat))] (.tup [.own 0 (L + 1), .own 1 (a.length - L)]) [(0, .sl 24 (.ffl (lagC a L))), (1, .sl 30 (.fl (a.drop L)))] := by
  have hfm := famOk_no
  have hcl := lagC_len a L
  have hsub : ((a.length : Int) - (L : Int)) = ((a.length - L : Nat) : Int) := by omega
  refine tcall_of Try.func101 rfl (by kernel_rfl) (Nat.le_of_ble_eq_true rfl) rfl ?_
  simp only [argsL, argAV, argCs, argS]
  refine V1 ?_
  rw [hsub]
  (first | (refine c_s (ones_c (a.length - L) (by omega) (by omega)) (h := ?_)) | (refine z_s (ones_c (a.length - L) (by omega) (by omega)) (h := ?_)))
  refine V1 ?_
  refine w_rs (q_bslice_nest (L := [.own (cid 14 0) 0 (a.length - L)]) [cid 14 0] tyOk rfl rfl rfl rfl rfl rfl rfl rfl rfl rfl rfl rfl rfl) (h := ?_)
  first | refine w_q ?_ | refine w_s ?_ | refine w_t ?_ | (refine w_k ?_)
  refine u_n ?_
  refine awp_wk0 [(0, .arg 0 (.fl a)), (1, .t (.v (.int .i64 (L : Nat)))), (6, .t (.v (.int .i64 (a.length : Nat)))), (7, .own 15 0 1)] [(15, .nest 24 (NL ((lagC a L).take 1)) [] noRem)]
    ⟨rfl, rfl, rfl, rfl, trivial⟩ ⟨by rw [lagC_one]; exact NL_one rfl rfl rfl (by simp) rfl, trivial⟩ ?_
  refine V2 ?_
  refine awp_loopN (X := Nat) (fun m => m ≤ L) (fun m => [(0, .arg 0 (.fl a)), (1, .t (.v (.int .i64 (L : Nat)))), (6, .t (.v (.int .i64 (a.length : Nat)))), (7, .own 15 0 (m + 1)), (8, .t (.v (.int .i64 (m + 1 : Nat))))]) (fun m => ovH (lkH [(15, .nest 24 (NL ((lagC a L).take (m + 1))) [] noRem)]) noFam) (fun m => L - m)
    0 (famN_0 (H := fun m => [(15, .nest 24 (NL ((lagC a L).take (m + 1))) [] noRem)]) 0 (by omega) ⟨rfl, rfl, rfl, rfl, rfl, trivial⟩ ⟨NL_same rfl, trivial⟩) (fun m hm => ?_)
  have hnl : (NL ((lagC a L).take (m + 1))).length = m + 1 := by rw [NL_len, List.length_take, hcl]; omega
  refine V2 ?_
  refine awp_cond (b := _) rfl (fun h => ?_) (fun h => ?_)
  · simp only [icmp, decide_eq_true_eq] at h
    have hmL : m < L := by omega
    have hcut : ((a.take (a.length - (m + 1))).drop (L - (m + 1))).length = a.length - L := by simp; omega
    refine V2 ?_
    (first | (refine kw_r (q_slice_tree (L - (m + 1)) (a.length - (m + 1)) tyOk rfl rfl rfl rfl rfl rfl rfl (by exact ⟨_, _, rfl, by omega⟩) (by exact ⟨_, _, rfl, by omega⟩) (by omega) (by simp only [T.len]; omega)) (h := ?_)) | (refine ky_r (q_slice_tree (L - (m + 1)) (a.length - (m + 1)) tyOk rfl rfl rfl rfl rfl rfl rfl (by exact ⟨_, _, rfl, by omega⟩) (by exact ⟨_, _, rfl, by omega⟩) (by omega) (by simp only [T.len]; omega)) (h := ?_)))
    refine V2 ?_
    (first | (refine kc_s (cloneF_c ((a.take (a.length - (m + 1))).drop (L - (m + 1))) (by omega)) (h := ?_)) | (refine kz_s (cloneF_c ((a.take (a.length - (m + 1))).drop (L - (m + 1))) (by omega)) (h := ?_)))
    refine V2 ?_
    rw [hcut]
    (refine kw_rs (q_bslice_nest (L := [.own (cid 30 0) 0 (a.length - L)]) [cid 30 0] tyOk rfl rfl rfl rfl rfl rfl rfl rfl rfl rfl rfl rfl rfl) (h := ?_))
    refine V2 ?_
    (refine kw_rs (q_app_nest (m := 1) (NL_good _) (own1_good _ _) hnl rfl tyOk rfl rfl rfl rfl rfl rfl rfl rfl rfl rfl rfl rfl rfl rfl rfl (by simp only []; omega) (by omega)) (h := ?_))
    refine V2 ?_
    exact ⟨m + 1, by omega, famN_0 (H := fun m => [(15, .nest 24 (NL ((lagC a L).take (m + 1))) [] noRem)]) (m + 1) (by omega) ⟨rfl, rfl, rfl, rfl, iE9' (by omega), trivial⟩ ⟨by rw [← lagC_take a hmL]; exact NL_bto rfl rfl rfl hcut.symm rfl, trivial⟩⟩
  simp only [icmp, decide_eq_false_iff_not] at h
  obtain rfl : m = L := by omega
  rw [List.take_of_length_le (by omega)]
  have hdr : (a.drop m).length = a.length - m := List.length_drop ..
  have hdr2 : (a.take a.length).drop m = a.drop m := by rw [List.take_length]
  refine u_x ?_
  refine u_q ?_
  refine u_g ?_
  repeat (first | refine kx_q ?_ | refine kxd_q ?_ | refine kw_s ?_ | refine kw_t ?_ | refine kw_k ?_ | refine ky_s ?_ | refine ky_t ?_ | refine ky_k ?_)
  (first | (refine kw_r (q_slice_tree m a.length tyOk rfl rfl rfl rfl rfl rfl rfl (by exact ⟨_, _, rfl, rfl⟩) (by exact rfl) (by omega) (by simp only [T.len]; omega)) (h := ?_)) | (refine ky_r (q_slice_tree m a.length tyOk rfl rfl rfl rfl rfl rfl rfl (by exact ⟨_, _, rfl, rfl⟩) (by exact rfl) (by omega) (by simp only [T.len]; omega)) (h := ?_)))
  rw [hdr2]
  repeat (first | refine kx_q ?_ | refine kxd_q ?_ | refine kw_s ?_ | refine kw_t ?_ | refine kw_k ?_ | refine ky_s ?_ | refine ky_t ?_ | refine ky_k ?_)
  (first | (refine kc_s (cloneF_c (a.drop m) (by omega)) (h := ?_)) | (refine kz_s (cloneF_c (a.drop m) (by omega)) (h := ?_)))
  rw [hdr]
  repeat (first | refine kx_q ?_ | refine kxd_q ?_ | refine kw_s ?_ | refine kw_t ?_ | refine kw_k ?_ | refine ky_s ?_ | refine ky_t ?_ | refine ky_k ?_)
  refine u_n ?_
  refine awp_off [(4, .own 15 0 (m + 1)), (5, .own (cid 37 0) 0 (a.length - m))] [(15, .sl 24 (.ffl (lagC a m))), (cid 37 0, .sl 30 (.fl (a.drop m)))]
    ⟨rfl, rfl, trivial⟩ ⟨NL_ffl rfl, .inl rfl, trivial⟩ ?_
  refine u_r ?_
  refine ret_ok tyOk (by first | exact .inr rfl | exact .inl rfl) (pi2 15 (cid 37 0)) rfl (by repeat (first | exact .nil | (apply ResAl.cons; first | exact .tmp | exact .cell rfl rfl rfl rfl rfl rfl | exact .cell1 rfl rfl rfl rfl rfl))) ?_ ⟨rfl, rfl, trivial⟩ (injO_pi2 _ _ (by decide) _ _)
  repeat' (first | exact RetRelL.nil | refine RetRel.nil rfl ?_ | refine RetRelL.cons ?_ ?_ | refine rr_tup ?_ | refine rr_agg ?_ | refine rr_own rfl ?_ | exact RetRel.arg | exact RetRel.argc | refine rr_t ?_)
  all_goals rfl
end Go.Proofs.Ytpdnjcblkjjegaa

