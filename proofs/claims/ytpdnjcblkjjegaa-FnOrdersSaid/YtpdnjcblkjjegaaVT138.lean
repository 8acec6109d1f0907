import Derived.Test.YtpdnjcblkjjegaaVT137
import Derived.Test.YtpdnjcblkjjegaaVT26
set_option linter.unusedVariables false
set_option linter.unusedSimpArgs false
set_option maxRecDepth 20000
set_option maxHeartbeats 8000000
namespace Go.Proofs.Ytpdnjcblkjjegaa
open Go.Aw

/-! ### MovingParts, the reference's: its head -/
theorem LN_0 (h : T) (g : List Nat) : LN h g 0 = [.t h] := rfl
theorem LN_first {η η' : Hp} {g : List Nat} {i id : Nat} {e ef : TypeId} (h1 : η i = some (.nest e [.own id 0 1] [id] noRem)) (h2 : η id = some (.sl ef (.fl [0]))) (h3 : (η' id).isSome = false) : BTo (fun i => i) η η' i (.nest e (LN (.fl [0]) g 0) [] noRem) := by
  rw [LN_0]
  refine .inl ⟨_, _, h1, own_good id 1, rfl, fun k v hv => ?_⟩
  have h0 : k = 0 := by
    cases k with
    | zero => rfl
    | succ n => simp at hv
  subst h0
  simp only [List.getElem?_cons_zero, Option.some.injEq] at hv
  subst hv
  exact ⟨_, rfl, .inr ⟨.fl [0], id, ef, rfl, rfl, h2, fun j hj e => by simp only at e; subst e; rw [h3] at hj; cases hj⟩⟩
theorem mpF_eq {a : List Nat} {o A : Nat} {r : Int} (h : mpOk a (o : Int) r = true) (hA : r + (o : Int) = (A : Int)) : mpF a (o : Int) r = mpE (mpGl a o A) o A := by
  unfold mpF
  rw [h, hA]; rfl
theorem take_snoc' {l : List Nat} {n x : Nat} (h : n < l.length) (hx : l.getD n 0 = x) : l.take n ++ [x] = l.take (n + 1) := by
  subst hx
  rw [List.take_succ_eq_append_getElem h, List.getD_eq_getElem?_getD, List.getElem?_eq_getElem h]; rfl
attribute [local irreducible] mpTm QRun LexD AWp TCall TMut fop fint fcmp fconv mpT mpV LN mpR mpX mpQ mpS mpW mpGl mpF mpE dlF
theorem specMP_c (a : List Nat) (o r : Int) (ha : a.length ≤ 9223372036854775807) : TCall Try.prog 29 [.fl a, .v (.int .i64 o), .v (.int .i64 r)] (opR (mpF a o r)) (opH (mpF a o r)) := by
  have bad : ¬ (isSer a = true ∧ inR o 1 6 = true ∧ inR r 0 32 = true) → mpF a o r = ⟨[], 0, false⟩ := fun hc => by
    unfold mpF; rw [if_neg]; intro hk; apply hc
    unfold mpOk at hk
    simpa only [Bool.and_eq_true, and_assoc] using hk
  refine tcall_of Try.func29 rfl (by kernel_rfl) (Nat.le_of_ble_eq_true rfl) rfl ?_
  simp only [argsL, argAV, argCs, argS]
  refine V1 ?_
  (first | refine c_q (specSer_c a ha) (h := ?_) | refine z_q (specSer_c a ha) (h := ?_))
  refine V1 ?_
  refine lex_if rfl rfl rfl (fun h1 => ?_) (fun h1 => ?_)
  · simp only [Bool.not_eq_true'] at h1
    refine V5 ?_
    refine awp_ifT rfl rfl ?_
    refine V5 ?_
    rw [bad (fun hc => by first | (simp only [h1, Bool.false_eq_true, false_and, and_false] at hc; done) | omega)]
    (refine u_1 ?_; (repeat' (first | exact RetRelL.nil | refine RetRel.nil rfl ?_ | refine RetRelL.cons ?_ ?_ | refine rr_tup ?_ | refine rr_agg ?_ | refine rr_own rfl ?_ | exact RetRel.arg | exact RetRel.argc | refine rr_t ?_)); all_goals rfl)
  simp only [Bool.not_eq_false'] at h1
  refine V1 ?_
  (first | refine c_q (l00In_c _ _ _) (h := ?_) | refine z_q (l00In_c _ _ _) (h := ?_))
  refine V1 ?_
  refine lex_if rfl rfl rfl (fun h2 => ?_) (fun h2 => ?_)
  · simp only [Bool.not_eq_true'] at h2
    refine V5 ?_
    refine awp_ifT rfl rfl ?_
    refine V5 ?_
    rw [bad (fun hc => by first | (simp only [h2, Bool.false_eq_true, false_and, and_false] at hc; done) | omega)]
    (refine u_1 ?_; (repeat' (first | exact RetRelL.nil | refine RetRel.nil rfl ?_ | refine RetRelL.cons ?_ ?_ | refine rr_tup ?_ | refine rr_agg ?_ | refine rr_own rfl ?_ | exact RetRel.arg | exact RetRel.argc | refine rr_t ?_)); all_goals rfl)
  simp only [Bool.not_eq_false'] at h2
  refine V1 ?_
  (first | refine c_q (l00In_c _ _ _) (h := ?_) | refine z_q (l00In_c _ _ _) (h := ?_))
  refine V1 ?_
  refine awp_if rfl (fun h3 => ?_) (fun h3 => ?_)
  · simp only [Bool.not_eq_true'] at h3
    refine V5 ?_
    rw [bad (fun hc => by first | (simp only [h3, Bool.false_eq_true, false_and, and_false] at hc; done) | omega)]
    (refine u_1 ?_; (repeat' (first | exact RetRelL.nil | refine RetRel.nil rfl ?_ | refine RetRelL.cons ?_ ?_ | refine rr_tup ?_ | refine rr_agg ?_ | refine rr_own rfl ?_ | exact RetRel.arg | exact RetRel.argc | refine rr_t ?_)); all_goals rfl)
  simp only [Bool.not_eq_false'] at h3
  have hl := isSer_len h1
  have ho := inR_t.1 h2
  have hr := inR_t.1 h3
  have hok : mpOk a o r = true := by unfold mpOk; rw [h1, h2, h3]; rfl
  obtain ⟨on, rfl⟩ : ∃ n : Nat, o = (n : Int) := ⟨o.toNat, by omega⟩
  obtain ⟨A, hA⟩ : ∃ n : Nat, r + (on : Int) = (n : Int) := ⟨(r + on).toNat, by omega⟩
  rw [mpF_eq hok hA]
  have hgl := mpGl_len a on A
  have hoff : (offL a).length = a.length := lessL_len _ _
  refine V1 ?_
  rw [hA]
  refine V1 ?_
  (first | (refine c_s (l03Off_c a (by omega)) (h := ?_)) | (refine z_s (l03Off_c a (by omega)) (h := ?_)))
  refine V5 ?_
  refine awp_loop (X := Nat) (fun k => k ≤ A + 1) (fun k => [(0, .arg 0 (.fl a)), (1, .t (.v (.int .i64 (on : Nat)))), (9, .t (.v (.int .i64 (A : Nat)))), (10, .own 41 0 (offL a).length), (11, .own 42 0 k), (12, .t (.v (.int .i64 (k : Nat))))]) (fun k => [(42, .sl 30 (.fl ((mpGl a on A).take k))), (41, .sl 30 (.fl (offL a)))]) (fun k => A + 1 - k)
    0 ⟨by omega, fun i => i, ⟨rfl, rfl, rfl, rfl, rfl, rfl, trivial⟩, ⟨rfl, rfl, trivial⟩, injOn_id _⟩ (fun k hk => ?_)
  have hz : ((mpGl a on A).take k).length = k := by rw [List.length_take, hgl]; omega
  refine V5 ?_
  refine awp_if rfl (fun h4 => ?_) (fun h4 => ?_)
  · simp only [icmp, decide_eq_true_eq] at h4
    have hget := mpGl_get (a := a) (o := on) (A := A) (k := k) (by omega)
    refine V5 ?_
    refine lex_if rfl rfl rfl (fun h5 => ?_) (fun h5 => ?_)
    · simp only [icmp, decide_eq_true_eq] at h5
      refine V5 ?_
      refine awp_if rfl (fun h6 => ?_) (fun h6 => ?_)
      · simp only [icmp, decide_eq_true_eq] at h6
        rw [if_pos (by omega)] at hget
        refine V5 ?_
        (first | (refine c_q (delayed_c (offL a) k (by omega) (by omega)) (h := ?_)) | (refine z_q (delayed_c (offL a) k (by omega) (by omega)) (h := ?_)))
        refine V5 ?_
        (first | refine a_s (hn := by exact hz) (h := ?_) | refine b_s (hn := by exact hz) (h := ?_))
        refine V5 ?_
        exact ⟨k + 1, by omega, by omega, fun i => i, ⟨rfl, rfl, rfl, rfl, own_eq (by simp only [T.app, T.len, List.length_append, hz]; rfl), iE9 (by omega), trivial⟩, ⟨sl_eq (congrArg T.fl (take_snoc' (by omega) hget)), rfl, trivial⟩, injOn_id _⟩
      · simp only [icmp, decide_eq_false_iff_not] at h6
        rw [if_neg (by omega)] at hget
        refine V5 ?_
        (first | refine a_s (hn := by exact hz) (h := ?_) | refine b_s (hn := by exact hz) (h := ?_))
        refine V5 ?_
        exact ⟨k + 1, by omega, by omega, fun i => i, ⟨rfl, rfl, rfl, rfl, own_eq (by simp only [T.app, T.len, List.length_append, hz]; rfl), iE9 (by omega), trivial⟩, ⟨sl_eq (congrArg T.fl (take_snoc' (by omega) hget)), rfl, trivial⟩, injOn_id _⟩
    · simp only [icmp, decide_eq_false_iff_not] at h5
      rw [if_neg (by omega)] at hget
      refine V5 ?_
      refine awp_ifF rfl rfl ?_
      refine V5 ?_
      (first | refine a_s (hn := by exact hz) (h := ?_) | refine b_s (hn := by exact hz) (h := ?_))
      refine V5 ?_
      exact ⟨k + 1, by omega, by omega, fun i => i, ⟨rfl, rfl, rfl, rfl, own_eq (by simp only [T.app, T.len, List.length_append, hz]; rfl), iE9 (by omega), trivial⟩, ⟨sl_eq (congrArg T.fl (take_snoc' (by omega) hget)), rfl, trivial⟩, injOn_id _⟩
  simp only [icmp, decide_eq_false_iff_not] at h4
  obtain rfl : k = A + 1 := by omega
  rw [List.take_of_length_le (by omega : (mpGl a on A).length ≤ A + 1)]
  refine V5 ?_
  refine w_rs (q_bslice_nest (L := [.own 73 0 1]) [73] tyOk rfl rfl rfl rfl rfl rfl rfl rfl rfl rfl rfl rfl rfl) (h := ?_)
  first | refine w_q ?_ | refine w_s ?_ | refine w_t ?_ | (refine w_k ?_)
  refine u_n ?_
  refine awp_wk0 [(1, .t (.v (.int .i64 (on : Nat)))), (9, .t (.v (.int .i64 (A : Nat)))), (11, .own 42 0 (A + 1)), (14, .own 72 0 1), (15, .own 74 0 1)]
    [(42, .sl 30 (.fl (mpGl a on A))), (72, .sl 30 (.fl (mpV (mpGl a on A) 0))), (74, .nest 24 (LN (.fl [0]) (mpGl a on A) 0) [] noRem)]
    ⟨rfl, rfl, rfl, rfl, rfl, trivial⟩ ⟨.inl rfl, .inl (sl_eq (by rw [mpV_0])), LN_first rfl rfl rfl, trivial⟩ (sMP_8 (by omega) (by omega) (by omega) hgl)
end Go.Proofs.Ytpdnjcblkjjegaa

