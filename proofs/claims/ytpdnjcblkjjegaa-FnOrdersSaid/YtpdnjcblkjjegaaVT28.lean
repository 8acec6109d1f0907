import Derived.Test.YtpdnjcblkjjegaaVT26
set_option linter.unusedVariables false
set_option linter.unusedSimpArgs false
set_option maxRecDepth 20000
set_option maxHeartbeats 8000000
namespace Go.Proofs.Ytpdnjcblkjjegaa
open Go.Aw
attribute [local irreducible] QRun LexD AWp TCall TMut

def dotN (a b : List Nat) : Nat → Nat
  | 0 => 0
  | n + 1 => fop .add .f32 (dotN a b n) (fop .mul .f32 (a.getD n 0) (b.getD n 0))
def dotF (a b : List Nat) : Nat := dotN a b a.length
def lessL (l : List Nat) (m : Nat) : List Nat := l.map fun x => fop .sub .f32 x m
theorem lessL_len (l : List Nat) (m : Nat) : (lessL l m).length = l.length := by simp [lessL]
def sqF (l : List Nat) : Nat := dotF (lessL l (meanF l)) (lessL l (meanF l))
def inR (n lo hi : Int) : Bool := decide (lo ≤ n) && decide (n ≤ hi)
theorem inR_t {n lo hi : Int} : inR n lo hi = true ↔ lo ≤ n ∧ n ≤ hi := by simp [inR]
theorem dot_c (a b : List Nat) (hl : a.length ≤ 9223372036854775807) (h : a.length ≤ b.length) : TCall Try.prog 73 [.fl a, .fl b] (.t (.f .f32 (dotF a b))) [] := by
  refine tcall_of Try.func73 rfl (by kernel_rfl) (Nat.le_of_ble_eq_true rfl) rfl ?_
  simp only [argsL, argAV, argCs, argS]
  refine V3 ?_
  refine awp_loop (X := Nat) (fun i => i ≤ a.length) (fun i => [(1, .arg 1 (.fl b)), (5, .t (.f .f32 (dotN a b i))), (8, .arg 0 (.fl a)), (9, .t (.v (.int .i64 a.length))), (10, .t (.v (.int .i64 i)))]) (fun _ => []) (fun i => a.length - i)
    0 ⟨by omega, fun i => i, ⟨rfl, rfl, rfl, rfl, rfl, trivial⟩, trivial, injOn_id _⟩ (fun i hi => ?_)
  refine V3 ?_
  refine awp_if rfl (fun h1 => ?_) (fun h1 => ?_)
  · simp only [icmp, decide_eq_true_eq] at h1
    refine V1 ?_
    exact ⟨i + 1, by omega, by omega, fun i => i, ⟨rfl, rfl, rfl, rfl, rfl, trivial⟩, trivial, injOn_id _⟩
  · simp only [icmp, decide_eq_false_iff_not] at h1
    have : i = a.length := by omega
    subst this
    refine V3 ?_
    refine u_0 ?_
    repeat' (first | exact RetRelL.nil | refine RetRel.nil rfl ?_ | refine RetRelL.cons ?_ ?_ | refine rr_tup ?_ | refine rr_agg ?_ | refine rr_own rfl ?_ | exact RetRel.arg | exact RetRel.argc | refine rr_t ?_)
    rfl
theorem lessOne_c (l : List Nat) (m : Nat) (hl : l.length ≤ 1048576) : TCall Try.prog 71 [.fl l, .f .f32 m] (.own 0 (lessL l m).length) [(0, .sl 30 (.fl (lessL l m)))] := by
  refine tcall_of Try.func71 rfl (by kernel_rfl) (Nat.le_of_ble_eq_true rfl) rfl ?_
  simp only [argsL, argAV, argCs, argS]
  refine V3 ?_
  refine awp_loop (X := Nat) (fun i => i ≤ l.length) (fun i => [(1, .t (.f .f32 m)), (5, .own 8 0 i), (9, .arg 0 (.fl l)), (10, .t (.v (.int .i64 l.length))), (11, .t (.v (.int .i64 i)))]) (fun i => [(8, .sl 30 (.fl ((lessL l m).take i)))]) (fun i => l.length - i)
    0 ⟨by omega, fun i => i, ⟨rfl, rfl, rfl, rfl, rfl, trivial⟩, ⟨rfl, trivial⟩, injOn_id _⟩ (fun i hi => ?_)
  have hz : ((lessL l m).take i).length = i := by simp [lessL]; omega
  refine V3 ?_
  refine awp_if rfl (fun h => ?_) (fun h => ?_)
  · simp only [icmp, decide_eq_true_eq] at h
    refine V1 ?_
    (first | refine a_s (hn := by exact hz) (h := ?_) | refine b_s (hn := by exact hz) (h := ?_))
    refine V1 ?_
    exact ⟨i + 1, by omega, by omega, fun i => i, ⟨rfl, own_eq (by simp only [T.app, T.len, List.length_append, hz]; rfl), rfl, rfl, rfl, trivial⟩, ⟨sl_eq (congrArg T.fl (take_snoc (by simp [lessL]; omega) (getD_map (by omega)))), trivial⟩, injOn_id _⟩
  · simp only [icmp, decide_eq_false_iff_not] at h
    have : i = l.length := by omega
    subst this
    refine V3 ?_
    refine ret_ok tyOk (by first | exact .inr rfl | exact .inl rfl) (pi1 8) rfl (by repeat (first | exact .nil | (apply ResAl.cons; first | exact .tmp | exact .cell rfl rfl rfl rfl rfl rfl | exact .cell1 rfl rfl rfl rfl rfl))) ?_ ⟨sl_eq (congrArg T.fl (List.take_of_length_le (by simp [lessL]))), trivial⟩ (injO_1 _ _ _)
    repeat' (first | exact RetRelL.nil | refine RetRel.nil rfl ?_ | refine RetRelL.cons ?_ ?_ | refine rr_tup ?_ | refine rr_agg ?_ | refine rr_own rfl ?_ | exact RetRel.arg | exact RetRel.argc | refine rr_t ?_)
    all_goals simp [lessL]
theorem mean_c (l : List Nat) (hl : l.length ≤ 9223372036854775807) : TCall Try.prog 72 [.fl l] (.t (.f .f32 (meanF l))) [] := by
  refine tcall_of Try.func72 rfl (by kernel_rfl) (Nat.le_of_ble_eq_true rfl) rfl ?_
  simp only [argsL, argAV, argCs, argS]
  refine V3 ?_
  refine c_q (addUp_c _ hl) (h := ?_)
  refine V3 ?_
  refine u_0 ?_
  repeat' (first | exact RetRelL.nil | refine RetRel.nil rfl ?_ | refine RetRelL.cons ?_ ?_ | refine rr_tup ?_ | refine rr_agg ?_ | refine rr_own rfl ?_ | exact RetRel.arg | exact RetRel.argc | refine rr_t ?_)
  rfl
theorem squares_c (l : List Nat) (hl : l.length ≤ 1048576) : TCall Try.prog 63 [.fl l] (.t (.f .f32 (sqF l))) [] := by
  have hll := lessL_len l (meanF l)
  refine tcall_of Try.func63 rfl (by kernel_rfl) (Nat.le_of_ble_eq_true rfl) rfl ?_
  simp only [argsL, argAV, argCs, argS]
  refine V3 ?_
  refine c_q (mean_c l (by omega)) (h := ?_)
  refine V3 ?_
  refine c_s (lessOne_c l (meanF l) hl) (h := ?_)
  refine V3 ?_
  refine c_q (dot_c (lessL l (meanF l)) (lessL l (meanF l)) (by omega) (Nat.le_refl _)) (h := ?_)
  refine V3 ?_
  refine u_0 ?_
  repeat' (first | exact RetRelL.nil | refine RetRel.nil rfl ?_ | refine RetRelL.cons ?_ ?_ | refine rr_tup ?_ | refine rr_agg ?_ | refine rr_own rfl ?_ | exact RetRel.arg | exact RetRel.argc | refine rr_t ?_)
  rfl
theorem isSer_len {l : List Nat} (h : isSer l = true) : l.length ≤ 96 ∧ 1 ≤ l.length := by simp [isSer] at h; omega
theorem within_c (n lo hi : Int) : TCall Try.prog 61 [.v (.int .i64 n), .v (.int .i64 lo), .v (.int .i64 hi)] (.t (.v (.bool (inR n lo hi)))) [] := by
  refine tcall_of Try.func61 rfl (by kernel_rfl) (Nat.le_of_ble_eq_true rfl) rfl ?_
  simp only [argsL, argAV, argCs, argS]
  refine V3 ?_
  refine lex_if rfl rfl rfl (fun h => ?_) (fun h => ?_)
  · simp only [icmp, decide_eq_true_eq] at h
    refine V3 ?_
    refine u_0 ?_
    repeat' (first | exact RetRelL.nil | refine RetRel.nil rfl ?_ | refine RetRelL.cons ?_ ?_ | refine rr_tup ?_ | refine rr_agg ?_ | refine rr_own rfl ?_ | exact RetRel.arg | exact RetRel.argc | refine rr_t ?_)
    simp [inR, icmp, h]
  · simp only [icmp, decide_eq_false_iff_not] at h
    refine V3 ?_
    refine u_0 ?_
    repeat' (first | exact RetRelL.nil | refine RetRel.nil rfl ?_ | refine RetRelL.cons ?_ ?_ | refine rr_tup ?_ | refine rr_agg ?_ | refine rr_own rfl ?_ | exact RetRel.arg | exact RetRel.argc | refine rr_t ?_)
    simp [inR, h]
    try omega
theorem l00In_c (n lo hi : Int) : TCall Try.prog 59 [.v (.int .i64 n), .v (.int .i64 lo), .v (.int .i64 hi)] (.t (.v (.bool (inR n lo hi)))) [] := by
  refine tcall_of Try.func59 rfl (by kernel_rfl) (Nat.le_of_ble_eq_true rfl) rfl ?_
  simp only [argsL, argAV, argCs, argS]
  refine V3 ?_
  refine lex_if rfl rfl rfl (fun h => ?_) (fun h => ?_)
  · simp only [icmp, decide_eq_true_eq] at h
    refine V3 ?_
    refine u_0 ?_
    repeat' (first | exact RetRelL.nil | refine RetRel.nil rfl ?_ | refine RetRelL.cons ?_ ?_ | refine rr_tup ?_ | refine rr_agg ?_ | refine rr_own rfl ?_ | exact RetRel.arg | exact RetRel.argc | refine rr_t ?_)
    simp [inR, icmp, h]
  · simp only [icmp, decide_eq_false_iff_not] at h
    refine V3 ?_
    refine u_0 ?_
    repeat' (first | exact RetRelL.nil | refine RetRel.nil rfl ?_ | refine RetRelL.cons ?_ ?_ | refine rr_tup ?_ | refine rr_agg ?_ | refine rr_own rfl ?_ | exact RetRel.arg | exact RetRel.argc | refine rr_t ?_)
    simp [inR, h]
    try omega
theorem less_c (a b : List Nat) (hl : a.length ≤ b.length) (ha : a.length ≤ 1048576) : TCall Try.prog 104 [.fl a, .fl b] (.own 0 (zsub a b).length) [(0, .sl 30 (.fl (zsub a b)))] := by
  refine tcall_of Try.func104 rfl (by kernel_rfl) (Nat.le_of_ble_eq_true rfl) rfl ?_
  simp only [argsL, argAV, argCs, argS]
  refine V3 ?_
  refine awp_loop (X := Nat) (fun i => i ≤ a.length) (fun i => [(1, .arg 1 (.fl b)), (5, .own 8 0 i), (9, .arg 0 (.fl a)), (10, .t (.v (.int .i64 a.length))), (11, .t (.v (.int .i64 i)))]) (fun i => [(8, .sl 30 (.fl ((zsub a b).take i)))]) (fun i => a.length - i)
    0 ⟨by omega, fun i => i, ⟨rfl, rfl, rfl, rfl, rfl, trivial⟩, ⟨rfl, trivial⟩, injOn_id _⟩ (fun i hi => ?_)
  have hz : ((zsub a b).take i).length = i := by simp [zsub]; omega
  refine V3 ?_
  refine awp_if rfl (fun h => ?_) (fun h => ?_)
  · simp only [icmp, decide_eq_true_eq] at h
    refine V1 ?_
    (first | refine a_s (hn := by exact hz) (h := ?_) | refine b_s (hn := by exact hz) (h := ?_))
    refine V1 ?_
    exact ⟨i + 1, by omega, by omega, fun i => i, ⟨rfl, own_eq (by simp only [T.app, T.len, List.length_append, hz]; rfl), rfl, rfl, rfl, trivial⟩, ⟨sl_eq (congrArg T.fl (take_snoc (by simp [zsub]; omega) (getD_mapR _ (by omega)))), trivial⟩, injOn_id _⟩
  · simp only [icmp, decide_eq_false_iff_not] at h
    have : i = a.length := by omega
    subst this
    refine V3 ?_
    refine ret_ok tyOk (by first | exact .inr rfl | exact .inl rfl) (pi1 8) rfl (by repeat (first | exact .nil | (apply ResAl.cons; first | exact .tmp | exact .cell rfl rfl rfl rfl rfl rfl | exact .cell1 rfl rfl rfl rfl rfl))) ?_ ⟨sl_eq (congrArg T.fl (List.take_of_length_le (by simp [zsub]))), trivial⟩ (injO_1 _ _ _)
    repeat' (first | exact RetRelL.nil | refine RetRel.nil rfl ?_ | refine RetRelL.cons ?_ ?_ | refine rr_tup ?_ | refine rr_agg ?_ | refine rr_own rfl ?_ | exact RetRel.arg | exact RetRel.argc | refine rr_t ?_)
    all_goals simp [zsub]
end Go.Proofs.Ytpdnjcblkjjegaa

