import Derived.Test.YtpdnjcblkjjegaaVT66
import Derived.Test.YtpdnjcblkjjegaaVT26
set_option linter.unusedVariables false
set_option linter.unusedSimpArgs false
set_option maxRecDepth 20000
set_option maxHeartbeats 8000000
namespace Go.Proofs.Ytpdnjcblkjjegaa
open Go.Aw
attribute [local irreducible] QRun LexD AWp TCall TMut fop fint fcmp fconv

theorem mix_all {A P : List Nat} (hA : A.length = P.length) : A.take P.length ++ P.drop P.length = A := by rw [List.drop_length, List.append_nil, ← hA, List.take_length]
theorem implPart_c (a : List Nat) (m : Int) (hl : a.length ≤ 1048576) : TCall Try.prog 62 [.fl a, .v (.int .i64 m)] (.tup [.own 0 (partF a m).1.length, .t (.v (.bool (partF a m).2))]) [(0, .sl 30 (.fl (partF a m).1))] := by
  have bad : ¬ ((selfF a m).2 = true ∧ (List.range m.toNat).all (plG (selfF a m).1) = true) → partF a m = ([], false) := fun hc => by
    unfold partF; rw [if_neg (by simpa only [Bool.and_eq_true] using hc)]
  refine tcall_of Try.func62 rfl (by kernel_rfl) (Nat.le_of_ble_eq_true rfl) rfl ?_
  simp only [argsL, argAV, argCs, argS]
  refine V1 ?_
  (first | refine c_s (implSelf_c a m hl) (h := ?_) | refine z_s (implSelf_c a m hl) (h := ?_))
  refine V1 ?_
  refine awp_if rfl (fun h1 => ?_) (fun h1 => ?_)
  · simp only [Bool.not_eq_true'] at h1
    refine V1 ?_
    rw [bad (fun hc => by rw [h1] at hc; simp at hc)]
    (refine u_1 ?_; (repeat' (first | exact RetRelL.nil | refine RetRel.nil rfl ?_ | refine RetRelL.cons ?_ ?_ | refine rr_tup ?_ | refine rr_agg ?_ | refine rr_own rfl ?_ | exact RetRel.arg | exact RetRel.argc | refine rr_t ?_)); all_goals rfl)
  simp only [Bool.not_eq_false'] at h1
  obtain ⟨q1, q2, q3, q4⟩ := selfF_ok h1
  obtain ⟨n, rfl⟩ : ∃ n : Nat, m = (n : Int) := ⟨m.toNat, by omega⟩
  simp only [Int.toNat_natCast] at q4 bad
  have hn : n ≤ 16 := by omega
  generalize hr : (selfF a (n : Int)).1 = r at *
  have hlo := plO_len r n
  refine V5 ?_
  refine awp_loop (X := Nat) (fun k => k ≤ n ∧ ∀ j, j < k → plG r j = true) (fun k => [(1, .t (.v (.int .i64 (n : Nat)))), (6, .own (cid 20 0) 0 r.length), (8, .own 25 0 k), (9, .own 26 0 (k + 1)), (10, .t (.v (.int .i64 ((k : Int) + 1))))]) (fun k => [(cid 20 0, .sl 30 (.fl r)), (25, .sl 30 (.fl ((plO r n).take k))), (26, .sl 30 (.fl (0 :: plP r k)))]) (fun k => n - k)
    0 ⟨⟨by omega, fun j hj => by omega⟩, fun i => i, ⟨rfl, rfl, rfl, rfl, rfl, trivial⟩, ⟨rfl, rfl, rfl, trivial⟩, injOn_id _⟩ (fun k hk => ?_)
  obtain ⟨hk, hok⟩ := hk
  have hz1 := plP_len r k
  have hz0 : (0 :: plP r k).length = k + 1 := by simp [hz1]
  have hz2 : ((plO r n).take k).length = k := by simp [hlo]; omega
  refine V3 ?_
  refine awp_if rfl (fun h => ?_) (fun h => ?_)
  · simp only [icmp, decide_eq_true_eq] at h
    refine V5 ?_
    refine awp_loop (X := Nat) (fun i => i ≤ k) (fun i => [(1, .t (.v (.int .i64 (n : Nat)))), (6, .own (cid 20 0) 0 r.length), (8, .own 25 0 k), (9, .own 26 0 (k + 1)), (10, .t (.v (.int .i64 ((k : Int) + 1)))), (11, .t (.f .f32 (plUp (plP r k) r k i))), (12, .t (.f .f32 (plDn (plP r k) r i))), (13, .t (.v (.int .i64 ((i : Int) + 1))))]) (fun i => [(cid 20 0, .sl 30 (.fl r)), (25, .sl 30 (.fl ((plO r n).take k))), (26, .sl 30 (.fl (0 :: plP r k)))]) (fun i => k - i)
      0 ⟨by omega, fun i => i, ⟨rfl, rfl, rfl, rfl, rfl, rfl, rfl, rfl, trivial⟩, ⟨rfl, rfl, rfl, trivial⟩, injOn_id _⟩ (fun i hi => ?_)
    refine V3 ?_
    refine awp_if rfl (fun h2 => ?_) (fun h2 => ?_)
    · simp only [icmp, decide_eq_true_eq] at h2
      refine V1 ?_
      (first | (refine w_r (q_idx_own (k - i) tyOk rfl rfl rfl rfl rfl rfl rfl (by omega) (by first | omega | (simp only [T.len]; omega) | assumption)) (h := ?_)) | (refine y_r (q_idx_own (k - i) tyOk rfl rfl rfl rfl rfl rfl rfl (by omega) (by first | omega | (simp only [T.len]; omega) | assumption)) (h := ?_)))
      refine V1 ?_
      exact ⟨i + 1, by omega, by omega, fun i => i, ⟨rfl, rfl, rfl, rfl, rfl, fE (by simp only [Nat.zero_add]; rfl), fE (by simp only [Nat.zero_add]; rfl), rfl, trivial⟩, ⟨rfl, rfl, rfl, trivial⟩, injOn_id _⟩
    simp only [icmp, decide_eq_false_iff_not] at h2
    obtain rfl : i = k := by omega
    refine V1 ?_
    refine awp_if rfl (fun h3 => ?_) (fun h3 => ?_)
    · refine V1 ?_
      rw [bad (fun hc => by have := List.all_eq_true.1 hc.2 i (List.mem_range.2 (by omega)); simp only [plG, plBe] at this; rw [h3] at this; simp at this)]
      (refine u_1 ?_; (repeat' (first | exact RetRelL.nil | refine RetRel.nil rfl ?_ | refine RetRelL.cons ?_ ?_ | refine rr_tup ?_ | refine rr_agg ?_ | refine rr_own rfl ?_ | exact RetRel.arg | exact RetRel.argc | refine rr_t ?_)); all_goals rfl)
    have hst : plG r i = true := by simp only [plG, plBe]; rw [h3]; rfl
    have ho : (plO r n).getD i 0 = plX (plP r i) r i := getD_mapR _ (by omega)
    have hA := plNx_len (plP r i) (plX (plP r i) r i) i
    refine V1 ?_
    (first | (refine c_s (cloneF_c (0 :: plP r i) (by omega)) (h := ?_)) | (refine z_s (cloneF_c (0 :: plP r i) (by omega)) (h := ?_)))
    refine V1 ?_
    refine awp_loop (X := Nat) (fun j => j ≤ i) (fun j => [(1, .t (.v (.int .i64 (n : Nat)))), (6, .own (cid 20 0) 0 r.length), (8, .own 25 0 i), (9, .own 26 0 (i + 1)), (10, .t (.v (.int .i64 ((i : Int) + 1)))), (14, .t (.f .f32 (plX (plP r i) r i))), (15, .own (cid 74 0) 0 (i + 1)), (16, .t (.v (.int .i64 ((j : Int) + 1))))]) (fun j => [(cid 20 0, .sl 30 (.fl r)), (25, .sl 30 (.fl ((plO r n).take i))), (26, .sl 30 (.fl (0 :: ((plNx (plP r i) (plX (plP r i) r i) i).take j ++ (plP r i).drop j)))), (cid 74 0, .sl 30 (.fl (0 :: plP r i)))]) (fun j => i - j)
      0 ⟨by omega, fun i => i, ⟨rfl, rfl, rfl, rfl, rfl, fE (by simp only [Nat.zero_add]; rfl), own_eq hz0, rfl, trivial⟩, ⟨rfl, rfl, rfl, rfl, trivial⟩, injOn_id _⟩ (fun j hj => ?_)
    have hz3 : (0 :: ((plNx (plP r i) (plX (plP r i) r i) i).take j ++ (plP r i).drop j)).length = i + 1 := by simp [hA, hz1]; omega
    refine V3 ?_
    refine awp_if rfl (fun h4 => ?_) (fun h4 => ?_)
    · simp only [icmp, decide_eq_true_eq] at h4
      refine V1 ?_
      (first | (refine w_r (q_idx_own (i - j - 1 + 1) tyOk rfl rfl rfl rfl rfl rfl rfl (by omega) (by first | omega | (simp only [T.len]; omega) | assumption)) (h := ?_)) | (refine y_r (q_idx_own (i - j - 1 + 1) tyOk rfl rfl rfl rfl rfl rfl rfl (by omega) (by first | omega | (simp only [T.len]; omega) | assumption)) (h := ?_)))
      refine V1 ?_
      exact ⟨j + 1, by omega, by omega, fun i => i, ⟨rfl, rfl, rfl, rfl, rfl, rfl, rfl, rfl, trivial⟩, ⟨rfl, rfl, sl_eq (congrArg T.fl (by
        simp only [Nat.zero_add, List.set_cons_succ, List.getD_cons_succ]
        rw [show Nat.add 0 j = j from Nat.zero_add j, set_mix (by omega) (by omega) (by simp only [plNx, getD_mapR _ (show j < i by omega)])])), rfl, trivial⟩, injOn_id _⟩
    simp only [icmp, decide_eq_false_iff_not] at h4
    obtain rfl : j = i := by omega
    have hmx : (plNx (plP r j) (plX (plP r j) r j) j).take j ++ (plP r j).drop j = plNx (plP r j) (plX (plP r j) r j) j := by
      have := mix_all (A := plNx (plP r j) (plX (plP r j) r j) j) (P := plP r j) (by omega)
      rwa [hz1] at this
    rw [hmx] at hz3
    rw [hmx]
    refine V1 ?_
    (first | refine a_s (hn := by exact hz3) (h := ?_) | refine b_s (hn := by exact hz3) (h := ?_))
    refine V1 ?_
    (first | refine a_s (hn := by exact hz2) (h := ?_) | refine b_s (hn := by exact hz2) (h := ?_))
    refine V1 ?_
    exact ⟨j + 1, by omega, ⟨by omega, fun q hq => (Nat.lt_or_eq_of_le (Nat.le_of_lt_succ hq)).elim (fun hq' => hok q hq') (fun hq' => by rw [hq']; exact hst)⟩, fun i => i, ⟨rfl, rfl, own_eq (by simp only [T.app, T.len, List.length_append, hz2]; rfl), own_eq (by simp only [T.app, T.len, List.length_append, hz3]; rfl), rfl, trivial⟩, ⟨rfl, sl_eq (congrArg T.fl (take_snoc (by omega) ho)), rfl, trivial⟩, injOn_id _⟩
  · simp only [icmp, decide_eq_false_iff_not] at h
    obtain rfl : k = n := by omega
    have hf : (plO r k).take k = plO r k := List.take_of_length_le (by omega)
    rw [hf]
    have hall : (List.range k).all (plG r) = true := List.all_eq_true.2 fun j hj => hok j (List.mem_range.1 hj)
    have hF : partF a (k : Int) = ifAllF (plO r k) := by
      unfold partF; rw [hr, h1, Int.toNat_natCast, hall]; rfl
    refine V3 ?_
    cases h5 : (plO r k).all fin with
    | true =>
      (first | (refine c_q (ifAll_t (plO r k) (by omega) h5) (h := ?_)) | (refine z_q (ifAll_t (plO r k) (by omega) h5) (h := ?_)))
      refine V3 ?_
      rw [show partF a (k : Int) = (plO r k, true) by rw [hF]; simp only [ifAllF, h5]; rfl]
      refine ret_ok tyOk (by first | exact .inr rfl | exact .inl rfl) (pi1 25) rfl (by repeat (first | exact .nil | (apply ResAl.cons; first | exact .tmp | exact .cell rfl rfl rfl rfl rfl rfl | exact .cell1 rfl rfl rfl rfl rfl))) ?_ ⟨rfl, trivial⟩ (injO_1 _ _ _)
      repeat' (first | exact RetRelL.nil | refine RetRel.nil rfl ?_ | refine RetRelL.cons ?_ ?_ | refine rr_tup ?_ | refine rr_agg ?_ | refine rr_own rfl ?_ | exact RetRel.arg | exact RetRel.argc | refine rr_t ?_)
      all_goals first | rfl | exact hlo.symm
    | false =>
      (first | (refine c_q (ifAll_f (plO r k) (by omega) h5) (h := ?_)) | (refine z_q (ifAll_f (plO r k) (by omega) h5) (h := ?_)))
      refine V3 ?_
      rw [show partF a (k : Int) = ([], false) by rw [hF]; simp only [ifAllF, h5]; rfl]
      (refine u_1 ?_; (repeat' (first | exact RetRelL.nil | refine RetRel.nil rfl ?_ | refine RetRelL.cons ?_ ?_ | refine rr_tup ?_ | refine rr_agg ?_ | refine rr_own rfl ?_ | exact RetRel.arg | exact RetRel.argc | refine rr_t ?_)); all_goals rfl)
end Go.Proofs.Ytpdnjcblkjjegaa

set_option linter.unusedVariables false
set_option linter.unusedSimpArgs false
set_option maxRecDepth 20000
set_option maxHeartbeats 8000000
namespace Go.Proofs.Ytpdnjcblkjjegaa
open Go.Aw
attribute [local irreducible] QRun LexD AWp TCall TMut fop fint fcmp fconv

/-! ### terms told by likes -/
def opP (q : List Nat) : Nat → List Nat
  | 0 => []
  | k + 1 => plNx (opP q k) (q.getD k 0) k ++ [q.getD k 0]
theorem opP_len (q : List Nat) : ∀ k, (opP q k).length = k
  | 0 => rfl
  | k + 1 => by simp [opP, plNx_len]
def opS (a q : List Nat) : Nat → Nat
  | 0 => fop .quo .f32 (dlF (offL a) 0) (fint .f32 (a.length : Nat))
  | k + 1 => fop .mul .f32 (opS a q k) (fop .sub .f32 1065353216 (fop .mul .f32 (q.getD k 0) (q.getD k 0)))
structure OP where
  p : List Nat
  s : Nat
  ok : Bool
def own0F (a : List Nat) (m : Int) : OP := if (partF a m).2 then ⟨opP (partF a m).1 (partF a m).1.length, opS a (partF a m).1 (partF a m).1.length, (opP (partF a m).1 (partF a m).1.length).all fin && fin (opS a (partF a m).1 (partF a m).1.length)⟩ else ⟨[], 0, false⟩
def ownF (a : List Nat) (m : Int) : OP := if inR m 0 6 && (own0F a m).ok then own0F a m else ⟨[], 0, false⟩
theorem own0F_len (a : List Nat) (m : Int) : (own0F a m).p.length ≤ 16 := by
  unfold own0F
  split
  · rw [opP_len]; exact partF_le a m
  · simp
theorem ownF_len (a : List Nat) (m : Int) : (ownF a m).p.length ≤ 16 := by
  unfold ownF
  split
  · exact own0F_len a m
  · simp
theorem partF_ser {a : List Nat} {m : Int} (h : (partF a m).2 = true) : isSer a = true := by
  unfold partF at h
  split at h
  · rename_i hk
    simp only [Bool.and_eq_true] at hk
    exact (selfF_ok hk.1).1
  · cases h
theorem own0F_ser {a : List Nat} {m : Int} (h : (own0F a m).ok = true) : isSer a = true := by
  unfold own0F at h
  split at h
  · rename_i hk; exact partF_ser hk
  · cases h
abbrev opR (o : OP) : RV := .tup [.own 0 o.p.length, .t (.f .f32 o.s), .t (.v (.bool o.ok))]
abbrev opH (o : OP) : List (Nat × Blk) := [(0, .sl 30 (.fl o.p))]

theorem l05Past_c (a : List Nat) (m : Int) (hl : a.length ≤ 1048576) : TCall Try.prog 60 [.fl a, .v (.int .i64 m)] (opR (own0F a m)) (opH (own0F a m)) := by
  refine tcall_of Try.func60 rfl (by kernel_rfl) (Nat.le_of_ble_eq_true rfl) rfl ?_
  simp only [argsL, argAV, argCs, argS]
  refine V1 ?_
  (first | refine c_s (specPart_c a m hl) (h := ?_) | refine z_s (specPart_c a m hl) (h := ?_))
  refine V1 ?_
  refine awp_if rfl (fun h1 => ?_) (fun h1 => ?_)
  · simp only [Bool.not_eq_true'] at h1
    refine V1 ?_
    rw [show own0F a m = ⟨[], 0, false⟩ by unfold own0F; rw [h1]; rfl]
    (refine u_1 ?_; (repeat' (first | exact RetRelL.nil | refine RetRel.nil rfl ?_ | refine RetRelL.cons ?_ ?_ | refine rr_tup ?_ | refine rr_agg ?_ | refine rr_own rfl ?_ | exact RetRel.arg | exact RetRel.argc | refine rr_t ?_)); all_goals rfl)
  simp only [Bool.not_eq_false'] at h1
  have hq := partF_le a m
  have hF : own0F a m = ⟨opP (partF a m).1 (partF a m).1.length, opS a (partF a m).1 (partF a m).1.length, (opP (partF a m).1 (partF a m).1.length).all fin && fin (opS a (partF a m).1 (partF a m).1.length)⟩ := by unfold own0F; rw [h1]; rfl
  generalize hr : (partF a m).1 = q at *
  have hz0 : (offL a).length = a.length := lessL_len _ _
  refine V5 ?_
  (first | refine c_s (l03Off_c a hl) (h := ?_) | refine z_s (l03Off_c a hl) (h := ?_))
  refine V1 ?_
  (first | (refine c_q (delayed_c (offL a) 0 (by omega) (by omega)) (h := ?_)) | (refine z_q (delayed_c (offL a) 0 (by omega) (by omega)) (h := ?_)))
  refine V1 ?_
  refine awp_loop (X := Nat) (fun k => k ≤ q.length) (fun k => [(7, .own (cid 19 0) 0 q.length), (10, .t (.f .f32 (opS a q k))), (11, .own 33 0 k), (35, .t (.v (.int .i64 (q.length : Nat)))), (36, .t (.v (.int .i64 k)))]) (fun k => [(cid 19 0, .sl 30 (.fl q)), (33, .sl 30 (.fl (opP q k)))]) (fun k => q.length - k)
    0 ⟨by omega, fun i => i, ⟨rfl, rfl, rfl, rfl, rfl, trivial⟩, ⟨rfl, rfl, trivial⟩, injOn_id _⟩ (fun k hk => ?_)
  have hz1 := opP_len q k
  refine V3 ?_
  refine awp_if rfl (fun h => ?_) (fun h => ?_)
  · simp only [icmp, decide_eq_true_eq] at h
    refine V5 ?_
    refine awp_loop (X := Nat) (fun j => j ≤ k) (fun j => [(7, .own (cid 19 0) 0 q.length), (10, .t (.f .f32 (opS a q k))), (11, .own 33 0 k), (12, .t (.v (.int .i64 k))), (13, .t (.f .f32 (q.getD k 0))), (14, .own 43 0 j), (35, .t (.v (.int .i64 (q.length : Nat)))), (36, .t (.v (.int .i64 k))), (45, .t (.v (.int .i64 k))), (46, .t (.v (.int .i64 j)))]) (fun j => [(cid 19 0, .sl 30 (.fl q)), (33, .sl 30 (.fl (opP q k))), (43, .sl 30 (.fl ((plNx (opP q k) (q.getD k 0) k).take j)))]) (fun j => k - j)
      0 ⟨by omega, fun i => i, ⟨rfl, rfl, rfl, rfl, fE (by simp only [Nat.zero_add]), rfl, rfl, rfl, rfl, rfl, trivial⟩, ⟨rfl, rfl, rfl, trivial⟩, injOn_id _⟩ (fun j hj => ?_)
    have hz3 : ((plNx (opP q k) (q.getD k 0) k).take j).length = j := by simp [plNx_len]; omega
    refine V3 ?_
    refine awp_if rfl (fun h4 => ?_) (fun h4 => ?_)
    · simp only [icmp, decide_eq_true_eq] at h4
      refine V1 ?_
      (first | (refine w_r (q_idx_own (k - j - 1) tyOk rfl rfl rfl rfl rfl rfl rfl (by omega) (by first | omega | (simp only [T.len]; omega) | assumption)) (h := ?_)) | (refine y_r (q_idx_own (k - j - 1) tyOk rfl rfl rfl rfl rfl rfl rfl (by omega) (by first | omega | (simp only [T.len]; omega) | assumption)) (h := ?_)))
      refine V1 ?_
      (first | refine a_s (hn := by exact hz3) (h := ?_) | refine b_s (hn := by exact hz3) (h := ?_))
      refine V1 ?_
      exact ⟨j + 1, by omega, by omega, fun i => i, ⟨rfl, rfl, rfl, rfl, rfl, own_eq (by simp only [T.app, T.len, List.length_append, hz3]; rfl), rfl, rfl, rfl, rfl, trivial⟩, ⟨rfl, rfl, sl_eq (congrArg T.fl (take_snoc (by rw [plNx_len]; omega) (by simp only [plNx, getD_mapR _ (show j < k by omega), Nat.zero_add]))), trivial⟩, injOn_id _⟩
    simp only [icmp, decide_eq_false_iff_not] at h4
    obtain rfl : j = k := by omega
    refine V1 ?_
    (first | refine a_s (hn := by exact hz3) (h := ?_) | refine b_s (hn := by exact hz3) (h := ?_))
    refine V1 ?_
    exact ⟨j + 1, by omega, by omega, rn1 33 43, ⟨rfl, rfl, own_eq (by simp only [T.app, T.len, List.length_append, hz3]; rfl), rfl, rfl, trivial⟩, ⟨rfl, sl_eq (congrArg T.fl (by rw [List.take_of_length_le (by rw [plNx_len]; omega)]; rfl)), trivial⟩, injOn_dec rfl⟩
  · simp only [icmp, decide_eq_false_iff_not] at h
    obtain rfl : k = q.length := by omega
    refine V1 ?_
    (first | (refine c_q (l02Finite_c (opP q q.length) (by omega)) (h := ?_)) | (refine z_q (l02Finite_c (opP q q.length) (by omega)) (h := ?_)))
    refine V1 ?_
    refine lex_if rfl rfl rfl (fun h5 => ?_) (fun h5 => ?_)
    · refine V1 ?_
      (first | (refine c_q (l01Finite_c (opS a q q.length)) (h := ?_)) | (refine z_q (l01Finite_c (opS a q q.length)) (h := ?_)))
      refine V1 ?_
      rw [hF]
      refine ret_ok tyOk (by first | exact .inr rfl | exact .inl rfl) (pi1 33) rfl (by repeat (first | exact .nil | (apply ResAl.cons; first | exact .tmp | exact .cell rfl rfl rfl rfl rfl rfl | exact .cell1 rfl rfl rfl rfl rfl))) ?_ ⟨rfl, trivial⟩ (injO_1 _ _ _)
      repeat' (first | exact RetRelL.nil | refine RetRel.nil rfl ?_ | refine RetRelL.cons ?_ ?_ | refine rr_tup ?_ | refine rr_agg ?_ | refine rr_own rfl ?_ | exact RetRel.arg | exact RetRel.argc | refine rr_t ?_)
      all_goals first | rfl | exact hz1.symm | (rw [h5]; rfl)
    · refine V1 ?_
      rw [hF]
      refine ret_ok tyOk (by first | exact .inr rfl | exact .inl rfl) (pi1 33) rfl (by repeat (first | exact .nil | (apply ResAl.cons; first | exact .tmp | exact .cell rfl rfl rfl rfl rfl rfl | exact .cell1 rfl rfl rfl rfl rfl))) ?_ ⟨rfl, trivial⟩ (injO_1 _ _ _)
      repeat' (first | exact RetRelL.nil | refine RetRel.nil rfl ?_ | refine RetRelL.cons ?_ ?_ | refine rr_tup ?_ | refine rr_agg ?_ | refine rr_own rfl ?_ | exact RetRel.arg | exact RetRel.argc | refine rr_t ?_)
      all_goals first | rfl | exact hz1.symm | (rw [h5]; rfl)
end Go.Proofs.Ytpdnjcblkjjegaa

