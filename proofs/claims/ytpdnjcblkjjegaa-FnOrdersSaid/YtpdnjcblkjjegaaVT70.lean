import Derived.Test.YtpdnjcblkjjegaaVT69
import Derived.Test.YtpdnjcblkjjegaaVT33
set_option linter.unusedVariables false
set_option linter.unusedSimpArgs false
set_option maxRecDepth 20000
set_option maxHeartbeats 8000000
namespace Go.Proofs.Ytpdnjcblkjjegaa
open Go.Aw
attribute [local irreducible] QRun LexD AWp TCall TMut fop fint fcmp fconv

/-! ### the best order -/
theorem ownF_eq {a : List Nat} {m : Int} (h0 : inR m 0 6 = true) (h : (own0F a m).ok = true) : ownF a m = own0F a m := by
  unfold ownF; rw [h0, h]; rfl
theorem ownF_ko {a : List Nat} {m : Int} (h : (own0F a m).ok = false) : (ownF a m).ok = false := by
  unfold ownF; rw [h]; simp
theorem ownF_s {a : List Nat} {m : Int} (h : (ownF a m).ok = true) : fin (ownF a m).s = true := by
  have h1 : (own0F a m).ok = true := by
    cases h2 : (own0F a m).ok with
    | true => rfl
    | false => rw [ownF_ko h2] at h; cases h
  have h3 : ownF a m = own0F a m := by
    unfold ownF at h ⊢
    split at h
    · rename_i hk; rw [if_pos hk]
    · cases h
  rw [h3]
  unfold own0F at h1 ⊢
  split at h1
  · rename_i hk; rw [if_pos hk]; simp only [Bool.and_eq_true] at h1; exact h1.2
  · cases h1
theorem opS_F32 (a q : List Nat) : ∀ k, F32 (opS a q k)
  | 0 => F32_fop _ _ _
  | _ + 1 => F32_fop _ _ _
theorem own0F_F32 (a : List Nat) (m : Int) : F32 (own0F a m).s := by
  unfold own0F
  split
  · exact opS_F32 _ _ _
  · exact ⟨by decide +kernel, by decide⟩
theorem F32_fint (n : Int) : F32 (fint .f32 n) := by
  unfold fint
  refine F32_canon ?_
  have := lt_of_wf (floatOfInt_wf .f32 n)
  rwa [width32] at this
def boN (a : List Nat) : Nat := fint .f32 (a.length : Nat)
def boBy (a : List Nat) (kd : Int) : Nat := if kd = 1 then logF (boN a) else 1073741824
def boC (a : List Nat) (kd : Int) (k : Nat) : Nat := fop .add .f32 (fop .mul .f32 (boN a) (logF (ownF a (k : Nat)).s)) (fop .mul .f32 (boBy a kd) (fint .f32 (k : Nat)))
def boG (a : List Nat) (kd : Int) (k : Nat) : Bool := (ownF a (k : Nat)).ok && fcmp .gtr .f32 (ownF a (k : Nat)).s 0 && fin (boC a kd k)
def boA (a : List Nat) (kd : Int) : Nat → Int × Nat
  | 0 => (0, 0)
  | k + 1 => if k = 0 ∨ fcmp .lss .f32 (boC a kd k) (boA a kd k).2 = true then ((k : Int), boC a kd k) else boA a kd k
theorem boA_t {a : List Nat} {kd : Int} {k : Nat} (h : k = 0 ∨ fcmp .lss .f32 (boC a kd k) (boA a kd k).2 = true) : boA a kd (k + 1) = ((k : Int), boC a kd k) := by rw [boA, if_pos h]
theorem boA_f {a : List Nat} {kd : Int} {k : Nat} (h : ¬ (k = 0 ∨ fcmp .lss .f32 (boC a kd k) (boA a kd k).2 = true)) : boA a kd (k + 1) = boA a kd k := by rw [boA, if_neg h]
theorem boA_nn (a : List Nat) (kd : Int) : ∀ k, 0 ≤ (boA a kd k).1
  | 0 => Int.le_refl _
  | k + 1 => by
    rw [boA]
    split
    · exact Int.natCast_nonneg _
    · exact boA_nn a kd k
def bo1 (a : List Nat) (kd : Int) (k : Nat) : Int := if k = 0 then -1 else (boA a kd k).1
structure BO where
  o : Int
  c : Nat
  ok : Bool
def bestO (a : List Nat) (ms kd : Int) : BO :=
  if isSer a && inR ms 0 6 && decide (ms < (a.length : Nat)) && inR kd 0 1 && (List.range (ms.toNat + 1)).all (boG a kd) then ⟨(boA a kd (ms.toNat + 1)).1, (boA a kd (ms.toNat + 1)).2, true⟩ else ⟨0, 0, false⟩
abbrev boR (b : BO) : RV := .tup [.t (.v (.int .i64 b.o)), .t (.f .f32 b.c), .t (.v (.bool b.ok))]
theorem vE {k : IntKind} {a b : Int} (h : a = b) : AV.t (.v (.int k a)) = AV.t (.v (.int k b)) := by rw [h]

theorem boG_of {a : List Nat} {kd : Int} {k : Nat} (h0 : inR (k : Nat) 0 6 = true) : boG a kd k = ((own0F a (k : Nat)).ok && above (own0F a (k : Nat)).s && fin (boC a kd k)) := by
  cases h : (own0F a (k : Nat)).ok with
  | false => unfold boG; rw [ownF_ko h]; rfl
  | true =>
    have he := ownF_eq h0 h
    have hf := ownF_s (he ▸ h)
    unfold boG above
    rw [he] at hf ⊢
    rw [h, hf]; rfl
theorem bo1_S (a : List Nat) (kd : Int) (k : Nat) : bo1 a kd (k + 1) = (boA a kd (k + 1)).1 := rfl

theorem specBo_c (a : List Nat) (ms kd : Int) (ha : a.length ≤ 9223372036854775807) : TCall Try.prog 25 [.fl a, .v (.int .i64 ms), .v (.int .i64 kd)] (boR (bestO a ms kd)) [] := by
  have bad : ¬ (isSer a = true ∧ inR ms 0 6 = true ∧ ms < (a.length : Nat) ∧ inR kd 0 1 = true ∧ (List.range (ms.toNat + 1)).all (boG a kd) = true) → bestO a ms kd = ⟨0, 0, false⟩ := fun hc => by
    unfold bestO; rw [if_neg (by simpa only [Bool.and_eq_true, decide_eq_true_eq, and_assoc] using hc)]
  refine tcall_of Try.func25 rfl (by kernel_rfl) (Nat.le_of_ble_eq_true rfl) rfl ?_
  simp only [argsL, argAV, argCs, argS]
  refine V1 ?_
  (first | refine c_q (specSer_c a ha) (h := ?_) | refine z_q (specSer_c a ha) (h := ?_))
  refine V1 ?_
  refine lex_if rfl rfl rfl (fun h1 => ?_) (fun h1 => ?_)
  · simp only [Bool.not_eq_true'] at h1
    refine V5 ?_
    refine awp_ifT rfl rfl ?_
    refine V5 ?_
    rw [bad (fun hc => by first | (simp only [h1, Bool.false_eq_true, false_and, and_false] at hc; done) | omega)]
    (refine u_0 ?_; (repeat' (first | exact RetRelL.nil | refine RetRel.nil rfl ?_ | refine RetRelL.cons ?_ ?_ | refine rr_tup ?_ | refine rr_agg ?_ | refine rr_own rfl ?_ | exact RetRel.arg | exact RetRel.argc | refine rr_t ?_)); all_goals rfl)
  simp only [Bool.not_eq_false'] at h1
  refine V1 ?_
  (first | refine c_q (l00In_c _ _ _) (h := ?_) | refine z_q (l00In_c _ _ _) (h := ?_))
  refine V1 ?_
  refine lex_if rfl rfl rfl (fun h2 => ?_) (fun h2 => ?_)
  · simp only [Bool.not_eq_true'] at h2
    refine V5 ?_
    refine awp_ifT rfl rfl ?_
    refine V5 ?_
    rw [bad (fun hc => by first | (simp only [h2, Bool.false_eq_true, false_and, and_false] at hc; done) | omega)]
    (refine u_0 ?_; (repeat' (first | exact RetRelL.nil | refine RetRel.nil rfl ?_ | refine RetRelL.cons ?_ ?_ | refine rr_tup ?_ | refine rr_agg ?_ | refine rr_own rfl ?_ | exact RetRel.arg | exact RetRel.argc | refine rr_t ?_)); all_goals rfl)
  simp only [Bool.not_eq_false'] at h2
  refine V1 ?_
  refine lex_if rfl rfl rfl (fun h3 => ?_) (fun h3 => ?_)
  · simp only [icmp, decide_eq_true_eq] at h3
    refine V5 ?_
    refine awp_ifT rfl rfl ?_
    refine V5 ?_
    rw [bad (fun hc => by first | (simp only [h3, Bool.false_eq_true, false_and, and_false] at hc; done) | omega)]
    (refine u_0 ?_; (repeat' (first | exact RetRelL.nil | refine RetRel.nil rfl ?_ | refine RetRelL.cons ?_ ?_ | refine rr_tup ?_ | refine rr_agg ?_ | refine rr_own rfl ?_ | exact RetRel.arg | exact RetRel.argc | refine rr_t ?_)); all_goals rfl)
  simp only [icmp, decide_eq_false_iff_not] at h3
  refine V1 ?_
  (first | refine c_q (l00In_c _ _ _) (h := ?_) | refine z_q (l00In_c _ _ _) (h := ?_))
  refine V1 ?_
  refine awp_if rfl (fun h4 => ?_) (fun h4 => ?_)
  · simp only [Bool.not_eq_true'] at h4
    refine V5 ?_
    rw [bad (fun hc => by first | (simp only [h4, Bool.false_eq_true, false_and, and_false] at hc; done) | omega)]
    (refine u_0 ?_; (repeat' (first | exact RetRelL.nil | refine RetRel.nil rfl ?_ | refine RetRelL.cons ?_ ?_ | refine rr_tup ?_ | refine rr_agg ?_ | refine rr_own rfl ?_ | exact RetRel.arg | exact RetRel.argc | refine rr_t ?_)); all_goals rfl)
  simp only [Bool.not_eq_false'] at h4
  replace h3 : ms < (a.length : Nat) := by omega
  have hl : a.length ≤ 1048576 := by have := isSer_len h1; omega
  have h2' := inR_t.1 h2
  obtain ⟨n, rfl⟩ : ∃ n : Nat, ms = (n : Int) := ⟨ms.toNat, by omega⟩
  simp only [Int.toNat_natCast] at bad
  refine V1 ?_
  refine awp_if rfl (fun h5 => ?_) (fun h5 => ?_)
  · have hb : boBy a kd = logF (boN a) := by
      simp [icmp] at h5; unfold boBy; rw [if_pos h5]
    refine V1 ?_
    (first | (refine c_q (l01Log_c (boN a) (F32_fint _)) (h := ?_)) | (refine z_q (l01Log_c (boN a) (F32_fint _)) (h := ?_)))
    refine V1 ?_
    refine awp_loop (X := Nat) (fun k => k ≤ n + 1 ∧ ∀ j, j < k → boG a kd j = true) (fun k => [(0, .arg 0 (.fl a)), (1, .t (.v (.int .i64 (n : Nat)))), (9, .t (.f .f32 (boN a))), (10, .t (.f .f32 (boBy a kd))), (11, .t (.v (.int .i64 (bo1 a kd k)))), (12, .t (.f .f32 (boA a kd k).2)), (13, .t (.v (.int .i64 k)))]) (fun _ => []) (fun k => n + 1 - k)
      0 ⟨⟨by omega, fun j hj => by omega⟩, fun i => i, ⟨rfl, rfl, rfl, fE hb.symm, rfl, rfl, rfl, trivial⟩, trivial, injOn_id _⟩ (fun k hk => ?_)
    obtain ⟨hk, hok⟩ := hk
    refine V3 ?_
    refine awp_if rfl (fun h => ?_) (fun h => ?_)
    · simp only [icmp, decide_eq_true_eq] at h
      have h0 : inR (k : Nat) 0 6 = true := inR_t.2 (by omega)
      have bad' : boG a kd k = false → bestO a (n : Int) kd = ⟨0, 0, false⟩ := fun hf => bad fun hc => by
        have := List.all_eq_true.1 hc.2.2.2.2 k (List.mem_range.2 (by omega)); rw [hf] at this; cases this
      refine V1 ?_
      (first | (refine c_s (l05Past_c a (k : Nat) hl) (h := ?_)) | (refine z_s (l05Past_c a (k : Nat) hl) (h := ?_)))
      refine V1 ?_
      refine lex_if rfl rfl rfl (fun h6 => ?_) (fun h6 => ?_)
      · simp only [Bool.not_eq_true'] at h6
        refine V1 ?_
        refine awp_ifT rfl rfl ?_
        refine V1 ?_
        rw [bad' (by rw [boG_of h0, h6]; rfl)]
        (refine u_0 ?_; (repeat' (first | exact RetRelL.nil | refine RetRel.nil rfl ?_ | refine RetRelL.cons ?_ ?_ | refine rr_tup ?_ | refine rr_agg ?_ | refine rr_own rfl ?_ | exact RetRel.arg | exact RetRel.argc | refine rr_t ?_)); all_goals rfl)
      simp only [Bool.not_eq_false'] at h6
      refine V1 ?_
      (first | (refine c_q (above_c (own0F a (k : Nat)).s) (h := ?_)) | (refine z_q (above_c (own0F a (k : Nat)).s) (h := ?_)))
      refine V1 ?_
      refine awp_if rfl (fun h7 => ?_) (fun h7 => ?_)
      · simp only [Bool.not_eq_true'] at h7
        refine V1 ?_
        rw [bad' (by rw [boG_of h0, h6, h7]; rfl)]
        (refine u_0 ?_; (repeat' (first | exact RetRelL.nil | refine RetRel.nil rfl ?_ | refine RetRelL.cons ?_ ?_ | refine rr_tup ?_ | refine rr_agg ?_ | refine rr_own rfl ?_ | exact RetRel.arg | exact RetRel.argc | refine rr_t ?_)); all_goals rfl)
      simp only [Bool.not_eq_false'] at h7
      have he := ownF_eq h0 h6
      refine V1 ?_
      (first | (refine c_q (l01Log_c (own0F a (k : Nat)).s (own0F_F32 _ _)) (h := ?_)) | (refine z_q (l01Log_c (own0F a (k : Nat)).s (own0F_F32 _ _)) (h := ?_)))
      refine V1 ?_
      rw [← he]
      (first | (refine c_q (l01Finite_c (boC a kd k)) (h := ?_)) | (refine z_q (l01Finite_c (boC a kd k)) (h := ?_)))
      refine V1 ?_
      refine awp_if rfl (fun h8 => ?_) (fun h8 => ?_)
      · simp only [Bool.not_eq_true'] at h8
        refine V1 ?_
        rw [bad' (by rw [boG_of h0, h6, h7, h8]; rfl)]
        (refine u_0 ?_; (repeat' (first | exact RetRelL.nil | refine RetRel.nil rfl ?_ | refine RetRelL.cons ?_ ?_ | refine rr_tup ?_ | refine rr_agg ?_ | refine rr_own rfl ?_ | exact RetRel.arg | exact RetRel.argc | refine rr_t ?_)); all_goals rfl)
      simp only [Bool.not_eq_false'] at h8
      have hg : boG a kd k = true := by rw [boG_of h0, h6, h7, h8]; rfl
      have hok' : ∀ j, j < k + 1 → boG a kd j = true := fun j hj => (Nat.lt_or_eq_of_le (Nat.le_of_lt_succ hj)).elim (fun hj' => hok j hj') (fun hj' => by rw [hj']; exact hg)
      refine V1 ?_
      refine lex_if rfl rfl rfl (fun h9 => ?_) (fun h9 => ?_)
      · have h9' : k = 0 := Classical.byContradiction fun hk0 => by have := boA_nn a kd k; simp only [icmp, bo1, if_neg hk0, decide_eq_true_eq] at h9; omega
        have hA := boA_t (a := a) (kd := kd) (k := k) (.inl h9')
        refine V1 ?_
        refine awp_ifT rfl rfl ?_
        refine V1 ?_
        exact ⟨k + 1, by omega, ⟨by omega, hok'⟩, fun i => i, ⟨rfl, rfl, rfl, rfl, vE (by rw [bo1_S, hA]), fE (by rw [hA]; try rfl), rfl, trivial⟩, trivial, injOn_id _⟩
      have h9' : ¬ k = 0 := fun h00 => by rw [h00] at h9; simp [icmp, bo1] at h9
      refine V1 ?_
      refine awp_if rfl (fun h10 => ?_) (fun h10 => ?_)
      · have hA := boA_t (a := a) (kd := kd) (k := k) (.inr h10)
        refine V1 ?_
        exact ⟨k + 1, by omega, ⟨by omega, hok'⟩, fun i => i, ⟨rfl, rfl, rfl, rfl, vE (by rw [bo1_S, hA]), fE (by rw [hA]; try rfl), rfl, trivial⟩, trivial, injOn_id _⟩
      · have hA := boA_f (a := a) (kd := kd) (k := k) (fun h => h.elim h9' (fun h => absurd (h10.symm.trans h) Bool.false_ne_true))
        refine V1 ?_
        exact ⟨k + 1, by omega, ⟨by omega, hok'⟩, fun i => i, ⟨rfl, rfl, rfl, rfl, vE (by rw [bo1_S, hA]; unfold bo1; rw [if_neg h9']), fE (by rw [hA]; try rfl), rfl, trivial⟩, trivial, injOn_id _⟩
    · simp only [icmp, decide_eq_false_iff_not] at h
      obtain rfl : k = n + 1 := by omega
      have hall : (List.range (n + 1)).all (boG a kd) = true := List.all_eq_true.2 fun j hj => hok j (List.mem_range.1 hj)
      refine V3 ?_
      rw [show bestO a (n : Int) kd = ⟨(boA a kd (n + 1)).1, (boA a kd (n + 1)).2, true⟩ by unfold bestO; rw [h1, h2, h4, decide_eq_true h3, Int.toNat_natCast, hall]; rfl]
      (refine u_0 ?_; (repeat' (first | exact RetRelL.nil | refine RetRel.nil rfl ?_ | refine RetRelL.cons ?_ ?_ | refine rr_tup ?_ | refine rr_agg ?_ | refine rr_own rfl ?_ | exact RetRel.arg | exact RetRel.argc | refine rr_t ?_)); all_goals rfl)
  · have hb : boBy a kd = 1073741824 := by
      simp [icmp] at h5; unfold boBy; rw [if_neg h5]
    refine V1 ?_
    refine awp_loop (X := Nat) (fun k => k ≤ n + 1 ∧ ∀ j, j < k → boG a kd j = true) (fun k => [(0, .arg 0 (.fl a)), (1, .t (.v (.int .i64 (n : Nat)))), (9, .t (.f .f32 (boN a))), (10, .t (.f .f32 (boBy a kd))), (11, .t (.v (.int .i64 (bo1 a kd k)))), (12, .t (.f .f32 (boA a kd k).2)), (13, .t (.v (.int .i64 k)))]) (fun _ => []) (fun k => n + 1 - k)
      0 ⟨⟨by omega, fun j hj => by omega⟩, fun i => i, ⟨rfl, rfl, rfl, fE hb.symm, rfl, rfl, rfl, trivial⟩, trivial, injOn_id _⟩ (fun k hk => ?_)
    obtain ⟨hk, hok⟩ := hk
    refine V3 ?_
    refine awp_if rfl (fun h => ?_) (fun h => ?_)
    · simp only [icmp, decide_eq_true_eq] at h
      have h0 : inR (k : Nat) 0 6 = true := inR_t.2 (by omega)
      have bad' : boG a kd k = false → bestO a (n : Int) kd = ⟨0, 0, false⟩ := fun hf => bad fun hc => by
        have := List.all_eq_true.1 hc.2.2.2.2 k (List.mem_range.2 (by omega)); rw [hf] at this; cases this
      refine V1 ?_
      (first | (refine c_s (l05Past_c a (k : Nat) hl) (h := ?_)) | (refine z_s (l05Past_c a (k : Nat) hl) (h := ?_)))
      refine V1 ?_
      refine lex_if rfl rfl rfl (fun h6 => ?_) (fun h6 => ?_)
      · simp only [Bool.not_eq_true'] at h6
        refine V1 ?_
        refine awp_ifT rfl rfl ?_
        refine V1 ?_
        rw [bad' (by rw [boG_of h0, h6]; rfl)]
        (refine u_0 ?_; (repeat' (first | exact RetRelL.nil | refine RetRel.nil rfl ?_ | refine RetRelL.cons ?_ ?_ | refine rr_tup ?_ | refine rr_agg ?_ | refine rr_own rfl ?_ | exact RetRel.arg | exact RetRel.argc | refine rr_t ?_)); all_goals rfl)
      simp only [Bool.not_eq_false'] at h6
      refine V1 ?_
      (first | (refine c_q (above_c (own0F a (k : Nat)).s) (h := ?_)) | (refine z_q (above_c (own0F a (k : Nat)).s) (h := ?_)))
      refine V1 ?_
      refine awp_if rfl (fun h7 => ?_) (fun h7 => ?_)
      · simp only [Bool.not_eq_true'] at h7
        refine V1 ?_
        rw [bad' (by rw [boG_of h0, h6, h7]; rfl)]
        (refine u_0 ?_; (repeat' (first | exact RetRelL.nil | refine RetRel.nil rfl ?_ | refine RetRelL.cons ?_ ?_ | refine rr_tup ?_ | refine rr_agg ?_ | refine rr_own rfl ?_ | exact RetRel.arg | exact RetRel.argc | refine rr_t ?_)); all_goals rfl)
      simp only [Bool.not_eq_false'] at h7
      have he := ownF_eq h0 h6
      refine V1 ?_
      (first | (refine c_q (l01Log_c (own0F a (k : Nat)).s (own0F_F32 _ _)) (h := ?_)) | (refine z_q (l01Log_c (own0F a (k : Nat)).s (own0F_F32 _ _)) (h := ?_)))
      refine V1 ?_
      rw [← he]
      (first | (refine c_q (l01Finite_c (boC a kd k)) (h := ?_)) | (refine z_q (l01Finite_c (boC a kd k)) (h := ?_)))
      refine V1 ?_
      refine awp_if rfl (fun h8 => ?_) (fun h8 => ?_)
      · simp only [Bool.not_eq_true'] at h8
        refine V1 ?_
        rw [bad' (by rw [boG_of h0, h6, h7, h8]; rfl)]
        (refine u_0 ?_; (repeat' (first | exact RetRelL.nil | refine RetRel.nil rfl ?_ | refine RetRelL.cons ?_ ?_ | refine rr_tup ?_ | refine rr_agg ?_ | refine rr_own rfl ?_ | exact RetRel.arg | exact RetRel.argc | refine rr_t ?_)); all_goals rfl)
      simp only [Bool.not_eq_false'] at h8
      have hg : boG a kd k = true := by rw [boG_of h0, h6, h7, h8]; rfl
      have hok' : ∀ j, j < k + 1 → boG a kd j = true := fun j hj => (Nat.lt_or_eq_of_le (Nat.le_of_lt_succ hj)).elim (fun hj' => hok j hj') (fun hj' => by rw [hj']; exact hg)
      refine V1 ?_
      refine lex_if rfl rfl rfl (fun h9 => ?_) (fun h9 => ?_)
      · have h9' : k = 0 := Classical.byContradiction fun hk0 => by have := boA_nn a kd k; simp only [icmp, bo1, if_neg hk0, decide_eq_true_eq] at h9; omega
        have hA := boA_t (a := a) (kd := kd) (k := k) (.inl h9')
        refine V1 ?_
        refine awp_ifT rfl rfl ?_
        refine V1 ?_
        exact ⟨k + 1, by omega, ⟨by omega, hok'⟩, fun i => i, ⟨rfl, rfl, rfl, rfl, vE (by rw [bo1_S, hA]), fE (by rw [hA]; try rfl), rfl, trivial⟩, trivial, injOn_id _⟩
      have h9' : ¬ k = 0 := fun h00 => by rw [h00] at h9; simp [icmp, bo1] at h9
      refine V1 ?_
      refine awp_if rfl (fun h10 => ?_) (fun h10 => ?_)
      · have hA := boA_t (a := a) (kd := kd) (k := k) (.inr h10)
        refine V1 ?_
        exact ⟨k + 1, by omega, ⟨by omega, hok'⟩, fun i => i, ⟨rfl, rfl, rfl, rfl, vE (by rw [bo1_S, hA]), fE (by rw [hA]; try rfl), rfl, trivial⟩, trivial, injOn_id _⟩
      · have hA := boA_f (a := a) (kd := kd) (k := k) (fun h => h.elim h9' (fun h => absurd (h10.symm.trans h) Bool.false_ne_true))
        refine V1 ?_
        exact ⟨k + 1, by omega, ⟨by omega, hok'⟩, fun i => i, ⟨rfl, rfl, rfl, rfl, vE (by rw [bo1_S, hA]; unfold bo1; rw [if_neg h9']), fE (by rw [hA]; try rfl), rfl, trivial⟩, trivial, injOn_id _⟩
    · simp only [icmp, decide_eq_false_iff_not] at h
      obtain rfl : k = n + 1 := by omega
      have hall : (List.range (n + 1)).all (boG a kd) = true := List.all_eq_true.2 fun j hj => hok j (List.mem_range.1 hj)
      refine V3 ?_
      rw [show bestO a (n : Int) kd = ⟨(boA a kd (n + 1)).1, (boA a kd (n + 1)).2, true⟩ by unfold bestO; rw [h1, h2, h4, decide_eq_true h3, Int.toNat_natCast, hall]; rfl]
      (refine u_0 ?_; (repeat' (first | exact RetRelL.nil | refine RetRel.nil rfl ?_ | refine RetRelL.cons ?_ ?_ | refine rr_tup ?_ | refine rr_agg ?_ | refine rr_own rfl ?_ | exact RetRel.arg | exact RetRel.argc | refine rr_t ?_)); all_goals rfl)
theorem implBo_c (a : List Nat) (ms kd : Int) (ha : a.length ≤ 9223372036854775807) : TCall Try.prog 24 [.fl a, .v (.int .i64 ms), .v (.int .i64 kd)] (boR (bestO a ms kd)) [] := by
  have bad : ¬ (isSer a = true ∧ inR ms 0 6 = true ∧ ms < (a.length : Nat) ∧ inR kd 0 1 = true ∧ (List.range (ms.toNat + 1)).all (boG a kd) = true) → bestO a ms kd = ⟨0, 0, false⟩ := fun hc => by
    unfold bestO; rw [if_neg (by simpa only [Bool.and_eq_true, decide_eq_true_eq, and_assoc] using hc)]
  refine tcall_of Try.func24 rfl (by kernel_rfl) (Nat.le_of_ble_eq_true rfl) rfl ?_
  simp only [argsL, argAV, argCs, argS]
  refine V1 ?_
  (first | refine c_q (implSer_c a ha) (h := ?_) | refine z_q (implSer_c a ha) (h := ?_))
  refine V1 ?_
  refine lex_if rfl rfl rfl (fun h1 => ?_) (fun h1 => ?_)
  · simp only [Bool.not_eq_true'] at h1
    refine V5 ?_
    refine awp_ifT rfl rfl ?_
    refine V5 ?_
    rw [bad (fun hc => by first | (simp only [h1, Bool.false_eq_true, false_and, and_false] at hc; done) | omega)]
    (refine u_0 ?_; (repeat' (first | exact RetRelL.nil | refine RetRel.nil rfl ?_ | refine RetRelL.cons ?_ ?_ | refine rr_tup ?_ | refine rr_agg ?_ | refine rr_own rfl ?_ | exact RetRel.arg | exact RetRel.argc | refine rr_t ?_)); all_goals rfl)
  simp only [Bool.not_eq_false'] at h1
  have hs1 := isSer_len h1
  have bad : ¬ (inR ms 0 (if (a.length : Int) - 1 < 6 then (a.length : Int) - 1 else 6) = true ∧ inR kd 0 1 = true ∧ (List.range (ms.toNat + 1)).all (boG a kd) = true) → bestO a ms kd = ⟨0, 0, false⟩ := fun hc => bad fun hk => hc ⟨by
    have h2 := inR_t.1 hk.2.1
    have h3 := hk.2.2.1
    refine inR_t.2 ?_
    split <;> omega, hk.2.2.2⟩
  refine V1 ?_
  (first | refine c_q (within_c _ _ _) (h := ?_) | refine z_q (within_c _ _ _) (h := ?_))
  refine V1 ?_
  refine lex_if rfl rfl rfl (fun h23 => ?_) (fun h23 => ?_)
  · simp only [Bool.not_eq_true'] at h23
    refine V5 ?_
    refine awp_ifT rfl rfl ?_
    refine V5 ?_
    rw [bad (fun hc => by first | (simp only [h23, Bool.false_eq_true, false_and, and_false] at hc; done) | omega)]
    (refine u_0 ?_; (repeat' (first | exact RetRelL.nil | refine RetRel.nil rfl ?_ | refine RetRelL.cons ?_ ?_ | refine rr_tup ?_ | refine rr_agg ?_ | refine rr_own rfl ?_ | exact RetRel.arg | exact RetRel.argc | refine rr_t ?_)); all_goals rfl)
  simp only [Bool.not_eq_false'] at h23
  refine V1 ?_
  (first | refine c_q (within_c _ _ _) (h := ?_) | refine z_q (within_c _ _ _) (h := ?_))
  refine V1 ?_
  refine awp_if rfl (fun h4 => ?_) (fun h4 => ?_)
  · simp only [Bool.not_eq_true'] at h4
    refine V5 ?_
    rw [bad (fun hc => by first | (simp only [h4, Bool.false_eq_true, false_and, and_false] at hc; done) | omega)]
    (refine u_0 ?_; (repeat' (first | exact RetRelL.nil | refine RetRel.nil rfl ?_ | refine RetRelL.cons ?_ ?_ | refine rr_tup ?_ | refine rr_agg ?_ | refine rr_own rfl ?_ | exact RetRel.arg | exact RetRel.argc | refine rr_t ?_)); all_goals rfl)
  simp only [Bool.not_eq_false'] at h4
  have h23' := inR_t.1 h23
  have h2 : inR ms 0 6 = true := inR_t.2 (by split at h23' <;> omega)
  have h3 : ms < (a.length : Nat) := by split at h23' <;> omega
  have bad : ¬ (isSer a = true ∧ inR ms 0 6 = true ∧ ms < (a.length : Nat) ∧ inR kd 0 1 = true ∧ (List.range (ms.toNat + 1)).all (boG a kd) = true) → bestO a ms kd = ⟨0, 0, false⟩ := fun hc => by
    unfold bestO; rw [if_neg (by simpa only [Bool.and_eq_true, decide_eq_true_eq, and_assoc] using hc)]
  have hl : a.length ≤ 1048576 := by have := isSer_len h1; omega
  have h2' := inR_t.1 h2
  obtain ⟨n, rfl⟩ : ∃ n : Nat, ms = (n : Int) := ⟨ms.toNat, by omega⟩
  simp only [Int.toNat_natCast] at bad
  refine V1 ?_
  refine awp_if rfl (fun h5 => ?_) (fun h5 => ?_)
  · have hb : boBy a kd = logF (boN a) := by
      simp [icmp] at h5; unfold boBy; rw [if_pos h5]
    refine V1 ?_
    (first | (refine c_q (logNumber_c (boN a) (F32_fint _)) (h := ?_)) | (refine z_q (logNumber_c (boN a) (F32_fint _)) (h := ?_)))
    refine V1 ?_
    refine awp_loop (X := Nat) (fun k => k ≤ n + 1 ∧ ∀ j, j < k → boG a kd j = true) (fun k => [(0, .arg 0 (.fl a)), (9, .t (.f .f32 (boN a))), (10, .t (.f .f32 (boBy a kd))), (11, .t (.v (.int .i64 (boA a kd k).1))), (12, .t (.f .f32 (boA a kd k).2)), (43, .t (.v (.int .i64 ((n : Int) + 1)))), (44, .t (.v (.int .i64 k)))]) (fun _ => []) (fun k => n + 1 - k)
      0 ⟨⟨by omega, fun j hj => by omega⟩, fun i => i, ⟨rfl, rfl, fE hb.symm, rfl, rfl, rfl, rfl, trivial⟩, trivial, injOn_id _⟩ (fun k hk => ?_)
    obtain ⟨hk, hok⟩ := hk
    refine V3 ?_
    refine awp_if rfl (fun h => ?_) (fun h => ?_)
    · simp only [icmp, decide_eq_true_eq] at h
      have h0 : inR (k : Nat) 0 6 = true := inR_t.2 (by omega)
      have bad' : boG a kd k = false → bestO a (n : Int) kd = ⟨0, 0, false⟩ := fun hf => bad fun hc => by
        have := List.all_eq_true.1 hc.2.2.2.2 k (List.mem_range.2 (by omega)); rw [hf] at this; cases this
      refine V1 ?_
      (first | (refine c_s (implOwn_c a (k : Nat) hl) (h := ?_)) | (refine z_s (implOwn_c a (k : Nat) hl) (h := ?_)))
      refine V1 ?_
      refine lex_if rfl rfl rfl (fun h6 => ?_) (fun h6 => ?_)
      · simp only [Bool.not_eq_true'] at h6
        refine V1 ?_
        refine awp_ifT rfl rfl ?_
        refine V1 ?_
        rw [bad' (by unfold boG; rw [h6]; rfl)]
        (refine u_0 ?_; (repeat' (first | exact RetRelL.nil | refine RetRel.nil rfl ?_ | refine RetRelL.cons ?_ ?_ | refine rr_tup ?_ | refine rr_agg ?_ | refine rr_own rfl ?_ | exact RetRel.arg | exact RetRel.argc | refine rr_t ?_)); all_goals rfl)
      simp only [Bool.not_eq_false'] at h6
      refine V1 ?_
      refine awp_if rfl (fun h7 => ?_) (fun h7 => ?_)
      · simp only [Bool.not_eq_true'] at h7
        refine V1 ?_
        rw [bad' (by unfold boG; rw [h6, h7]; rfl)]
        (refine u_0 ?_; (repeat' (first | exact RetRelL.nil | refine RetRel.nil rfl ?_ | refine RetRelL.cons ?_ ?_ | refine rr_tup ?_ | refine rr_agg ?_ | refine rr_own rfl ?_ | exact RetRel.arg | exact RetRel.argc | refine rr_t ?_)); all_goals rfl)
      simp only [Bool.not_eq_false'] at h7
      have hfs : F32 (ownF a (k : Nat)).s := by
        unfold ownF
        split
        · exact own0F_F32 _ _
        · exact ⟨by decide +kernel, by decide⟩
      refine V1 ?_
      (first | (refine c_q (logNumber_c (ownF a (k : Nat)).s hfs) (h := ?_)) | (refine z_q (logNumber_c (ownF a (k : Nat)).s hfs) (h := ?_)))
      refine V1 ?_
      (first | (refine c_q (isFinite_c (boC a kd k)) (h := ?_)) | (refine z_q (isFinite_c (boC a kd k)) (h := ?_)))
      refine V1 ?_
      refine awp_if rfl (fun h8 => ?_) (fun h8 => ?_)
      · simp only [Bool.not_eq_true'] at h8
        refine V1 ?_
        rw [bad' (by unfold boG; rw [h6, h7, h8]; rfl)]
        (refine u_0 ?_; (repeat' (first | exact RetRelL.nil | refine RetRel.nil rfl ?_ | refine RetRelL.cons ?_ ?_ | refine rr_tup ?_ | refine rr_agg ?_ | refine rr_own rfl ?_ | exact RetRel.arg | exact RetRel.argc | refine rr_t ?_)); all_goals rfl)
      simp only [Bool.not_eq_false'] at h8
      have hg : boG a kd k = true := by unfold boG; rw [h6, h7, h8]; rfl
      have hok' : ∀ j, j < k + 1 → boG a kd j = true := fun j hj => (Nat.lt_or_eq_of_le (Nat.le_of_lt_succ hj)).elim (fun hj' => hok j hj') (fun hj' => by rw [hj']; exact hg)
      refine V1 ?_
      refine lex_if rfl rfl rfl (fun h9 => ?_) (fun h9 => ?_)
      · have h9' : k = 0 := by simp [icmp] at h9; omega
        have hA := boA_t (a := a) (kd := kd) (k := k) (.inl h9')
        refine V1 ?_
        refine awp_ifT rfl rfl ?_
        refine V1 ?_
        exact ⟨k + 1, by omega, ⟨by omega, hok'⟩, fun i => i, ⟨rfl, rfl, rfl, vE (by rw [hA]), fE (by rw [hA]; try rfl), rfl, rfl, trivial⟩, trivial, injOn_id _⟩
      have h9' : ¬ k = 0 := fun h00 => by rw [h00] at h9; simp [icmp] at h9
      refine V1 ?_
      refine awp_if rfl (fun h10 => ?_) (fun h10 => ?_)
      · have hA := boA_t (a := a) (kd := kd) (k := k) (.inr h10)
        refine V1 ?_
        exact ⟨k + 1, by omega, ⟨by omega, hok'⟩, fun i => i, ⟨rfl, rfl, rfl, vE (by rw [hA]), fE (by rw [hA]; try rfl), rfl, rfl, trivial⟩, trivial, injOn_id _⟩
      · have hA := boA_f (a := a) (kd := kd) (k := k) (fun h => h.elim h9' (fun h => absurd (h10.symm.trans h) Bool.false_ne_true))
        refine V1 ?_
        exact ⟨k + 1, by omega, ⟨by omega, hok'⟩, fun i => i, ⟨rfl, rfl, rfl, vE (by rw [hA]), fE (by rw [hA]; try rfl), rfl, rfl, trivial⟩, trivial, injOn_id _⟩
    · simp only [icmp, decide_eq_false_iff_not] at h
      obtain rfl : k = n + 1 := by omega
      have hall : (List.range (n + 1)).all (boG a kd) = true := List.all_eq_true.2 fun j hj => hok j (List.mem_range.1 hj)
      refine V3 ?_
      rw [show bestO a (n : Int) kd = ⟨(boA a kd (n + 1)).1, (boA a kd (n + 1)).2, true⟩ by unfold bestO; rw [h1, h2, h4, decide_eq_true h3, Int.toNat_natCast, hall]; rfl]
      (refine u_0 ?_; (repeat' (first | exact RetRelL.nil | refine RetRel.nil rfl ?_ | refine RetRelL.cons ?_ ?_ | refine rr_tup ?_ | refine rr_agg ?_ | refine rr_own rfl ?_ | exact RetRel.arg | exact RetRel.argc | refine rr_t ?_)); all_goals rfl)
  · have hb : boBy a kd = 1073741824 := by
      simp [icmp] at h5; unfold boBy; rw [if_neg h5]
    refine V1 ?_
    refine awp_loop (X := Nat) (fun k => k ≤ n + 1 ∧ ∀ j, j < k → boG a kd j = true) (fun k => [(0, .arg 0 (.fl a)), (9, .t (.f .f32 (boN a))), (10, .t (.f .f32 (boBy a kd))), (11, .t (.v (.int .i64 (boA a kd k).1))), (12, .t (.f .f32 (boA a kd k).2)), (43, .t (.v (.int .i64 ((n : Int) + 1)))), (44, .t (.v (.int .i64 k)))]) (fun _ => []) (fun k => n + 1 - k)
      0 ⟨⟨by omega, fun j hj => by omega⟩, fun i => i, ⟨rfl, rfl, fE hb.symm, rfl, rfl, rfl, rfl, trivial⟩, trivial, injOn_id _⟩ (fun k hk => ?_)
    obtain ⟨hk, hok⟩ := hk
    refine V3 ?_
    refine awp_if rfl (fun h => ?_) (fun h => ?_)
    · simp only [icmp, decide_eq_true_eq] at h
      have h0 : inR (k : Nat) 0 6 = true := inR_t.2 (by omega)
      have bad' : boG a kd k = false → bestO a (n : Int) kd = ⟨0, 0, false⟩ := fun hf => bad fun hc => by
        have := List.all_eq_true.1 hc.2.2.2.2 k (List.mem_range.2 (by omega)); rw [hf] at this; cases this
      refine V1 ?_
      (first | (refine c_s (implOwn_c a (k : Nat) hl) (h := ?_)) | (refine z_s (implOwn_c a (k : Nat) hl) (h := ?_)))
      refine V1 ?_
      refine lex_if rfl rfl rfl (fun h6 => ?_) (fun h6 => ?_)
      · simp only [Bool.not_eq_true'] at h6
        refine V1 ?_
        refine awp_ifT rfl rfl ?_
        refine V1 ?_
        rw [bad' (by unfold boG; rw [h6]; rfl)]
        (refine u_0 ?_; (repeat' (first | exact RetRelL.nil | refine RetRel.nil rfl ?_ | refine RetRelL.cons ?_ ?_ | refine rr_tup ?_ | refine rr_agg ?_ | refine rr_own rfl ?_ | exact RetRel.arg | exact RetRel.argc | refine rr_t ?_)); all_goals rfl)
      simp only [Bool.not_eq_false'] at h6
      refine V1 ?_
      refine awp_if rfl (fun h7 => ?_) (fun h7 => ?_)
      · simp only [Bool.not_eq_true'] at h7
        refine V1 ?_
        rw [bad' (by unfold boG; rw [h6, h7]; rfl)]
        (refine u_0 ?_; (repeat' (first | exact RetRelL.nil | refine RetRel.nil rfl ?_ | refine RetRelL.cons ?_ ?_ | refine rr_tup ?_ | refine rr_agg ?_ | refine rr_own rfl ?_ | exact RetRel.arg | exact RetRel.argc | refine rr_t ?_)); all_goals rfl)
      simp only [Bool.not_eq_false'] at h7
      have hfs : F32 (ownF a (k : Nat)).s := by
        unfold ownF
        split
        · exact own0F_F32 _ _
        · exact ⟨by decide +kernel, by decide⟩
      refine V1 ?_
      (first | (refine c_q (logNumber_c (ownF a (k : Nat)).s hfs) (h := ?_)) | (refine z_q (logNumber_c (ownF a (k : Nat)).s hfs) (h := ?_)))
      refine V1 ?_
      (first | (refine c_q (isFinite_c (boC a kd k)) (h := ?_)) | (refine z_q (isFinite_c (boC a kd k)) (h := ?_)))
      refine V1 ?_
      refine awp_if rfl (fun h8 => ?_) (fun h8 => ?_)
      · simp only [Bool.not_eq_true'] at h8
        refine V1 ?_
        rw [bad' (by unfold boG; rw [h6, h7, h8]; rfl)]
        (refine u_0 ?_; (repeat' (first | exact RetRelL.nil | refine RetRel.nil rfl ?_ | refine RetRelL.cons ?_ ?_ | refine rr_tup ?_ | refine rr_agg ?_ | refine rr_own rfl ?_ | exact RetRel.arg | exact RetRel.argc | refine rr_t ?_)); all_goals rfl)
      simp only [Bool.not_eq_false'] at h8
      have hg : boG a kd k = true := by unfold boG; rw [h6, h7, h8]; rfl
      have hok' : ∀ j, j < k + 1 → boG a kd j = true := fun j hj => (Nat.lt_or_eq_of_le (Nat.le_of_lt_succ hj)).elim (fun hj' => hok j hj') (fun hj' => by rw [hj']; exact hg)
      refine V1 ?_
      refine lex_if rfl rfl rfl (fun h9 => ?_) (fun h9 => ?_)
      · have h9' : k = 0 := by simp [icmp] at h9; omega
        have hA := boA_t (a := a) (kd := kd) (k := k) (.inl h9')
        refine V1 ?_
        refine awp_ifT rfl rfl ?_
        refine V1 ?_
        exact ⟨k + 1, by omega, ⟨by omega, hok'⟩, fun i => i, ⟨rfl, rfl, rfl, vE (by rw [hA]), fE (by rw [hA]; try rfl), rfl, rfl, trivial⟩, trivial, injOn_id _⟩
      have h9' : ¬ k = 0 := fun h00 => by rw [h00] at h9; simp [icmp] at h9
      refine V1 ?_
      refine awp_if rfl (fun h10 => ?_) (fun h10 => ?_)
      · have hA := boA_t (a := a) (kd := kd) (k := k) (.inr h10)
        refine V1 ?_
        exact ⟨k + 1, by omega, ⟨by omega, hok'⟩, fun i => i, ⟨rfl, rfl, rfl, vE (by rw [hA]), fE (by rw [hA]; try rfl), rfl, rfl, trivial⟩, trivial, injOn_id _⟩
      · have hA := boA_f (a := a) (kd := kd) (k := k) (fun h => h.elim h9' (fun h => absurd (h10.symm.trans h) Bool.false_ne_true))
        refine V1 ?_
        exact ⟨k + 1, by omega, ⟨by omega, hok'⟩, fun i => i, ⟨rfl, rfl, rfl, vE (by rw [hA]), fE (by rw [hA]; try rfl), rfl, rfl, trivial⟩, trivial, injOn_id _⟩
    · simp only [icmp, decide_eq_false_iff_not] at h
      obtain rfl : k = n + 1 := by omega
      have hall : (List.range (n + 1)).all (boG a kd) = true := List.all_eq_true.2 fun j hj => hok j (List.mem_range.1 hj)
      refine V3 ?_
      rw [show bestO a (n : Int) kd = ⟨(boA a kd (n + 1)).1, (boA a kd (n + 1)).2, true⟩ by unfold bestO; rw [h1, h2, h4, decide_eq_true h3, Int.toNat_natCast, hall]; rfl]
      (refine u_0 ?_; (repeat' (first | exact RetRelL.nil | refine RetRel.nil rfl ?_ | refine RetRelL.cons ?_ ?_ | refine rr_tup ?_ | refine rr_agg ?_ | refine rr_own rfl ?_ | exact RetRel.arg | exact RetRel.argc | refine rr_t ?_)); all_goals rfl)
end Go.Proofs.Ytpdnjcblkjjegaa

