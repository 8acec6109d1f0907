import Derived.Test.YtmnpdipiffmnhaaVT166
import Derived.Test.YtmnpdipiffmnhaaVT28
set_option linter.unusedVariables false
set_option linter.unusedSimpArgs false
set_option maxRecDepth 20000
set_option maxHeartbeats 8000000
namespace Go.Proofs.Ytmnpdipiffmnhaa
open Go.Aw

/-! ### quantiles of at most 64 numbers -/
theorem nan_cmp {op : BinOp} {c d : Nat} (h : isNan .f32 c = true) (ho : op = .geq ∨ op = .leq) : fcmp op .f32 c d = false := by
  rcases ho with rfl | rfl <;> · simp only [fcmp]; rw [order_nan_left h]; rfl
theorem leq_iff {a b : Nat} (ha : Fnt .f32 a) (hb : Fnt .f32 b) (h : fcmp .leq .f32 a b = true) : rv .f32 a ≤ rv .f32 b := by
  have h1 := lss_rv ha hb
  have h2 := gtr_rv ha hb
  simp only [fcmp] at h h1 h2
  cases ho : FloatKind.f32.format.order a b with
  | none => rw [ho] at h; cases h
  | some o =>
    rw [ho] at h h1 h2
    cases o with
    | lt => exact Rat.le_of_lt (of_decide_eq_true h1.symm)
    | eq => exact Rat.not_lt.1 (of_decide_eq_false h2.symm)
    | gt => cases h
theorem geq_iff {a b : Nat} (ha : Fnt .f32 a) (hb : Fnt .f32 b) (h : fcmp .geq .f32 a b = true) : rv .f32 b ≤ rv .f32 a := by
  have h1 := lss_rv ha hb
  have h2 := gtr_rv ha hb
  simp only [fcmp] at h h1 h2
  cases ho : FloatKind.f32.format.order a b with
  | none => rw [ho] at h; cases h
  | some o =>
    rw [ho] at h h1 h2
    cases o with
    | gt => exact Rat.le_of_lt (of_decide_eq_true h2.symm)
    | eq => exact Rat.not_lt.1 (of_decide_eq_false h1.symm)
    | lt => cases h
theorem one_01 : Fnt .f32 1065353216 ∧ rv .f32 1065353216 = 1 ∧ Fnt .f32 0 ∧ rv .f32 0 = 0 := by unfold Fnt; decide +kernel
theorem inf_cmp : fcmp .leq .f32 2139095040 1065353216 = false ∧ fcmp .geq .f32 4286578688 0 = false := by decide +kernel
theorem shr_rv {c : Nat} (hc : F32 c) (h : isShr c = true) : Fnt .f32 c ∧ 0 ≤ rv .f32 c ∧ rv .f32 c ≤ 1 := by
  unfold isShr at h
  rw [Bool.and_eq_true] at h
  obtain ⟨g1, g2⟩ := h
  have e : FloatKind.f32.format.signWeight = 2147483648 := by decide
  have ei : FloatKind.f32.format.infRung = 2139095040 := by decide
  have hf : Fnt .f32 c := by
    refine ⟨by have := hc.2; rw [e]; omega, ?_⟩
    rcases Nat.lt_trichotomy (c % FloatKind.f32.format.signWeight) FloatKind.f32.format.infRung with k | k | k
    · exact k
    · exfalso
      rw [e, ei] at k
      have hc2 := hc.2
      have : c = 2139095040 ∨ c = 4286578688 := by omega
      rcases this with rfl | rfl
      · rw [inf_cmp.1] at g2; cases g2
      · rw [inf_cmp.2] at g1; cases g1
    · exfalso
      have hn : isNan .f32 c = true := by rw [isNan_rung]; exact decide_eq_true k
      rw [nan_cmp hn (.inl rfl)] at g1; cases g1
  obtain ⟨o1, o2, o3, o4⟩ := one_01
  exact ⟨hf, by rw [← o4]; exact geq_iff hf o3 g1, by rw [← o2]; exact leq_iff hf o1 g2⟩
theorem fint_all : (List.range 64).all (fun n => decide (fint .f32 (n : Int) < 2139095040) && decide (rv .f32 (fint .f32 (n : Int)) = (n : Rat))) = true := by decide +kernel
theorem fint_63 {n : Nat} (h : n ≤ 63) : Fnt .f32 (fint .f32 (n : Int)) ∧ rv .f32 (fint .f32 (n : Int)) = (n : Rat) := by
  have := List.all_eq_true.1 fint_all n (List.mem_range.2 (by omega))
  simp only [Bool.and_eq_true, decide_eq_true_eq] at this
  have e : FloatKind.f32.format.signWeight = 2147483648 := by decide
  have ei : FloatKind.f32.format.infRung = 2139095040 := by decide
  exact ⟨⟨by rw [e]; omega, by rw [e, ei]; omega⟩, this.2⟩
def qPos (n sh : Nat) : Nat := fop .mul .f32 sh (fint .f32 ((n : Int) - 1))
def qAt (n sh : Nat) : Nat := trN .f32 (qPos n sh)
def quantG (l : List Nat) (sh : Nat) : Nat := if l.length ≤ qAt l.length sh + 1 then (sortF l).getD (l.length - 1) 0 else
  fop .add .f32 ((sortF l).getD (qAt l.length sh) 0) (fop .mul .f32 (fop .sub .f32 (qPos l.length sh) (fint .f32 ((qAt l.length sh : Nat) : Int))) (fop .sub .f32 ((sortF l).getD (qAt l.length sh + 1) 0) ((sortF l).getD (qAt l.length sh) 0)))
theorem qPos_rv {n sh : Nat} (h1 : 1 ≤ n) (hn : n ≤ 64) (hF : F32 sh) (hs : isShr sh = true) : Fnt .f32 (qPos n sh) ∧ 0 ≤ rv .f32 (qPos n sh) ∧ rv .f32 (qPos n sh) ≤ ((n - 1 : Nat) : Rat) := by
  obtain ⟨s1, s2, s3⟩ := shr_rv hF hs
  obtain ⟨f1, f2⟩ := fint_63 (n := n - 1) (by omega)
  have hm := mul_rds s1 f1
  have e : ((n : Int) - 1) = ((n - 1 : Nat) : Int) := by omega
  unfold qPos
  rw [e]
  have hq : (0 : Rat) ≤ ((n - 1 : Nat) : Rat) := by exact_mod_cast Nat.zero_le _
  have hq2 : ((n - 1 : Nat) : Rat) ≤ 63 := by exact_mod_cast (show n - 1 ≤ 63 by omega)
  rw [f2] at hm
  have b1 : 0 ≤ rv .f32 sh * ((n - 1 : Nat) : Rat) := Rat.mul_nonneg s2 hq
  have b2 : rv .f32 sh * ((n - 1 : Nat) : Rat) ≤ ((n - 1 : Nat) : Rat) := by
    have := Rat.mul_le_mul_of_nonneg_right s3 hq
    rwa [Rat.one_mul] at this
  have ht := top32
  have hfin := hm.fin (by grind) (by grind)
  refine ⟨hfin, ?_, ?_⟩
  · have := hm.ge one_01.2.2.1 hfin (by rw [one_01.2.2.2]; exact b1)
    rwa [one_01.2.2.2] at this
  · have := hm.le f1 hfin (by rw [f2]; exact b2)
    rwa [f2] at this
theorem qAt_ok {n sh : Nat} (h1 : 1 ≤ n) (hn : n ≤ 64) (hF : F32 sh) (hs : isShr sh = true) : isNan .f64 (fconv .f32 .f64 (qPos n sh)) = false ∧ isNan .f64 (flV (fconv .f32 .f64 (qPos n sh))) = false ∧ (FloatKind.f64.decode (flV (fconv .f32 .f64 (qPos n sh)))).toInt .zero = some ((qAt n sh : Nat) : Int) ∧
    (FloatKind.f32.decode (qPos n sh)).toInt .zero = some ((qAt n sh : Nat) : Int) ∧ qAt n sh ≤ n - 1 ∧ isNan .f32 (qPos n sh) = false := by
  obtain ⟨q1, q2, q3⟩ := qPos_rv h1 hn hF hs
  have hq2 : ((n - 1 : Nat) : Rat) ≤ 63 := by exact_mod_cast (show n - 1 ≤ 63 by omega)
  obtain ⟨g1, g2, g3, g4, g5, g6⟩ := floor_rv q1 q2 (by grind)
  exact ⟨g1, g2, g3, g4, nat_between g5 (by grind), q1.notnan⟩
theorem i64_63 {n : Nat} (h : n ≤ 63) : IntKind.i64.min ≤ (n : Int) ∧ (n : Int) ≤ IntKind.i64.max := by
  simp only [IntKind.min, IntKind.max, IntKind.signed, IntKind.bits]
  simp
  omega
attribute [local irreducible] QRun LexD AWp TCall TMut fop fint fcmp fconv flV sortF rv Fnt trN
theorem sortStable64_c (l : List Nat) (hl : l.length ≤ 64) (hf : ∀ x ∈ l, Fnt .f32 x) :
    TMut Try.prog 213 [.argo 0 900 0 l.length, .arg 1 (.fn 214 [])] [(900, .sl 30 (.fl l))] (.tup []) [(900, .sl 30 (.fl (sortF l)))] [] := by
  refine tmut_of Try.func213 rfl (by kernel_rfl) (Nat.le_of_ble_eq_true rfl) rfl ?_
  simp only [slotsL]
  repeat (first | (refine w_q (h := ?_)) | (refine w_s (h := ?_)) | (refine w_t (h := ?_)) | (refine w_k (h := ?_)) | (refine y_q (h := ?_)) | (refine y_s (h := ?_)) | (refine y_t (h := ?_)) | (refine y_k (h := ?_)) | (refine lex_nil (by kernel_rfl) ?_) | (refine awp_sq ?_) | (refine awp_rg ?_) | (refine awp_rd (by kernel_rfl) (by kernel_rfl) ?_) | (refine awp_block ?_) | (refine awp_exit ?_) | (refine awp_ret ?_) | (refine awp_skip ?_))
  (refine m_s [(900, _)] (stable64_c l hl hf) (h := ?_))
  repeat (first | (refine w_q (h := ?_)) | (refine w_s (h := ?_)) | (refine w_t (h := ?_)) | (refine w_k (h := ?_)) | (refine y_q (h := ?_)) | (refine y_s (h := ?_)) | (refine y_t (h := ?_)) | (refine y_k (h := ?_)) | (refine lex_nil (by kernel_rfl) ?_) | (refine awp_sq ?_) | (refine awp_rg ?_) | (refine awp_rd (by kernel_rfl) (by kernel_rfl) ?_) | (refine awp_block ?_) | (refine awp_exit ?_) | (refine awp_ret ?_) | (refine awp_skip ?_))
  refine mret_ok tyOk (by first | exact .inr rfl | exact .inl rfl) (piA 900 900) rfl .nil ?_ ⟨rfl, trivial⟩ (injO_1 _ _ _) (held1 0 0 900 0 _ 0 _ rfl rfl rfl)
  exact rr_tup .nil
theorem sorted64_c (l : List Nat) (hl : l.length ≤ 64) (hf : ∀ x ∈ l, Fnt .f32 x) : TCall Try.prog 193 [.fl l] (.own 0 (sortF l).length) [(0, .sl 30 (.fl (sortF l)))] := by
  have hz := sortF_len l
  refine tcall_of Try.func193 rfl (by kernel_rfl) (Nat.le_of_ble_eq_true rfl) rfl ?_
  simp only [argsL, argAV, argCs, argS]
  repeat (first | (refine w_q (h := ?_)) | (refine w_s (h := ?_)) | (refine w_t (h := ?_)) | (refine w_k (h := ?_)) | (refine y_q (h := ?_)) | (refine y_s (h := ?_)) | (refine y_t (h := ?_)) | (refine y_k (h := ?_)) | (refine lex_nil (by kernel_rfl) ?_) | (refine awp_sq ?_) | (refine awp_rg ?_) | (refine awp_rd (by kernel_rfl) (by kernel_rfl) ?_) | (refine awp_block ?_) | (refine awp_exit ?_) | (refine awp_ret ?_) | (refine awp_skip ?_))
  (first | (refine c_s (cloneF_c l (by omega)) (h := ?_)) | (refine z_s (cloneF_c l (by omega)) (h := ?_)))
  repeat (first | (refine w_q (h := ?_)) | (refine w_s (h := ?_)) | (refine w_t (h := ?_)) | (refine w_k (h := ?_)) | (refine y_q (h := ?_)) | (refine y_s (h := ?_)) | (refine y_t (h := ?_)) | (refine y_k (h := ?_)) | (refine lex_nil (by kernel_rfl) ?_) | (refine awp_sq ?_) | (refine awp_rg ?_) | (refine awp_rd (by kernel_rfl) (by kernel_rfl) ?_) | (refine awp_block ?_) | (refine awp_exit ?_) | (refine awp_ret ?_) | (refine awp_skip ?_))
  (refine m_s [(900, _)] (sortStable64_c l hl hf) (h := ?_))
  repeat (first | (refine w_q (h := ?_)) | (refine w_s (h := ?_)) | (refine w_t (h := ?_)) | (refine w_k (h := ?_)) | (refine y_q (h := ?_)) | (refine y_s (h := ?_)) | (refine y_t (h := ?_)) | (refine y_k (h := ?_)) | (refine lex_nil (by kernel_rfl) ?_) | (refine awp_sq ?_) | (refine awp_rg ?_) | (refine awp_rd (by kernel_rfl) (by kernel_rfl) ?_) | (refine awp_block ?_) | (refine awp_exit ?_) | (refine awp_ret ?_) | (refine awp_skip ?_))
  refine ret_ok tyOk (by first | exact .inr rfl | exact .inl rfl) (pi1 (cid 5 0)) rfl (by first | exact .cons (by first | exact .tmp | exact .cell rfl rfl rfl rfl rfl rfl | exact .cell1 rfl rfl rfl rfl rfl) .nil | exact .cons (by first | exact .tmp | exact .cell rfl rfl rfl rfl rfl rfl | exact .cell1 rfl rfl rfl rfl rfl) (.cons (by first | exact .tmp | exact .cell rfl rfl rfl rfl rfl rfl | exact .cell1 rfl rfl rfl rfl rfl) .nil) | exact .cons (by first | exact .tmp | exact .cell rfl rfl rfl rfl rfl rfl | exact .cell1 rfl rfl rfl rfl rfl) (.cons (by first | exact .tmp | exact .cell rfl rfl rfl rfl rfl rfl | exact .cell1 rfl rfl rfl rfl rfl) (.cons (by first | exact .tmp | exact .cell rfl rfl rfl rfl rfl rfl | exact .cell1 rfl rfl rfl rfl rfl) .nil)) | exact .cons (by first | exact .tmp | exact .cell rfl rfl rfl rfl rfl rfl | exact .cell1 rfl rfl rfl rfl rfl) (.cons (by first | exact .tmp | exact .cell rfl rfl rfl rfl rfl rfl | exact .cell1 rfl rfl rfl rfl rfl) (.cons (by first | exact .tmp | exact .cell rfl rfl rfl rfl rfl rfl | exact .cell1 rfl rfl rfl rfl rfl) (.cons (by first | exact .tmp | exact .cell rfl rfl rfl rfl rfl rfl | exact .cell1 rfl rfl rfl rfl rfl) .nil)))) ?_ ⟨rfl, trivial⟩ (injO_1 _ _ _)
  repeat' (first | exact RetRelL.nil | (refine RetRel.nil rfl ?_) | refine RetRelL.cons ?_ ?_ | refine rr_tup ?_ | refine rr_agg ?_ | refine rr_own rfl ?_ | exact RetRel.arg | exact RetRel.argc | refine rr_t ?_)
  all_goals exact hz.symm
theorem qtImpl_c (l : List Nat) (sh : Nat) (h : isSer l = true) (hn : l.length ≤ 64) (hF : ∀ x ∈ l, F32 x) (hs : isShr sh = true) (hsF : F32 sh) :
    TCall Try.prog 141 [.fl l, .f .f32 sh] (.tup [.t (.f .f32 (numF (quantG l sh)).1), .t (.v (.bool (numF (quantG l sh)).2))]) [] := by
  have hlen := isSer_len h
  have hz := sortF_len l
  have hfl : ∀ x ∈ l, Fnt .f32 x := fun x hx => fnt_fin (hF x hx) (by simp only [isSer, Bool.and_eq_true] at h; exact List.all_eq_true.1 h.2 x hx)
  obtain ⟨g1, g2, g3, g4, g5, g6⟩ := qAt_ok hlen.2 hn hsF hs
  have hqd : quantG l sh = if l.length ≤ qAt l.length sh + 1 then (sortF l).getD (l.length - 1) 0 else
    fop .add .f32 ((sortF l).getD (qAt l.length sh) 0) (fop .mul .f32 (fop .sub .f32 (qPos l.length sh) (fint .f32 ((qAt l.length sh : Nat) : Int))) (fop .sub .f32 ((sortF l).getD (qAt l.length sh + 1) 0) ((sortF l).getD (qAt l.length sh) 0))) := rfl
  have hpd : fop .mul .f32 sh (fint .f32 ((l.length : Int) - 1)) = qPos l.length sh := rfl
  have hi := i64_63 (n := qAt l.length sh) (by omega)
  generalize qPos l.length sh = p at *
  generalize qAt l.length sh = q at *
  refine tcall_of Try.func141 rfl (by kernel_rfl) (Nat.le_of_ble_eq_true rfl) rfl ?_
  simp only [argsL, argAV, argCs, argS]
  repeat (first | (refine w_q (h := ?_)) | (refine w_s (h := ?_)) | (refine w_t (h := ?_)) | (refine w_k (h := ?_)) | (refine y_q (h := ?_)) | (refine y_s (h := ?_)) | (refine y_t (h := ?_)) | (refine y_k (h := ?_)) | (refine lex_nil (by kernel_rfl) ?_) | (refine awp_sq ?_) | (refine awp_rg ?_) | (refine awp_rd (by kernel_rfl) (by kernel_rfl) ?_) | (refine awp_block ?_) | (refine awp_exit ?_) | (refine awp_ret ?_) | (refine awp_skip ?_))
  (first | (refine c_q (implSer_c l (by omega)) (h := ?_)) | (refine z_q (implSer_c l (by omega)) (h := ?_)))
  rw [h]
  repeat (first | (refine w_q (h := ?_)) | (refine w_s (h := ?_)) | (refine w_t (h := ?_)) | (refine w_k (h := ?_)) | (refine y_q (h := ?_)) | (refine y_s (h := ?_)) | (refine y_t (h := ?_)) | (refine y_k (h := ?_)) | (refine lex_nil (by kernel_rfl) ?_) | (refine awp_sq ?_) | (refine awp_rg ?_) | (refine awp_rd (by kernel_rfl) (by kernel_rfl) ?_) | (refine awp_block ?_) | (refine awp_exit ?_) | (refine awp_ret ?_) | (refine awp_skip ?_))
  (first | (refine c_q (isShare_c _) (h := ?_)) | (refine z_q (isShare_c _) (h := ?_)))
  rw [hs]
  repeat (first | (refine w_q (h := ?_)) | (refine w_s (h := ?_)) | (refine w_t (h := ?_)) | (refine w_k (h := ?_)) | (refine y_q (h := ?_)) | (refine y_s (h := ?_)) | (refine y_t (h := ?_)) | (refine y_k (h := ?_)) | (refine lex_nil (by kernel_rfl) ?_) | (refine awp_sq ?_) | (refine awp_rg ?_) | (refine awp_rd (by kernel_rfl) (by kernel_rfl) ?_) | (refine awp_block ?_) | (refine awp_exit ?_) | (refine awp_ret ?_) | (refine awp_skip ?_))
  refine awp_ifF rfl rfl ?_
  repeat (first | (refine w_q (h := ?_)) | (refine w_s (h := ?_)) | (refine w_t (h := ?_)) | (refine w_k (h := ?_)) | (refine y_q (h := ?_)) | (refine y_s (h := ?_)) | (refine y_t (h := ?_)) | (refine y_k (h := ?_)) | (refine lex_nil (by kernel_rfl) ?_) | (refine awp_sq ?_) | (refine awp_rg ?_) | (refine awp_rd (by kernel_rfl) (by kernel_rfl) ?_) | (refine awp_block ?_) | (refine awp_exit ?_) | (refine awp_ret ?_) | (refine awp_skip ?_))
  (first | (refine c_s (sorted64_c l hn hfl) (h := ?_)) | (refine z_s (sorted64_c l hn hfl) (h := ?_)))
  rw [hz]
  repeat (first | (refine w_q (h := ?_)) | (refine w_s (h := ?_)) | (refine w_t (h := ?_)) | (refine w_k (h := ?_)) | (refine y_q (h := ?_)) | (refine y_s (h := ?_)) | (refine y_t (h := ?_)) | (refine y_k (h := ?_)) | (refine lex_nil (by kernel_rfl) ?_) | (refine awp_sq ?_) | (refine awp_rg ?_) | (refine awp_rd (by kernel_rfl) (by kernel_rfl) ?_) | (refine awp_block ?_) | (refine awp_exit ?_) | (refine awp_ret ?_) | (refine awp_skip ?_))
  rw [hpd]
  (first | (refine c_q (floorOf_c p _ g1 g2 g3 hi) (h := ?_)) | (refine z_q (floorOf_c p _ g1 g2 g3 hi) (h := ?_)))
  repeat (first | (refine w_q (h := ?_)) | (refine w_s (h := ?_)) | (refine w_t (h := ?_)) | (refine w_k (h := ?_)) | (refine y_q (h := ?_)) | (refine y_s (h := ?_)) | (refine y_t (h := ?_)) | (refine y_k (h := ?_)) | (refine lex_nil (by kernel_rfl) ?_) | (refine awp_sq ?_) | (refine awp_rg ?_) | (refine awp_rd (by kernel_rfl) (by kernel_rfl) ?_) | (refine awp_block ?_) | (refine awp_exit ?_) | (refine awp_ret ?_) | (refine awp_skip ?_))
  refine awp_if rfl (fun h1 => ?_) (fun h1 => ?_)
  · simp only [icmp, decide_eq_true_eq] at h1
    rw [if_pos (by omega)] at hqd
    have hnum : numF (quantG l sh) = (quantG l sh, true) := by
      unfold numF; rw [if_pos]
      rw [hqd]
      exact fin_fnt (hfl _ (sortF_mem hfl (mem_at (by rw [hz]; omega))))
    rw [hnum, hqd]
    repeat (first | (refine w_q (h := ?_)) | (refine w_s (h := ?_)) | (refine w_t (h := ?_)) | (refine w_k (h := ?_)) | (refine y_q (h := ?_)) | (refine y_s (h := ?_)) | (refine y_t (h := ?_)) | (refine y_k (h := ?_)) | (refine lex_nil (by kernel_rfl) ?_) | (refine awp_sq ?_) | (refine awp_rg ?_) | (refine awp_rd (by kernel_rfl) (by kernel_rfl) ?_) | (refine awp_block ?_) | (refine awp_exit ?_) | (refine awp_ret ?_) | (refine awp_skip ?_))
    (first | (refine w_r (q_idx_own (l.length - 1) tyOk rfl rfl rfl rfl rfl rfl rfl (by omega) (by first | omega | (simp only [T.len]; omega) | assumption)) (h := ?_)) | (refine y_r (q_idx_own (l.length - 1) tyOk rfl rfl rfl rfl rfl rfl rfl (by omega) (by first | omega | (simp only [T.len]; omega) | assumption)) (h := ?_)))
    repeat (first | (refine w_q (h := ?_)) | (refine w_s (h := ?_)) | (refine w_t (h := ?_)) | (refine w_k (h := ?_)) | (refine y_q (h := ?_)) | (refine y_s (h := ?_)) | (refine y_t (h := ?_)) | (refine y_k (h := ?_)) | (refine lex_nil (by kernel_rfl) ?_) | (refine awp_sq ?_) | (refine awp_rg ?_) | (refine awp_rd (by kernel_rfl) (by kernel_rfl) ?_) | (refine awp_block ?_) | (refine awp_exit ?_) | (refine awp_ret ?_) | (refine awp_skip ?_))
    rw [Nat.zero_add]
    (refine ret_ok tyOk (by first | exact .inr rfl | exact .inl rfl) pi0 rfl (by first | exact .cons (by first | exact .tmp | exact .cell rfl rfl rfl rfl rfl rfl | exact .cell1 rfl rfl rfl rfl rfl) .nil | exact .cons (by first | exact .tmp | exact .cell rfl rfl rfl rfl rfl rfl | exact .cell1 rfl rfl rfl rfl rfl) (.cons (by first | exact .tmp | exact .cell rfl rfl rfl rfl rfl rfl | exact .cell1 rfl rfl rfl rfl rfl) .nil) | exact .cons (by first | exact .tmp | exact .cell rfl rfl rfl rfl rfl rfl | exact .cell1 rfl rfl rfl rfl rfl) (.cons (by first | exact .tmp | exact .cell rfl rfl rfl rfl rfl rfl | exact .cell1 rfl rfl rfl rfl rfl) (.cons (by first | exact .tmp | exact .cell rfl rfl rfl rfl rfl rfl | exact .cell1 rfl rfl rfl rfl rfl) .nil)) | exact .cons (by first | exact .tmp | exact .cell rfl rfl rfl rfl rfl rfl | exact .cell1 rfl rfl rfl rfl rfl) (.cons (by first | exact .tmp | exact .cell rfl rfl rfl rfl rfl rfl | exact .cell1 rfl rfl rfl rfl rfl) (.cons (by first | exact .tmp | exact .cell rfl rfl rfl rfl rfl rfl | exact .cell1 rfl rfl rfl rfl rfl) (.cons (by first | exact .tmp | exact .cell rfl rfl rfl rfl rfl rfl | exact .cell1 rfl rfl rfl rfl rfl) .nil)))) ?_ trivial (injO_0 _); (repeat' (first | exact RetRelL.nil | (refine RetRel.nil rfl ?_) | refine RetRelL.cons ?_ ?_ | refine rr_tup ?_ | refine rr_agg ?_ | refine rr_own rfl ?_ | exact RetRel.arg | exact RetRel.argc | refine rr_t ?_)); all_goals rfl)
  · simp only [icmp, decide_eq_false_iff_not] at h1
    rw [if_neg (by omega)] at hqd
    repeat (first | (refine w_q (h := ?_)) | (refine w_s (h := ?_)) | (refine w_t (h := ?_)) | (refine w_k (h := ?_)) | (refine y_q (h := ?_)) | (refine y_s (h := ?_)) | (refine y_t (h := ?_)) | (refine y_k (h := ?_)) | (refine lex_nil (by kernel_rfl) ?_) | (refine awp_sq ?_) | (refine awp_rg ?_) | (refine awp_rd (by kernel_rfl) (by kernel_rfl) ?_) | (refine awp_block ?_) | (refine awp_exit ?_) | (refine awp_ret ?_) | (refine awp_skip ?_) | (first | (refine w_r (q_idx_own (q) tyOk rfl rfl rfl rfl rfl rfl rfl (by omega) (by first | omega | (simp only [T.len]; omega) | assumption)) (h := ?_)) | (refine y_r (q_idx_own (q) tyOk rfl rfl rfl rfl rfl rfl rfl (by omega) (by first | omega | (simp only [T.len]; omega) | assumption)) (h := ?_))) | (first | (refine w_r (q_idx_own (q + 1) tyOk rfl rfl rfl rfl rfl rfl rfl (by omega) (by first | omega | (simp only [T.len]; omega) | assumption)) (h := ?_)) | (refine y_r (q_idx_own (q + 1) tyOk rfl rfl rfl rfl rfl rfl rfl (by omega) (by first | omega | (simp only [T.len]; omega) | assumption)) (h := ?_))))
    rw [Nat.zero_add, Nat.zero_add, ← hqd]
    (first | (refine c_q (ifFinite_c (quantG l sh)) (h := ?_)) | (refine z_q (ifFinite_c (quantG l sh)) (h := ?_)))
    repeat (first | (refine w_q (h := ?_)) | (refine w_s (h := ?_)) | (refine w_t (h := ?_)) | (refine w_k (h := ?_)) | (refine y_q (h := ?_)) | (refine y_s (h := ?_)) | (refine y_t (h := ?_)) | (refine y_k (h := ?_)) | (refine lex_nil (by kernel_rfl) ?_) | (refine awp_sq ?_) | (refine awp_rg ?_) | (refine awp_rd (by kernel_rfl) (by kernel_rfl) ?_) | (refine awp_block ?_) | (refine awp_exit ?_) | (refine awp_ret ?_) | (refine awp_skip ?_))
    (refine ret_ok tyOk (by first | exact .inr rfl | exact .inl rfl) pi0 rfl (by first | exact .cons (by first | exact .tmp | exact .cell rfl rfl rfl rfl rfl rfl | exact .cell1 rfl rfl rfl rfl rfl) .nil | exact .cons (by first | exact .tmp | exact .cell rfl rfl rfl rfl rfl rfl | exact .cell1 rfl rfl rfl rfl rfl) (.cons (by first | exact .tmp | exact .cell rfl rfl rfl rfl rfl rfl | exact .cell1 rfl rfl rfl rfl rfl) .nil) | exact .cons (by first | exact .tmp | exact .cell rfl rfl rfl rfl rfl rfl | exact .cell1 rfl rfl rfl rfl rfl) (.cons (by first | exact .tmp | exact .cell rfl rfl rfl rfl rfl rfl | exact .cell1 rfl rfl rfl rfl rfl) (.cons (by first | exact .tmp | exact .cell rfl rfl rfl rfl rfl rfl | exact .cell1 rfl rfl rfl rfl rfl) .nil)) | exact .cons (by first | exact .tmp | exact .cell rfl rfl rfl rfl rfl rfl | exact .cell1 rfl rfl rfl rfl rfl) (.cons (by first | exact .tmp | exact .cell rfl rfl rfl rfl rfl rfl | exact .cell1 rfl rfl rfl rfl rfl) (.cons (by first | exact .tmp | exact .cell rfl rfl rfl rfl rfl rfl | exact .cell1 rfl rfl rfl rfl rfl) (.cons (by first | exact .tmp | exact .cell rfl rfl rfl rfl rfl rfl | exact .cell1 rfl rfl rfl rfl rfl) .nil)))) ?_ trivial (injO_0 _); (repeat' (first | exact RetRelL.nil | (refine RetRel.nil rfl ?_) | refine RetRelL.cons ?_ ?_ | refine rr_tup ?_ | refine rr_agg ?_ | refine rr_own rfl ?_ | exact RetRel.arg | exact RetRel.argc | refine rr_t ?_)); all_goals rfl)
end Go.Proofs.Ytmnpdipiffmnhaa

