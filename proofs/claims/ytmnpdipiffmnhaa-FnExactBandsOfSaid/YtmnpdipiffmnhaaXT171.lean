import Derived.Test.YtmnpdipiffmnhaaXT170
set_option linter.unusedVariables false
set_option linter.unusedSimpArgs false
set_option maxRecDepth 20000
set_option maxHeartbeats 8000000
namespace Go.Proofs.Ytmnpdipiffmnhaa
open Go.Aw
/-! ### bands of ways ahead: the reference's -/
theorem tcall_rst1 {P : Program} {f : FuncId} {ts : List T} {e : TypeId} {s : ST} {k : FloatKind} {c : Nat} (h : TCall P f ts (.tup [Rst 0 s, .t (.f k c)]) [(0, .sl e (.fl s.se))]) : TCall P f ts (.tup [.t (Tst s), .t (.f k c)]) [] := by
  refine ⟨h.1, fun w args ha => (h.2 w args ha).mono ?_⟩
  rintro e' w' ⟨y, μ, rfl, hc, hr⟩
  refine ⟨y, fun _ => none, rfl, hc_none hc, ?_⟩
  rw [RRel] at hr
  obtain ⟨xs, rfl, hr⟩ := hr
  rw [RRell] at hr
  obtain ⟨x1, r1, e1, h1, hr⟩ := hr
  simp only [RRell] at hr
  obtain ⟨x2, r2, e2, h2, e3⟩ := hr
  rw [RRel]
  refine ⟨xs, rfl, ?_⟩
  rw [e1, e2, e3]
  simp only [RRell, RRel]
  exact ⟨_, _, rfl, rst_data hc h1, _, _, rfl, dat_f h2, rfl⟩
theorem bnS_0 (s : ST) (h : SH) (m : List Nat) (sd : Nat) : bnS s h m sd 0 = s := rfl
theorem bnO_def (s : ST) (h : SH) (m : List Nat) (sd k : Nat) : bnO s h m sd k = (fin (bnX s h m sd k) && fin (erF (bnS s h m sd k) h (bnX s h m sd k)) && validS (bnS s h m sd (k + 1))) := rfl
theorem sdN_int (x : Nat) : (1664525 * (x : Int) + 1013904223) % 4294967296 = ((sdN x : Nat) : Int) := by unfold sdN; omega
theorem miA_int (m : List Nat) (x : Nat) : (x : Int) * (m.length : Int) / 4294967296 = ((miA m x : Nat) : Int) := by
  have e : ((x * m.length : Nat) : Int) = (x : Int) * (m.length : Int) := Int.natCast_mul _ _
  rw [← e]; unfold miA; omega
attribute [local irreducible] QRun LexD AWp TCall TMut fop fint fcmp fconv sdN sdI miA bnS bnX bnO bwR bcL bOk bqL quantG NL gsF erF nxF bwL
theorem sB_2 {s : ST} {h : SH} {m : List Nat} {C D sd sh : Nat} (hl : s.se.length ≤ 1048576) (hv : validS s = true) (hm : 1 ≤ m.length ∧ m.length ≤ 96) (hsd : sd < 4294967296) (hC : 1 ≤ C ∧ C ≤ 32) (hD : 1 ≤ D ∧ D ≤ 64) (hs : isShr sh = true) (hF : F32 sh) {v : BD} (hnoO : bOk s h m sd C D = false → v = ⟨[], 0, false⟩)
    (hno : bOk s h m sd C D = true → (bqL s h m sd C D sh).all fin = false → v = ⟨[], 0, false⟩) (hyes : bOk s h m sd C D = true → (bqL s h m sd C D sh).all fin = true → v = ⟨bqL s h m sd C D sh, (sdI sd (D * C) : Nat), true⟩) :
    AWp Try.prog Try.f45.ntmps (tlF Try.f45 2) (RetQ Try.prog Try.f45 (bdR v) (bdH v)) (lkF [(2, .arg 2 (.fl m)), (3, .t (.v (.int .i64 (C : Nat)))), (4, .t (.v (.int .i64 (D : Nat)))), (5, .t (.v (.int .i64 (sd : Nat)))), (6, .t (.f .f32 sh)), (7, .bp 7 0), (8, .bp 8 0)])
      (lkH [(8, .box 72 [.t (.f .f32 h.l), .t (.f .f32 h.s), .t (.f .f32 h.c), .t (.f .f32 h.d)]), (7, .box 70 [.t (.f .f32 s.l), .t (.f .f32 s.s), .argc 0 2 (.fl s.se), .t (.v (.int .i64 s.at_))])]) := by
  have hfm := famOk_no
  refine awp_sq ?_
  refine awp_rg ?_
  repeat (first | (refine w_q (h := ?_)) | (refine w_s (h := ?_)) | (refine w_t (h := ?_)) | (refine w_k (h := ?_)))
  refine lex_nil (by kernel_rfl) ?_
  refine awp_wk0 [(2, .arg 2 (.fl m)), (3, .t (.v (.int .i64 (C : Nat)))), (4, .t (.v (.int .i64 (D : Nat)))), (5, .t (.v (.int .i64 (sd : Nat)))), (6, .t (.f .f32 sh)), (7, .bp 7 0), (8, .bp 8 0), (17, .own 57 0 0)]
    [(57, .nest 24 (NL (bwL s h m sd C 0)) [] noRem), (8, .box 72 [.t (.f .f32 h.l), .t (.f .f32 h.s), .t (.f .f32 h.c), .t (.f .f32 h.d)]), (7, .box 70 [.t (.f .f32 s.l), .t (.f .f32 s.s), .argc 0 2 (.fl s.se), .t (.v (.int .i64 s.at_))])]
    ⟨rfl, rfl, rfl, rfl, rfl, rfl, rfl, rfl, trivial⟩ ⟨.inr ⟨_, rfl, by unfold NL bwL; rfl⟩, rfl, rfl, trivial⟩ ?_
  repeat (first | (refine kx_q (h := ?_)) | (refine kxd_q (h := ?_)) | (refine kw_s (h := ?_)) | (refine kw_t (h := ?_)) | (refine kw_k (h := ?_)) | (refine ky_s (h := ?_)) | (refine ky_t (h := ?_)) | (refine ky_k (h := ?_)) | (refine lex_nil (by kernel_rfl) ?_) | (refine awp_sq ?_) | (refine awp_rg ?_) | (refine awp_rd (by kernel_rfl) (by kernel_rfl) ?_) | (refine awp_block ?_) | (refine awp_exit ?_) | (refine awp_ret ?_) | (refine awp_skip ?_))
  refine awp_loopN (X := Nat) (fun d => d ≤ D ∧ ∀ i, i < d → ∀ k, k < C → bnO s h m (sdI sd (i * C)) k = true) (fun d => [(2, .arg 2 (.fl m)), (3, .t (.v (.int .i64 (C : Nat)))), (4, .t (.v (.int .i64 (D : Nat)))), (5, .t (.v (.int .i64 ((sdI sd (d * C) : Nat) : Int)))), (6, .t (.f .f32 sh)), (7, .bp 7 0), (8, .bp 8 0), (17, .own 57 0 d), (18, .t (.v (.int .i64 (d : Nat))))])
    (fun d => ovH (lkH [(57, .nest 24 (NL (bwL s h m sd C d)) [] noRem), (8, .box 72 [.t (.f .f32 h.l), .t (.f .f32 h.s), .t (.f .f32 h.c), .t (.f .f32 h.d)]), (7, .box 70 [.t (.f .f32 s.l), .t (.f .f32 s.s), .argc 0 2 (.fl s.se), .t (.v (.int .i64 s.at_))])]) noFam) (fun d => D - d)
    0 (famN_0 (H := fun d => [(57, .nest 24 (NL (bwL s h m sd C d)) [] noRem), (8, .box 72 [.t (.f .f32 h.l), .t (.f .f32 h.s), .t (.f .f32 h.c), .t (.f .f32 h.d)]), (7, .box 70 [.t (.f .f32 s.l), .t (.f .f32 s.s), .argc 0 2 (.fl s.se), .t (.v (.int .i64 s.at_))])]) 0 ⟨Nat.zero_le _, fun i hi => absurd hi (Nat.not_lt_zero i)⟩
      ⟨rfl, rfl, rfl, iE12 (by rw [Nat.zero_mul, sdI_0]), rfl, rfl, rfl, rfl, rfl, trivial⟩ ⟨NL_same rfl, rfl, rfl, trivial⟩) (fun d hd => ?_)
  obtain ⟨hd, hok⟩ := hd
  have hbl := bwL_len s h m sd C d
  repeat (first | (refine kx_q (h := ?_)) | (refine kxd_q (h := ?_)) | (refine kw_s (h := ?_)) | (refine kw_t (h := ?_)) | (refine kw_k (h := ?_)) | (refine ky_s (h := ?_)) | (refine ky_t (h := ?_)) | (refine ky_k (h := ?_)) | (refine lex_nil (by kernel_rfl) ?_) | (refine awp_sq ?_) | (refine awp_rg ?_) | (refine awp_rd (by kernel_rfl) (by kernel_rfl) ?_) | (refine awp_block ?_) | (refine awp_exit ?_) | (refine awp_ret ?_) | (refine awp_skip ?_))
  refine awp_cond (b := _) rfl (fun h1 => ?_) (fun h1 => ?_)
  · simp only [icmp, decide_eq_true_eq] at h1
    have hdD : d < D := by omega
    repeat (first | (refine kx_q (h := ?_)) | (refine kxd_q (h := ?_)) | (refine kw_s (h := ?_)) | (refine kw_t (h := ?_)) | (refine kw_k (h := ?_)) | (refine ky_s (h := ?_)) | (refine ky_t (h := ?_)) | (refine ky_k (h := ?_)) | (refine lex_nil (by kernel_rfl) ?_) | (refine awp_sq ?_) | (refine awp_rg ?_) | (refine awp_rd (by kernel_rfl) (by kernel_rfl) ?_) | (refine awp_block ?_) | (refine awp_exit ?_) | (refine awp_ret ?_) | (refine awp_skip ?_))
    (first | (refine kc_q (tcall_rst (l04Own_c s hl)) (h := ?_)) | (refine kz_q (tcall_rst (l04Own_c s hl)) (h := ?_)))
    repeat (first | (refine kx_q (h := ?_)) | (refine kxd_q (h := ?_)) | (refine kw_s (h := ?_)) | (refine kw_t (h := ?_)) | (refine kw_k (h := ?_)) | (refine ky_s (h := ?_)) | (refine ky_t (h := ?_)) | (refine ky_k (h := ?_)) | (refine lex_nil (by kernel_rfl) ?_) | (refine awp_sq ?_) | (refine awp_rg ?_) | (refine awp_rd (by kernel_rfl) (by kernel_rfl) ?_) | (refine awp_block ?_) | (refine awp_exit ?_) | (refine awp_ret ?_) | (refine awp_skip ?_))
    have hbd : ∀ k, k < C → bOk s h m sd C D = true → bnO s h m (sdI sd (d * C)) k = true := fun k hk hb => bOk_at hb hdD hk
    have hbn : ∀ k, k < C → bnO s h m (sdI sd (d * C)) k = false → v = ⟨[], 0, false⟩ := fun k hk hf => hnoO (bOk_no hdD hk hf)
    have hrg : ∀ k, k < C → (bwR s h m sd C d).getD k 0 = bnX s h m (sdI sd (d * C)) k := fun k hk => bwR_get hk
    have hblt := sdI_lt hsd (d * C)
    have hrl := bwR_len s h m sd C d
    have hnx : sdI (sdI sd (d * C)) C = sdI sd ((d + 1) * C) := by rw [sdI_add, Nat.add_mul, Nat.one_mul]
    have hokb : ∀ k, k < C → bnO s h m (sdI sd (d * C)) k = bnO s h m (sdI sd (d * C)) k := fun _ _ => rfl
    generalize hbe : sdI sd (d * C) = b at *
    refine awp_loopN (X := Nat) (fun k => k ≤ C ∧ ∀ j, j < k → bnO s h m b j = true) (fun k => [(2, .arg 2 (.fl m)), (3, .t (.v (.int .i64 (C : Nat)))), (4, .t (.v (.int .i64 (D : Nat)))), (5, .t (.v (.int .i64 ((sdI b k : Nat) : Int)))), (6, .t (.f .f32 sh)), (7, .bp 7 0), (8, .bp 8 0), (17, .own 57 0 d), (18, .t (.v (.int .i64 (d : Nat)))), (19, .bp 19 0), (20, .own 64 0 k), (21, .t (.v (.int .i64 (k : Nat))))])
      (fun k => ovH (lkH [(64, .sl 30 (.fl ((bwR s h m sd C d).take k))), (19, .box 70 [.t (.f .f32 (bnS s h m b k).l), .t (.f .f32 (bnS s h m b k).s), .t (.fl (bnS s h m b k).se), .t (.v (.int .i64 (bnS s h m b k).at_))]), (57, .nest 24 (NL (bwL s h m sd C d)) [] noRem), (8, .box 72 [.t (.f .f32 h.l), .t (.f .f32 h.s), .t (.f .f32 h.c), .t (.f .f32 h.d)]), (7, .box 70 [.t (.f .f32 s.l), .t (.f .f32 s.s), .argc 0 2 (.fl s.se), .t (.v (.int .i64 s.at_))])]) noFam) (fun k => C - k)
      0 (famN_0 (H := fun k => [(64, .sl 30 (.fl ((bwR s h m sd C d).take k))), (19, .box 70 [.t (.f .f32 (bnS s h m b k).l), .t (.f .f32 (bnS s h m b k).s), .t (.fl (bnS s h m b k).se), .t (.v (.int .i64 (bnS s h m b k).at_))]), (57, .nest 24 (NL (bwL s h m sd C d)) [] noRem), (8, .box 72 [.t (.f .f32 h.l), .t (.f .f32 h.s), .t (.f .f32 h.c), .t (.f .f32 h.d)]), (7, .box 70 [.t (.f .f32 s.l), .t (.f .f32 s.s), .argc 0 2 (.fl s.se), .t (.v (.int .i64 s.at_))])]) 0 ⟨Nat.zero_le _, fun j hj => absurd hj (Nat.not_lt_zero j)⟩
        ⟨rfl, rfl, rfl, iE12 (by rw [sdI_0]), rfl, rfl, rfl, rfl, rfl, rfl, rfl, rfl, trivial⟩ ⟨.inl (by rw [List.take_zero]; rfl), by rw [bnS_0]; rfl, NL_same rfl, rfl, rfl, trivial⟩) (fun k hk => ?_)
    obtain ⟨hk, hokk⟩ := hk
    have hvk := bnS_valid (h := h) (m := m) (sd := b) hv hokk
    have hvt := validS_at hvk
    have hlk := validS_len hvk
    have hz1 : ((bwR s h m sd C d).take k).length = k := by rw [List.length_take, hrl]; omega
    repeat (first | (refine kx_q (h := ?_)) | (refine kxd_q (h := ?_)) | (refine kw_s (h := ?_)) | (refine kw_t (h := ?_)) | (refine kw_k (h := ?_)) | (refine ky_s (h := ?_)) | (refine ky_t (h := ?_)) | (refine ky_k (h := ?_)) | (refine lex_nil (by kernel_rfl) ?_) | (refine awp_sq ?_) | (refine awp_rg ?_) | (refine awp_rd (by kernel_rfl) (by kernel_rfl) ?_) | (refine awp_block ?_) | (refine awp_exit ?_) | (refine awp_ret ?_) | (refine awp_skip ?_))
    refine awp_cond (b := _) rfl (fun h2 => ?_) (fun h2 => ?_)
    · simp only [icmp, decide_eq_true_eq] at h2
      have hkC : k < C := by omega
      have hslt := sdI_lt hblt k
      have hslt2 := sdI_lt hblt (k + 1)
      have hS1 := sdI_S b k
      have hmi := miA_lt (m := m) hslt2 hm.1
      have hXd : bnX s h m b k = fop .add .f32 (gsF (bnS s h m b k) h) (m.getD (miA m (sdI b (k + 1))) 0) := by unfold bnX; rfl
      have hS2 := bnS_S s h m b k
      have hl2 : (bnS s h m b (k + 1)).se.length ≤ 9223372036854775807 := by rw [hS2, nxF_len]; omega
      have hO : bnO s h m b k = (fin (bnX s h m b k) && fin (erF (bnS s h m b k) h (bnX s h m b k)) && validS (bnS s h m b (k + 1))) := bnO_def s h m b k
      have hmul : ((sdI b (k + 1) : Nat) : Int) * (m.length : Int) ≤ 9223372036854775807 := by
        have e := Nat.mul_le_mul (Nat.le_of_lt hslt2) hm.2
        have e2 : ((sdI b (k + 1) * m.length : Nat) : Int) = ((sdI b (k + 1) : Nat) : Int) * (m.length : Int) := Int.natCast_mul _ _
        rw [← e2]; omega
      repeat (first | (refine kx_q (h := ?_)) | (refine kxd_q (h := ?_)) | (refine kw_s (h := ?_)) | (refine kw_t (h := ?_)) | (refine kw_k (h := ?_)) | (refine ky_s (h := ?_)) | (refine ky_t (h := ?_)) | (refine ky_k (h := ?_)) | (refine lex_nil (by kernel_rfl) ?_) | (refine awp_sq ?_) | (refine awp_rg ?_) | (refine awp_rd (by kernel_rfl) (by kernel_rfl) ?_) | (refine awp_block ?_) | (refine awp_exit ?_) | (refine awp_ret ?_) | (refine awp_skip ?_))
      (first | (refine kw_r (q_mul rfl rfl rfl (by omega)) (h := ?_)) | (refine ky_r (q_mul rfl rfl rfl (by omega)) (h := ?_)))
      repeat (first | (refine kx_q (h := ?_)) | (refine kxd_q (h := ?_)) | (refine kw_s (h := ?_)) | (refine kw_t (h := ?_)) | (refine kw_k (h := ?_)) | (refine ky_s (h := ?_)) | (refine ky_t (h := ?_)) | (refine ky_k (h := ?_)) | (refine lex_nil (by kernel_rfl) ?_) | (refine awp_sq ?_) | (refine awp_rg ?_) | (refine awp_rd (by kernel_rfl) (by kernel_rfl) ?_) | (refine awp_block ?_) | (refine awp_exit ?_) | (refine awp_ret ?_) | (refine awp_skip ?_))
      (first | (refine kw_r (q_rem rfl rfl rfl (by omega) (by omega)) (h := ?_)) | (refine ky_r (q_rem rfl rfl rfl (by omega) (by omega)) (h := ?_)))
      rw [sdN_int, ← hS1]
      repeat (first | (refine kx_q (h := ?_)) | (refine kxd_q (h := ?_)) | (refine kw_s (h := ?_)) | (refine kw_t (h := ?_)) | (refine kw_k (h := ?_)) | (refine ky_s (h := ?_)) | (refine ky_t (h := ?_)) | (refine ky_k (h := ?_)) | (refine lex_nil (by kernel_rfl) ?_) | (refine awp_sq ?_) | (refine awp_rg ?_) | (refine awp_rd (by kernel_rfl) (by kernel_rfl) ?_) | (refine awp_block ?_) | (refine awp_exit ?_) | (refine awp_ret ?_) | (refine awp_skip ?_))
      (first | (refine kw_r (q_mul rfl rfl rfl ⟨by have := Int.natCast_nonneg (sdI b (k + 1) * m.length); rw [Int.natCast_mul] at this; omega, hmul⟩) (h := ?_)) | (refine ky_r (q_mul rfl rfl rfl ⟨by have := Int.natCast_nonneg (sdI b (k + 1) * m.length); rw [Int.natCast_mul] at this; omega, hmul⟩) (h := ?_)))
      repeat (first | (refine kx_q (h := ?_)) | (refine kxd_q (h := ?_)) | (refine kw_s (h := ?_)) | (refine kw_t (h := ?_)) | (refine kw_k (h := ?_)) | (refine ky_s (h := ?_)) | (refine ky_t (h := ?_)) | (refine ky_k (h := ?_)) | (refine lex_nil (by kernel_rfl) ?_) | (refine awp_sq ?_) | (refine awp_rg ?_) | (refine awp_rd (by kernel_rfl) (by kernel_rfl) ?_) | (refine awp_block ?_) | (refine awp_exit ?_) | (refine awp_ret ?_) | (refine awp_skip ?_))
      (first | (refine kw_r (q_quo rfl rfl rfl (by have := Int.natCast_nonneg (sdI b (k + 1) * m.length); rw [Int.natCast_mul] at this; exact this) hmul (by omega)) (h := ?_)) | (refine ky_r (q_quo rfl rfl rfl (by have := Int.natCast_nonneg (sdI b (k + 1) * m.length); rw [Int.natCast_mul] at this; exact this) hmul (by omega)) (h := ?_)))
      rw [miA_int]
      repeat (first | (refine kx_q (h := ?_)) | (refine kxd_q (h := ?_)) | (refine kw_s (h := ?_)) | (refine kw_t (h := ?_)) | (refine kw_k (h := ?_)) | (refine ky_s (h := ?_)) | (refine ky_t (h := ?_)) | (refine ky_k (h := ?_)) | (refine lex_nil (by kernel_rfl) ?_) | (refine awp_sq ?_) | (refine awp_rg ?_) | (refine awp_rd (by kernel_rfl) (by kernel_rfl) ?_) | (refine awp_block ?_) | (refine awp_exit ?_) | (refine awp_ret ?_) | (refine awp_skip ?_))
      (first | (refine kc_q (l04Guess_c (bnS s h m b k) h hvt.1 hlk) (h := ?_)) | (refine kz_q (l04Guess_c (bnS s h m b k) h hvt.1 hlk) (h := ?_)))
      repeat (first | (refine kx_q (h := ?_)) | (refine kxd_q (h := ?_)) | (refine kw_s (h := ?_)) | (refine kw_t (h := ?_)) | (refine kw_k (h := ?_)) | (refine ky_s (h := ?_)) | (refine ky_t (h := ?_)) | (refine ky_k (h := ?_)) | (refine lex_nil (by kernel_rfl) ?_) | (refine awp_sq ?_) | (refine awp_rg ?_) | (refine awp_rd (by kernel_rfl) (by kernel_rfl) ?_) | (refine awp_block ?_) | (refine awp_exit ?_) | (refine awp_ret ?_) | (refine awp_skip ?_))
      try (first | (refine kw_r (q_idx_tree (miA m (sdI b (k + 1))) tyOk rfl rfl rfl rfl rfl rfl rfl rfl (by omega) (by first | omega | (simp only [T.len]; omega) | assumption)) (h := ?_)) | (refine ky_r (q_idx_tree (miA m (sdI b (k + 1))) tyOk rfl rfl rfl rfl rfl rfl rfl rfl (by omega) (by first | omega | (simp only [T.len]; omega) | assumption)) (h := ?_)))
      repeat (first | (refine kx_q (h := ?_)) | (refine kxd_q (h := ?_)) | (refine kw_s (h := ?_)) | (refine kw_t (h := ?_)) | (refine kw_k (h := ?_)) | (refine ky_s (h := ?_)) | (refine ky_t (h := ?_)) | (refine ky_k (h := ?_)) | (refine lex_nil (by kernel_rfl) ?_) | (refine awp_sq ?_) | (refine awp_rg ?_) | (refine awp_rd (by kernel_rfl) (by kernel_rfl) ?_) | (refine awp_block ?_) | (refine awp_exit ?_) | (refine awp_ret ?_) | (refine awp_skip ?_))
      rw [← hXd]
      repeat (first | (refine kx_q (h := ?_)) | (refine kxd_q (h := ?_)) | (refine kw_s (h := ?_)) | (refine kw_t (h := ?_)) | (refine kw_k (h := ?_)) | (refine ky_s (h := ?_)) | (refine ky_t (h := ?_)) | (refine ky_k (h := ?_)) | (refine lex_nil (by kernel_rfl) ?_) | (refine awp_sq ?_) | (refine awp_rg ?_) | (refine awp_rd (by kernel_rfl) (by kernel_rfl) ?_) | (refine awp_block ?_) | (refine awp_exit ?_) | (refine awp_ret ?_) | (refine awp_skip ?_))
      (first | (refine kc_q (tcall_rst1 (l04Step_c (bnS s h m b k) h (bnX s h m b k) hvt.1 hlk)) (h := ?_)) | (refine kz_q (tcall_rst1 (l04Step_c (bnS s h m b k) h (bnX s h m b k) hvt.1 hlk)) (h := ?_)))
      rw [← hS2]
      repeat (first | (refine kx_q (h := ?_)) | (refine kxd_q (h := ?_)) | (refine kw_s (h := ?_)) | (refine kw_t (h := ?_)) | (refine kw_k (h := ?_)) | (refine ky_s (h := ?_)) | (refine ky_t (h := ?_)) | (refine ky_k (h := ?_)) | (refine lex_nil (by kernel_rfl) ?_) | (refine awp_sq ?_) | (refine awp_rg ?_) | (refine awp_rd (by kernel_rfl) (by kernel_rfl) ?_) | (refine awp_block ?_) | (refine awp_exit ?_) | (refine awp_ret ?_) | (refine awp_skip ?_))
      (first | (refine kc_q (l01Finite_c (bnX s h m b k)) (h := ?_)) | (refine kz_q (l01Finite_c (bnX s h m b k)) (h := ?_)))
      repeat (first | (refine kx_q (h := ?_)) | (refine kxd_q (h := ?_)) | (refine kw_s (h := ?_)) | (refine kw_t (h := ?_)) | (refine kw_k (h := ?_)) | (refine ky_s (h := ?_)) | (refine ky_t (h := ?_)) | (refine ky_k (h := ?_)) | (refine lex_nil (by kernel_rfl) ?_) | (refine awp_sq ?_) | (refine awp_rg ?_) | (refine awp_rd (by kernel_rfl) (by kernel_rfl) ?_) | (refine awp_block ?_) | (refine awp_exit ?_) | (refine awp_ret ?_) | (refine awp_skip ?_))
      have hbad : ¬ (fin (bnX s h m b k) = true ∧ fin (erF (bnS s h m b k) h (bnX s h m b k)) = true ∧ validS (bnS s h m b (k + 1)) = true) → v = ⟨[], 0, false⟩ := fun hc => hbn k hkC (by
        cases hb : bnO s h m b k with
        | false => rfl
        | true =>
          refine absurd ?_ hc
          rw [hO] at hb
          simpa only [Bool.and_eq_true, and_assoc] using hb)
      refine nlex_if rfl rfl rfl (fun g1 => ?_) (fun g1 => ?_)
      · simp only [Bool.not_eq_true'] at g1
        repeat (first | (refine kx_q (h := ?_)) | (refine kxd_q (h := ?_)) | (refine kw_s (h := ?_)) | (refine kw_t (h := ?_)) | (refine kw_k (h := ?_)) | (refine ky_s (h := ?_)) | (refine ky_t (h := ?_)) | (refine ky_k (h := ?_)) | (refine lex_nil (by kernel_rfl) ?_) | (refine awp_sq ?_) | (refine awp_rg ?_) | (refine awp_rd (by kernel_rfl) (by kernel_rfl) ?_) | (refine awp_block ?_) | (refine awp_exit ?_) | (refine awp_ret ?_) | (refine awp_skip ?_))
        refine awp_cond (b := _) rfl (fun h9 => ?_) (fun h9 => by cases h9)
        repeat (first | (refine kx_q (h := ?_)) | (refine kxd_q (h := ?_)) | (refine kw_s (h := ?_)) | (refine kw_t (h := ?_)) | (refine kw_k (h := ?_)) | (refine ky_s (h := ?_)) | (refine ky_t (h := ?_)) | (refine ky_k (h := ?_)) | (refine lex_nil (by kernel_rfl) ?_) | (refine awp_sq ?_) | (refine awp_rg ?_) | (refine awp_rd (by kernel_rfl) (by kernel_rfl) ?_) | (refine awp_block ?_) | (refine awp_exit ?_) | (refine awp_ret ?_) | (refine awp_skip ?_))
        rw [hbad (fun hc => by rw [g1] at hc; cases hc.1)]
        (refine ret_ok tyOk (by first | exact .inr rfl | exact .inl rfl) pi0 rfl (by first | exact .cons (by first | exact .tmp | exact .cell rfl rfl rfl rfl rfl rfl | exact .cell1 rfl rfl rfl rfl rfl) .nil | exact .cons (by first | exact .tmp | exact .cell rfl rfl rfl rfl rfl rfl | exact .cell1 rfl rfl rfl rfl rfl) (.cons (by first | exact .tmp | exact .cell rfl rfl rfl rfl rfl rfl | exact .cell1 rfl rfl rfl rfl rfl) .nil) | exact .cons (by first | exact .tmp | exact .cell rfl rfl rfl rfl rfl rfl | exact .cell1 rfl rfl rfl rfl rfl) (.cons (by first | exact .tmp | exact .cell rfl rfl rfl rfl rfl rfl | exact .cell1 rfl rfl rfl rfl rfl) (.cons (by first | exact .tmp | exact .cell rfl rfl rfl rfl rfl rfl | exact .cell1 rfl rfl rfl rfl rfl) .nil)) | exact .cons (by first | exact .tmp | exact .cell rfl rfl rfl rfl rfl rfl | exact .cell1 rfl rfl rfl rfl rfl) (.cons (by first | exact .tmp | exact .cell rfl rfl rfl rfl rfl rfl | exact .cell1 rfl rfl rfl rfl rfl) (.cons (by first | exact .tmp | exact .cell rfl rfl rfl rfl rfl rfl | exact .cell1 rfl rfl rfl rfl rfl) (.cons (by first | exact .tmp | exact .cell rfl rfl rfl rfl rfl rfl | exact .cell1 rfl rfl rfl rfl rfl) .nil)))) ?_ ⟨⟨_, _, rfl, rfl, rfl⟩, trivial⟩ (injO_1 _ _ _); (repeat' (first | exact RetRelL.nil | (refine RetRel.nil rfl ?_) | refine RetRelL.cons ?_ ?_ | refine rr_tup ?_ | refine rr_agg ?_ | refine rr_own rfl ?_ | exact RetRel.arg | exact RetRel.argc | refine rr_t ?_)); all_goals rfl)
      simp only [Bool.not_eq_false'] at g1
      repeat (first | (refine kx_q (h := ?_)) | (refine kxd_q (h := ?_)) | (refine kw_s (h := ?_)) | (refine kw_t (h := ?_)) | (refine kw_k (h := ?_)) | (refine ky_s (h := ?_)) | (refine ky_t (h := ?_)) | (refine ky_k (h := ?_)) | (refine lex_nil (by kernel_rfl) ?_) | (refine awp_sq ?_) | (refine awp_rg ?_) | (refine awp_rd (by kernel_rfl) (by kernel_rfl) ?_) | (refine awp_block ?_) | (refine awp_exit ?_) | (refine awp_ret ?_) | (refine awp_skip ?_))
      (first | (refine kc_q (l01Finite_c (erF (bnS s h m b k) h (bnX s h m b k))) (h := ?_)) | (refine kz_q (l01Finite_c (erF (bnS s h m b k) h (bnX s h m b k))) (h := ?_)))
      repeat (first | (refine kx_q (h := ?_)) | (refine kxd_q (h := ?_)) | (refine kw_s (h := ?_)) | (refine kw_t (h := ?_)) | (refine kw_k (h := ?_)) | (refine ky_s (h := ?_)) | (refine ky_t (h := ?_)) | (refine ky_k (h := ?_)) | (refine lex_nil (by kernel_rfl) ?_) | (refine awp_sq ?_) | (refine awp_rg ?_) | (refine awp_rd (by kernel_rfl) (by kernel_rfl) ?_) | (refine awp_block ?_) | (refine awp_exit ?_) | (refine awp_ret ?_) | (refine awp_skip ?_))
      refine nlex_if rfl rfl rfl (fun g2 => ?_) (fun g2 => ?_)
      · simp only [Bool.not_eq_true'] at g2
        repeat (first | (refine kx_q (h := ?_)) | (refine kxd_q (h := ?_)) | (refine kw_s (h := ?_)) | (refine kw_t (h := ?_)) | (refine kw_k (h := ?_)) | (refine ky_s (h := ?_)) | (refine ky_t (h := ?_)) | (refine ky_k (h := ?_)) | (refine lex_nil (by kernel_rfl) ?_) | (refine awp_sq ?_) | (refine awp_rg ?_) | (refine awp_rd (by kernel_rfl) (by kernel_rfl) ?_) | (refine awp_block ?_) | (refine awp_exit ?_) | (refine awp_ret ?_) | (refine awp_skip ?_))
        refine awp_cond (b := _) rfl (fun h9 => ?_) (fun h9 => by cases h9)
        repeat (first | (refine kx_q (h := ?_)) | (refine kxd_q (h := ?_)) | (refine kw_s (h := ?_)) | (refine kw_t (h := ?_)) | (refine kw_k (h := ?_)) | (refine ky_s (h := ?_)) | (refine ky_t (h := ?_)) | (refine ky_k (h := ?_)) | (refine lex_nil (by kernel_rfl) ?_) | (refine awp_sq ?_) | (refine awp_rg ?_) | (refine awp_rd (by kernel_rfl) (by kernel_rfl) ?_) | (refine awp_block ?_) | (refine awp_exit ?_) | (refine awp_ret ?_) | (refine awp_skip ?_))
        rw [hbad (fun hc => by rw [g2] at hc; cases hc.2.1)]
        (refine ret_ok tyOk (by first | exact .inr rfl | exact .inl rfl) pi0 rfl (by first | exact .cons (by first | exact .tmp | exact .cell rfl rfl rfl rfl rfl rfl | exact .cell1 rfl rfl rfl rfl rfl) .nil | exact .cons (by first | exact .tmp | exact .cell rfl rfl rfl rfl rfl rfl | exact .cell1 rfl rfl rfl rfl rfl) (.cons (by first | exact .tmp | exact .cell rfl rfl rfl rfl rfl rfl | exact .cell1 rfl rfl rfl rfl rfl) .nil) | exact .cons (by first | exact .tmp | exact .cell rfl rfl rfl rfl rfl rfl | exact .cell1 rfl rfl rfl rfl rfl) (.cons (by first | exact .tmp | exact .cell rfl rfl rfl rfl rfl rfl | exact .cell1 rfl rfl rfl rfl rfl) (.cons (by first | exact .tmp | exact .cell rfl rfl rfl rfl rfl rfl | exact .cell1 rfl rfl rfl rfl rfl) .nil)) | exact .cons (by first | exact .tmp | exact .cell rfl rfl rfl rfl rfl rfl | exact .cell1 rfl rfl rfl rfl rfl) (.cons (by first | exact .tmp | exact .cell rfl rfl rfl rfl rfl rfl | exact .cell1 rfl rfl rfl rfl rfl) (.cons (by first | exact .tmp | exact .cell rfl rfl rfl rfl rfl rfl | exact .cell1 rfl rfl rfl rfl rfl) (.cons (by first | exact .tmp | exact .cell rfl rfl rfl rfl rfl rfl | exact .cell1 rfl rfl rfl rfl rfl) .nil)))) ?_ ⟨⟨_, _, rfl, rfl, rfl⟩, trivial⟩ (injO_1 _ _ _); (repeat' (first | exact RetRelL.nil | (refine RetRel.nil rfl ?_) | refine RetRelL.cons ?_ ?_ | refine rr_tup ?_ | refine rr_agg ?_ | refine rr_own rfl ?_ | exact RetRel.arg | exact RetRel.argc | refine rr_t ?_)); all_goals rfl)
      simp only [Bool.not_eq_false'] at g2
      repeat (first | (refine kx_q (h := ?_)) | (refine kxd_q (h := ?_)) | (refine kw_s (h := ?_)) | (refine kw_t (h := ?_)) | (refine kw_k (h := ?_)) | (refine ky_s (h := ?_)) | (refine ky_t (h := ?_)) | (refine ky_k (h := ?_)) | (refine lex_nil (by kernel_rfl) ?_) | (refine awp_sq ?_) | (refine awp_rg ?_) | (refine awp_rd (by kernel_rfl) (by kernel_rfl) ?_) | (refine awp_block ?_) | (refine awp_exit ?_) | (refine awp_ret ?_) | (refine awp_skip ?_))
      (first | (refine kc_q (l04Is_c (bnS s h m b (k + 1)) hl2) (h := ?_)) | (refine kz_q (l04Is_c (bnS s h m b (k + 1)) hl2) (h := ?_)))
      repeat (first | (refine kx_q (h := ?_)) | (refine kxd_q (h := ?_)) | (refine kw_s (h := ?_)) | (refine kw_t (h := ?_)) | (refine kw_k (h := ?_)) | (refine ky_s (h := ?_)) | (refine ky_t (h := ?_)) | (refine ky_k (h := ?_)) | (refine lex_nil (by kernel_rfl) ?_) | (refine awp_sq ?_) | (refine awp_rg ?_) | (refine awp_rd (by kernel_rfl) (by kernel_rfl) ?_) | (refine awp_block ?_) | (refine awp_exit ?_) | (refine awp_ret ?_) | (refine awp_skip ?_))
      refine awp_cond (b := _) rfl (fun g3 => ?_) (fun g3 => ?_)
      · simp only [Bool.not_eq_true'] at g3
        repeat (first | (refine kx_q (h := ?_)) | (refine kxd_q (h := ?_)) | (refine kw_s (h := ?_)) | (refine kw_t (h := ?_)) | (refine kw_k (h := ?_)) | (refine ky_s (h := ?_)) | (refine ky_t (h := ?_)) | (refine ky_k (h := ?_)) | (refine lex_nil (by kernel_rfl) ?_) | (refine awp_sq ?_) | (refine awp_rg ?_) | (refine awp_rd (by kernel_rfl) (by kernel_rfl) ?_) | (refine awp_block ?_) | (refine awp_exit ?_) | (refine awp_ret ?_) | (refine awp_skip ?_))
        rw [hbad (fun hc => by rw [g3] at hc; cases hc.2.2)]
        (refine ret_ok tyOk (by first | exact .inr rfl | exact .inl rfl) pi0 rfl (by first | exact .cons (by first | exact .tmp | exact .cell rfl rfl rfl rfl rfl rfl | exact .cell1 rfl rfl rfl rfl rfl) .nil | exact .cons (by first | exact .tmp | exact .cell rfl rfl rfl rfl rfl rfl | exact .cell1 rfl rfl rfl rfl rfl) (.cons (by first | exact .tmp | exact .cell rfl rfl rfl rfl rfl rfl | exact .cell1 rfl rfl rfl rfl rfl) .nil) | exact .cons (by first | exact .tmp | exact .cell rfl rfl rfl rfl rfl rfl | exact .cell1 rfl rfl rfl rfl rfl) (.cons (by first | exact .tmp | exact .cell rfl rfl rfl rfl rfl rfl | exact .cell1 rfl rfl rfl rfl rfl) (.cons (by first | exact .tmp | exact .cell rfl rfl rfl rfl rfl rfl | exact .cell1 rfl rfl rfl rfl rfl) .nil)) | exact .cons (by first | exact .tmp | exact .cell rfl rfl rfl rfl rfl rfl | exact .cell1 rfl rfl rfl rfl rfl) (.cons (by first | exact .tmp | exact .cell rfl rfl rfl rfl rfl rfl | exact .cell1 rfl rfl rfl rfl rfl) (.cons (by first | exact .tmp | exact .cell rfl rfl rfl rfl rfl rfl | exact .cell1 rfl rfl rfl rfl rfl) (.cons (by first | exact .tmp | exact .cell rfl rfl rfl rfl rfl rfl | exact .cell1 rfl rfl rfl rfl rfl) .nil)))) ?_ ⟨⟨_, _, rfl, rfl, rfl⟩, trivial⟩ (injO_1 _ _ _); (repeat' (first | exact RetRelL.nil | (refine RetRel.nil rfl ?_) | refine RetRelL.cons ?_ ?_ | refine rr_tup ?_ | refine rr_agg ?_ | refine rr_own rfl ?_ | exact RetRel.arg | exact RetRel.argc | refine rr_t ?_)); all_goals rfl)
      simp only [Bool.not_eq_false'] at g3
      refine awp_skip ?_
      repeat (first | (refine kx_q (h := ?_)) | (refine kxd_q (h := ?_)) | (refine kw_s (h := ?_)) | (refine kw_t (h := ?_)) | (refine kw_k (h := ?_)) | (refine ky_s (h := ?_)) | (refine ky_t (h := ?_)) | (refine ky_k (h := ?_)) | (refine lex_nil (by kernel_rfl) ?_) | (refine awp_sq ?_) | (refine awp_rg ?_) | (refine awp_rd (by kernel_rfl) (by kernel_rfl) ?_) | (refine awp_block ?_) | (refine awp_exit ?_) | (refine awp_ret ?_) | (refine awp_skip ?_))
      (first | (refine ka_s (hn := by exact hz1) (h := ?_)) | (refine kb_s (hn := by exact hz1) (h := ?_)))
      repeat (first | (refine kx_q (h := ?_)) | (refine kxd_q (h := ?_)) | (refine kw_s (h := ?_)) | (refine kw_t (h := ?_)) | (refine kw_k (h := ?_)) | (refine ky_s (h := ?_)) | (refine ky_t (h := ?_)) | (refine ky_k (h := ?_)) | (refine lex_nil (by kernel_rfl) ?_) | (refine awp_sq ?_) | (refine awp_rg ?_) | (refine awp_rd (by kernel_rfl) (by kernel_rfl) ?_) | (refine awp_block ?_) | (refine awp_exit ?_) | (refine awp_ret ?_) | (refine awp_skip ?_))
      exact ⟨k + 1, by omega, famN_0 (H := fun k => [(64, .sl 30 (.fl ((bwR s h m sd C d).take k))), (19, .box 70 [.t (.f .f32 (bnS s h m b k).l), .t (.f .f32 (bnS s h m b k).s), .t (.fl (bnS s h m b k).se), .t (.v (.int .i64 (bnS s h m b k).at_))]), (57, .nest 24 (NL (bwL s h m sd C d)) [] noRem), (8, .box 72 [.t (.f .f32 h.l), .t (.f .f32 h.s), .t (.f .f32 h.c), .t (.f .f32 h.d)]), (7, .box 70 [.t (.f .f32 s.l), .t (.f .f32 s.s), .argc 0 2 (.fl s.se), .t (.v (.int .i64 s.at_))])]) (k + 1) ⟨by omega, fun j hj => (Nat.lt_or_eq_of_le (Nat.le_of_lt_succ hj)).elim (fun hj' => hokk j hj') (fun hj' => by rw [hj', hO, g1, g2, g3]; rfl)⟩
        ⟨rfl, rfl, rfl, rfl, rfl, rfl, rfl, rfl, rfl, rfl, own_l2 (by show ((bwR s h m sd C d).take k ++ [bnX s h m b k]).length = k + 1; rw [List.length_append, hz1]; rfl), iE12 (by omega), trivial⟩ ⟨.inl (by rw [← take_snoc (by omega) (hrg k hkC)]; rfl), rfl, NL_same rfl, rfl, rfl, trivial⟩⟩
    simp only [icmp, decide_eq_false_iff_not] at h2
    obtain rfl : k = C := by omega
    rw [show (bwR s h m sd k d).take k = bwR s h m sd k d from List.take_of_length_le (by omega)]
    repeat (first | (refine kx_q (h := ?_)) | (refine kxd_q (h := ?_)) | (refine kw_s (h := ?_)) | (refine kw_t (h := ?_)) | (refine kw_k (h := ?_)) | (refine ky_s (h := ?_)) | (refine ky_t (h := ?_)) | (refine ky_k (h := ?_)) | (refine lex_nil (by kernel_rfl) ?_) | (refine awp_sq ?_) | (refine awp_rg ?_) | (refine awp_rd (by kernel_rfl) (by kernel_rfl) ?_) | (refine awp_block ?_) | (refine awp_exit ?_) | (refine awp_ret ?_) | (refine awp_skip ?_))
    (refine kw_rs (q_bslice_nest (L := [.own 64 0 k]) [64] tyOk rfl rfl rfl rfl rfl rfl rfl rfl rfl rfl rfl rfl rfl) (h := ?_))
    repeat (first | (refine kx_q (h := ?_)) | (refine kxd_q (h := ?_)) | (refine kw_s (h := ?_)) | (refine kw_t (h := ?_)) | (refine kw_k (h := ?_)) | (refine ky_s (h := ?_)) | (refine ky_t (h := ?_)) | (refine ky_k (h := ?_)) | (refine lex_nil (by kernel_rfl) ?_) | (refine awp_sq ?_) | (refine awp_rg ?_) | (refine awp_rd (by kernel_rfl) (by kernel_rfl) ?_) | (refine awp_block ?_) | (refine awp_exit ?_) | (refine awp_ret ?_) | (refine awp_skip ?_))
    (refine kw_rs (q_app_nest (m := 1) (NL_good _) (own1_good _ _) ((NL_len _).trans hbl) rfl tyOk rfl rfl rfl rfl rfl rfl rfl rfl rfl rfl rfl rfl rfl rfl rfl (by simp only []; omega) (by omega)) (h := ?_))
    repeat (first | (refine kx_q (h := ?_)) | (refine kxd_q (h := ?_)) | (refine kw_s (h := ?_)) | (refine kw_t (h := ?_)) | (refine kw_k (h := ?_)) | (refine ky_s (h := ?_)) | (refine ky_t (h := ?_)) | (refine ky_k (h := ?_)) | (refine lex_nil (by kernel_rfl) ?_) | (refine awp_sq ?_) | (refine awp_rg ?_) | (refine awp_rd (by kernel_rfl) (by kernel_rfl) ?_) | (refine awp_block ?_) | (refine awp_exit ?_) | (refine awp_ret ?_) | (refine awp_skip ?_))
    exact ⟨d + 1, by omega, famN_0 (H := fun d => [(57, .nest 24 (NL (bwL s h m sd k d)) [] noRem), (8, .box 72 [.t (.f .f32 h.l), .t (.f .f32 h.s), .t (.f .f32 h.c), .t (.f .f32 h.d)]), (7, .box 70 [.t (.f .f32 s.l), .t (.f .f32 s.s), .argc 0 2 (.fl s.se), .t (.v (.int .i64 s.at_))])]) (d + 1) ⟨by omega, fun i hi j hj => (Nat.lt_or_eq_of_le (Nat.le_of_lt_succ hi)).elim (fun h' => hok i h' j hj) (fun h' => by rw [h', hbe]; exact hokk j hj)⟩
      ⟨rfl, rfl, rfl, iE12 (by rw [hnx]), rfl, rfl, rfl, rfl, iE12 (by omega), trivial⟩ ⟨by rw [← bwL_S]; exact NL_bto rfl rfl rfl hrl.symm rfl, rfl, rfl, trivial⟩⟩
  simp only [icmp, decide_eq_false_iff_not] at h1
  obtain rfl : d = D := by omega
  have hb := bOk_of hok
  refine awp_exit ?_
  refine awp_off [(3, .t (.v (.int .i64 (C : Nat)))), (5, .t (.v (.int .i64 ((sdI sd (d * C) : Nat) : Int)))), (6, .t (.f .f32 sh)), (17, .own 57 0 d)] [(57, .sl 24 (.ffl (bwL s h m sd C d)))] ⟨rfl, rfl, rfl, rfl, trivial⟩ ⟨NL_ffl rfl, trivial⟩ ?_
  exact sB_4 hC hD hs hF (hno hb) (hyes hb)
end Go.Proofs.Ytmnpdipiffmnhaa

