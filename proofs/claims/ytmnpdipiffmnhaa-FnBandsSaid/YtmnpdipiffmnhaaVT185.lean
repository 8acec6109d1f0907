import Derived.Test.YtmnpdipiffmnhaaVT2
import Derived.Test.YtmnpdipiffmnhaaVT184
import Derived.Test.YtmnpdipiffmnhaaVT176
import Derived.Test.YtmnpdipiffmnhaaVT104
import Derived.Test.YtmnpdipiffmnhaaVT109
import Derived.Test.YtmnpdipiffmnhaaVT108
import Derived.Test.YtmnpdipiffmnhaaVT162
set_option linter.unusedVariables false
set_option linter.unusedSimpArgs false
set_option maxRecDepth 20000
set_option maxHeartbeats 16000000
namespace Go.Proofs.Ytmnpdipiffmnhaa
open Go.Aw

/-! ### the walk of FnBands, over data that are named -/
theorem tcall_fl3B {P : Program} {f : FuncId} {ts : List T} {e : TypeId} {l : List Nat} {n : Nat} {v u : Value} (h : TCall P f ts (.tup [.own 0 n, .t (.v v), .t (.v u)]) [(0, .sl e (.fl l))]) (hn : n = l.length) : TCall P f ts (.tup [.t (.fl l), .t (.v v), .t (.v u)]) [] := by
  refine ⟨h.1, fun w args ha => (h.2 w args ha).mono ?_⟩
  rintro e' w' ⟨y, μ, rfl, hc, hr⟩
  refine ⟨y, fun _ => none, rfl, hc_none hc, ?_⟩
  rw [RRel] at hr
  obtain ⟨xs, rfl, hr⟩ := hr
  simp only [RRell] at hr
  obtain ⟨x1, r1, e1, h1, x2, r2, e2, h2, x3, r3, e3, h3, e4⟩ := hr
  rw [RRel]
  refine ⟨xs, rfl, ?_⟩
  rw [e1, e2, e3, e4]
  simp only [RRell, RRel]
  exact ⟨_, _, rfl, own_fl hc h1 hn, _, _, rfl, dat_v h2, _, _, rfl, dat_v h3, rfl⟩
theorem tcall_flF {P : Program} {f : FuncId} {ts : List T} {e : TypeId} {l : List Nat} {n : Nat} {k : FloatKind} {c : Nat} {u : Value} (h : TCall P f ts (.tup [.own 0 n, .t (.f k c), .t (.v u)]) [(0, .sl e (.fl l))]) (hn : n = l.length) : TCall P f ts (.tup [.t (.fl l), .t (.f k c), .t (.v u)]) [] := by
  refine ⟨h.1, fun w args ha => (h.2 w args ha).mono ?_⟩
  rintro e' w' ⟨y, μ, rfl, hc, hr⟩
  refine ⟨y, fun _ => none, rfl, hc_none hc, ?_⟩
  rw [RRel] at hr
  obtain ⟨xs, rfl, hr⟩ := hr
  simp only [RRell] at hr
  obtain ⟨x1, r1, e1, h1, x2, r2, e2, h2, x3, r3, e3, h3, e4⟩ := hr
  rw [RRel]
  refine ⟨xs, rfl, ?_⟩
  rw [e1, e2, e3, e4]
  simp only [RRell, RRel]
  exact ⟨_, _, rfl, own_fl hc h1 hn, _, _, rfl, dat_f h2, _, _, rfl, dat_v h3, rfl⟩
theorem gapcB (a b : Nat) : TCall Try.prog 57 [.f .f32 a, .f .f32 b] (.t (.f .f64 (gapR a b))) [] := r8Gap_c a b
theorem needs_get : ∀ i, i < 12 → needsL.getD i 0 = if (i : Int) % 3 = 2 then 1082130432 else 0 := by decide
/-- all that the law is given, and finds, by name -/
structure BF (code more : List Nat) (s : ST) (h : SH) (m list low high non ahead lev factors : List Nat) (x0 x1 x2 x3 x4 x5 C D sd : Nat) (nx ny : Int) (share lvl slope rate chance height : Nat) : Prop where
  tS : TCall Try.prog 52 [BY code] (.t (Tst s)) []
  tH : TCall Try.prog 53 [BY more] (.agg [.t (.f .f32 h.l), .t (.f .f32 h.s), .t (.f .f32 h.c), .t (.f .f32 h.d)]) []
  t40 : TCall Try.prog 55 [BY more, .v (.int .i64 40), .v (.int .i64 6)] (.t (.v (.int .i64 (x0 : Nat)))) []
  t41 : TCall Try.prog 55 [BY more, .v (.int .i64 41), .v (.int .i64 5)] (.t (.v (.int .i64 (x1 : Nat)))) []
  t42 : TCall Try.prog 55 [BY more, .v (.int .i64 42), .v (.int .i64 8)] (.t (.v (.int .i64 (x2 : Nat)))) []
  t43 : TCall Try.prog 55 [BY more, .v (.int .i64 43), .v (.int .i64 256)] (.t (.v (.int .i64 (x3 : Nat)))) []
  t44 : TCall Try.prog 55 [BY more, .v (.int .i64 44), .v (.int .i64 10)] (.t (.v (.int .i64 (x4 : Nat)))) []
  t45 : TCall Try.prog 55 [BY more, .v (.int .i64 45), .v (.int .i64 8)] (.t (.v (.int .i64 (x5 : Nat)))) []
  w0 : m.length = x0 + 1
  w1 : C = x1 + 1
  w2 : D = x2 + 1
  w3 : sd = x3 * 65537
  w4 : list.length = x4 + 1
  w5 : fop .quo .f32 (fint .f32 (x5 : Nat)) 1090519040 = share
  r : x0 < 6 ∧ x1 < 5 ∧ x2 < 8 ∧ x3 < 256 ∧ x4 < 10 ∧ x5 < 8
  tM : TCall Try.prog 54 [BY more, .v (.int .i64 (m.length : Nat))] (.t (.fl m)) []
  tL : TCall Try.prog 54 [BY code, .v (.int .i64 (list.length : Nat))] (.t (.fl list)) []
  tB1 : TCall Try.prog 48 [Tst s, Tsh h, .fl m, .v (.int .i64 (C : Nat)), .v (.int .i64 (D : Nat)), .v (.int .i64 (sd : Nat)), .f .f32 1048576000] (.tup [.t (.fl low), .t (.v (.int .i64 nx)), .t (.v (.bool true))]) []
  tB3 : TCall Try.prog 48 [Tst s, Tsh h, .fl m, .v (.int .i64 (C : Nat)), .v (.int .i64 (D : Nat)), .v (.int .i64 (sd : Nat)), .f .f32 1061158912] (.tup [.t (.fl high), .t (.v (.int .i64 nx)), .t (.v (.bool true))]) []
  tB2 : TCall Try.prog 48 [Tst s, Tsh h, .fl [0], .v (.int .i64 (C : Nat)), .v (.int .i64 (D : Nat)), .v (.int .i64 (sd : Nat)), .f .f32 1056964608] (.tup [.t (.fl non), .t (.v (.int .i64 ny)), .t (.v (.bool true))]) []
  tA : TCall Try.prog 56 [Tst s, Tsh h, .v (.int .i64 (C : Nat))] (.tup [.t (.fl ahead), .t (.v (.bool true))]) []
  l1 : low.length = C
  l2 : high.length = C
  l3 : non.length = C
  l4 : ahead.length = C
  k1 : ∀ k, k < C → fcmp .gtr .f32 (low.getD k 0) (high.getD k 0) = false
  k2 : ∀ k, k < C → fcmp .gtr .f64 (gapR (non.getD k 0) (ahead.getD k 0)) (fop .mul .f64 4576918229304087675 (fop .add .f64 4607182418800017408 (gapR (ahead.getD k 0) 0))) = false
  tV : TCall Try.prog 58 [.fl list, .f .f32 share] (.tup [.t (.fl lev), .t (.v (.bool true))]) []
  tD : TCall Try.prog 59 [.fl list, .f .f32 share] (.tup [.t (.f .f32 lvl), .t (.f .f32 slope), .t (.v (.bool true))]) []
  l5 : lev.length = list.length
  q0 : fcmp .neq .f32 (lev.getD 0 0) (list.getD 0 0) = false
  qz : fcmp .eql .f32 share 0 = true → fcmp .gtr .f64 (gapR lvl (list.getD 0 0)) 4562254508917369340 = false ∧ fcmp .neq .f32 slope 0 = false
  qs : ∀ i, i + 1 < list.length → fcmp .gtr .f64 (gapR (lev.getD (i + 1) 0) (fop .add .f32 (lev.getD i 0) (fop .mul .f32 share (fop .sub .f32 (list.getD (i + 1) 0) (lev.getD i 0))))) 4562254508917369340 = false
  tN : TCall Try.prog 60 [.fl needsL, .f .f32 share] (.tup [.t (.f .f32 rate), .t (.v (.bool true))]) []
  tC : TCall Try.prog 61 [.fl needsL, .f .f32 share, .f .f32 0] (.tup [.t (.f .f32 chance), .t (.v (.bool true))]) []
  tT : TCall Try.prog 62 [.fl seas5, .v (.int .i64 2), .f .f32 share] (.tup [.t (.fl factors), .t (.f .f32 height), .t (.v (.bool true))]) []
  l6 : factors.length = 2
  z1 : fcmp .lss .f64 (gapR rate 1068149419) 4562254508917369340 = true
  z2 : fcmp .lss .f64 (gapR chance 1068149419) 4562254508917369340 = true
  z3 : fcmp .lss .f64 (gapR height 1077936128) 4562254508917369340 = true
  z4 : fcmp .lss .f64 (gapR (factors.getD 0 0) 1059760811) 4562254508917369340 = true
  z5 : fcmp .lss .f64 (gapR (factors.getD 1 0) 1068149419) 4562254508917369340 = true
attribute [local irreducible] QRun LexD AWp TCall TMut fop fint fcmp fconv gapR
theorem walkB_19 {code more : List Nat} {s : ST} {h : SH} {m list low high non ahead lev factors : List Nat} {x0 x1 x2 x3 x4 x5 C D sd : Nat} {nx ny : Int} {share lvl slope rate chance height : Nat}
    (F : BF code more s h m list low high non ahead lev factors x0 x1 x2 x3 x4 x5 C D sd nx ny share lvl slope rate chance height) : AWp Try.prog Try.f8.ntmps (tlF Try.f8 19) (RetQ Try.prog Try.f8 (.t (.v (.bool true))) []) (lkF [(23, .t (.fl list)), (24, .t (.f .f32 share)), (25, .t (.fl lev))]) (lkH []) := by
  have hl5 := F.l5
  have hl6 := F.l6
  have r := F.r
  have hll : 1 ≤ list.length ∧ list.length ≤ 10 := by have := F.w4; omega
  repeat (first | (refine x_q (h := ?_)) | (refine xd_q (h := ?_)) | (refine w_q (h := ?_)) | (refine w_s (h := ?_)) | (refine w_t (h := ?_)) | (refine w_k (h := ?_)) | (refine y_q (h := ?_)) | (refine y_s (h := ?_)) | (refine y_t (h := ?_)) | (refine y_k (h := ?_)) | (refine lex_nil (by kernel_rfl) ?_) | (refine awp_sq ?_) | (refine awp_rg ?_) | (refine awp_rd (by kernel_rfl) (by kernel_rfl) ?_) | (refine awp_block ?_) | (refine awp_exit ?_) | (refine awp_ret ?_) | (refine awp_skip ?_))
  refine awp_loop (X := Nat) (fun j => j + 1 ≤ list.length) (fun j => [(23, .t (.fl list)), (24, .t (.f .f32 share)), (25, .t (.fl lev)), (30, .t (.v (.int .i64 ((j + 1 : Nat) : Int))))]) (fun _ => []) (fun j => list.length - j)
    0 ⟨by omega, fun i => i, ⟨rfl, rfl, rfl, rfl, trivial⟩, trivial, injOn_id _⟩ (fun j hj => ?_)
  repeat (first | (refine x_q (h := ?_)) | (refine xd_q (h := ?_)) | (refine w_q (h := ?_)) | (refine w_s (h := ?_)) | (refine w_t (h := ?_)) | (refine w_k (h := ?_)) | (refine y_q (h := ?_)) | (refine y_s (h := ?_)) | (refine y_t (h := ?_)) | (refine y_k (h := ?_)) | (refine lex_nil (by kernel_rfl) ?_) | (refine awp_sq ?_) | (refine awp_rg ?_) | (refine awp_rd (by kernel_rfl) (by kernel_rfl) ?_) | (refine awp_block ?_) | (refine awp_exit ?_) | (refine awp_ret ?_) | (refine awp_skip ?_))
  refine awp_if rfl (fun g => ?_) (fun g => ?_)
  · simp only [icmp, decide_eq_true_eq] at g
    have hjl : j + 1 < list.length := by omega
    have e := F.qs j hjl
    repeat (first | (refine x_q (h := ?_)) | (refine xd_q (h := ?_)) | (refine w_q (h := ?_)) | (refine w_s (h := ?_)) | (refine w_t (h := ?_)) | (refine w_k (h := ?_)) | (refine y_q (h := ?_)) | (refine y_s (h := ?_)) | (refine y_t (h := ?_)) | (refine y_k (h := ?_)) | (refine lex_nil (by kernel_rfl) ?_) | (refine awp_sq ?_) | (refine awp_rg ?_) | (refine awp_rd (by kernel_rfl) (by kernel_rfl) ?_) | (refine awp_block ?_) | (refine awp_exit ?_) | (refine awp_ret ?_) | (refine awp_skip ?_))
    try (first | (refine w_r (q_idx_tree (j + 1) tyOk rfl rfl rfl rfl rfl rfl rfl rfl (by omega) (by first | omega | (simp only [T.len]; omega) | assumption)) (h := ?_)) | (refine y_r (q_idx_tree (j + 1) tyOk rfl rfl rfl rfl rfl rfl rfl rfl (by omega) (by first | omega | (simp only [T.len]; omega) | assumption)) (h := ?_)))
    repeat (first | (refine x_q (h := ?_)) | (refine xd_q (h := ?_)) | (refine w_q (h := ?_)) | (refine w_s (h := ?_)) | (refine w_t (h := ?_)) | (refine w_k (h := ?_)) | (refine y_q (h := ?_)) | (refine y_s (h := ?_)) | (refine y_t (h := ?_)) | (refine y_k (h := ?_)) | (refine lex_nil (by kernel_rfl) ?_) | (refine awp_sq ?_) | (refine awp_rg ?_) | (refine awp_rd (by kernel_rfl) (by kernel_rfl) ?_) | (refine awp_block ?_) | (refine awp_exit ?_) | (refine awp_ret ?_) | (refine awp_skip ?_))
    try (first | (refine w_r (q_idx_tree (j) tyOk rfl rfl rfl rfl rfl rfl rfl rfl (by omega) (by first | omega | (simp only [T.len]; omega) | assumption)) (h := ?_)) | (refine y_r (q_idx_tree (j) tyOk rfl rfl rfl rfl rfl rfl rfl rfl (by omega) (by first | omega | (simp only [T.len]; omega) | assumption)) (h := ?_)))
    repeat (first | (refine x_q (h := ?_)) | (refine xd_q (h := ?_)) | (refine w_q (h := ?_)) | (refine w_s (h := ?_)) | (refine w_t (h := ?_)) | (refine w_k (h := ?_)) | (refine y_q (h := ?_)) | (refine y_s (h := ?_)) | (refine y_t (h := ?_)) | (refine y_k (h := ?_)) | (refine lex_nil (by kernel_rfl) ?_) | (refine awp_sq ?_) | (refine awp_rg ?_) | (refine awp_rd (by kernel_rfl) (by kernel_rfl) ?_) | (refine awp_block ?_) | (refine awp_exit ?_) | (refine awp_ret ?_) | (refine awp_skip ?_))
    try (first | (refine w_r (q_idx_tree (j + 1) tyOk rfl rfl rfl rfl rfl rfl rfl rfl (by omega) (by first | omega | (simp only [T.len]; omega) | assumption)) (h := ?_)) | (refine y_r (q_idx_tree (j + 1) tyOk rfl rfl rfl rfl rfl rfl rfl rfl (by omega) (by first | omega | (simp only [T.len]; omega) | assumption)) (h := ?_)))
    repeat (first | (refine x_q (h := ?_)) | (refine xd_q (h := ?_)) | (refine w_q (h := ?_)) | (refine w_s (h := ?_)) | (refine w_t (h := ?_)) | (refine w_k (h := ?_)) | (refine y_q (h := ?_)) | (refine y_s (h := ?_)) | (refine y_t (h := ?_)) | (refine y_k (h := ?_)) | (refine lex_nil (by kernel_rfl) ?_) | (refine awp_sq ?_) | (refine awp_rg ?_) | (refine awp_rd (by kernel_rfl) (by kernel_rfl) ?_) | (refine awp_block ?_) | (refine awp_exit ?_) | (refine awp_ret ?_) | (refine awp_skip ?_))
    try (first | (refine w_r (q_idx_tree (j) tyOk rfl rfl rfl rfl rfl rfl rfl rfl (by omega) (by first | omega | (simp only [T.len]; omega) | assumption)) (h := ?_)) | (refine y_r (q_idx_tree (j) tyOk rfl rfl rfl rfl rfl rfl rfl rfl (by omega) (by first | omega | (simp only [T.len]; omega) | assumption)) (h := ?_)))
    repeat (first | (refine x_q (h := ?_)) | (refine xd_q (h := ?_)) | (refine w_q (h := ?_)) | (refine w_s (h := ?_)) | (refine w_t (h := ?_)) | (refine w_k (h := ?_)) | (refine y_q (h := ?_)) | (refine y_s (h := ?_)) | (refine y_t (h := ?_)) | (refine y_k (h := ?_)) | (refine lex_nil (by kernel_rfl) ?_) | (refine awp_sq ?_) | (refine awp_rg ?_) | (refine awp_rd (by kernel_rfl) (by kernel_rfl) ?_) | (refine awp_block ?_) | (refine awp_exit ?_) | (refine awp_ret ?_) | (refine awp_skip ?_))
    (first | (refine c_q (gapcB _ _) (h := ?_)) | (refine z_q (gapcB _ _) (h := ?_)))
    repeat (first | (refine x_q (h := ?_)) | (refine xd_q (h := ?_)) | (refine w_q (h := ?_)) | (refine w_s (h := ?_)) | (refine w_t (h := ?_)) | (refine w_k (h := ?_)) | (refine y_q (h := ?_)) | (refine y_s (h := ?_)) | (refine y_t (h := ?_)) | (refine y_k (h := ?_)) | (refine lex_nil (by kernel_rfl) ?_) | (refine awp_sq ?_) | (refine awp_rg ?_) | (refine awp_rd (by kernel_rfl) (by kernel_rfl) ?_) | (refine awp_block ?_) | (refine awp_exit ?_) | (refine awp_ret ?_) | (refine awp_skip ?_))
    rw [e]
    refine awp_ifF rfl rfl ?_
    repeat (first | (refine x_q (h := ?_)) | (refine xd_q (h := ?_)) | (refine w_q (h := ?_)) | (refine w_s (h := ?_)) | (refine w_t (h := ?_)) | (refine w_k (h := ?_)) | (refine y_q (h := ?_)) | (refine y_s (h := ?_)) | (refine y_t (h := ?_)) | (refine y_k (h := ?_)) | (refine lex_nil (by kernel_rfl) ?_) | (refine awp_sq ?_) | (refine awp_rg ?_) | (refine awp_rd (by kernel_rfl) (by kernel_rfl) ?_) | (refine awp_block ?_) | (refine awp_exit ?_) | (refine awp_ret ?_) | (refine awp_skip ?_))
    exact ⟨j + 1, by omega, by omega, fun i => i, ⟨rfl, rfl, rfl, iE13 (by omega), trivial⟩, trivial, injOn_id _⟩
  simp only [icmp, decide_eq_false_iff_not] at g
  repeat (first | (refine x_q (h := ?_)) | (refine xd_q (h := ?_)) | (refine w_q (h := ?_)) | (refine w_s (h := ?_)) | (refine w_t (h := ?_)) | (refine w_k (h := ?_)) | (refine y_q (h := ?_)) | (refine y_s (h := ?_)) | (refine y_t (h := ?_)) | (refine y_k (h := ?_)) | (refine lex_nil (by kernel_rfl) ?_) | (refine awp_sq ?_) | (refine awp_rg ?_) | (refine awp_rd (by kernel_rfl) (by kernel_rfl) ?_) | (refine awp_block ?_) | (refine awp_exit ?_) | (refine awp_ret ?_) | (refine awp_skip ?_))
  refine awp_loop (X := Nat) (fun i => i ≤ 12) (fun i => [(24, .t (.f .f32 share)), (31, .own 268 0 i), (32, .t (.v (.int .i64 (i : Nat))))]) (fun i => [(268, .sl 30 (.fl (needsL.take i)))]) (fun i => 12 - i)
    0 ⟨by omega, fun i => i, ⟨rfl, rfl, rfl, trivial⟩, ⟨rfl, trivial⟩, injOn_id _⟩ (fun i hi => ?_)
  have hz : (needsL.take i).length = i := by simp; omega
  repeat (first | (refine x_q (h := ?_)) | (refine xd_q (h := ?_)) | (refine w_q (h := ?_)) | (refine w_s (h := ?_)) | (refine w_t (h := ?_)) | (refine w_k (h := ?_)) | (refine y_q (h := ?_)) | (refine y_s (h := ?_)) | (refine y_t (h := ?_)) | (refine y_k (h := ?_)) | (refine lex_nil (by kernel_rfl) ?_) | (refine awp_sq ?_) | (refine awp_rg ?_) | (refine awp_rd (by kernel_rfl) (by kernel_rfl) ?_) | (refine awp_block ?_) | (refine awp_exit ?_) | (refine awp_ret ?_) | (refine awp_skip ?_))
  refine awp_if rfl (fun g1 => ?_) (fun g1 => ?_)
  · simp only [icmp, decide_eq_true_eq] at g1
    have hi12 : i < 12 := by omega
    have hng := needs_get i hi12
    repeat (first | (refine x_q (h := ?_)) | (refine xd_q (h := ?_)) | (refine w_q (h := ?_)) | (refine w_s (h := ?_)) | (refine w_t (h := ?_)) | (refine w_k (h := ?_)) | (refine y_q (h := ?_)) | (refine y_s (h := ?_)) | (refine y_t (h := ?_)) | (refine y_k (h := ?_)) | (refine lex_nil (by kernel_rfl) ?_) | (refine awp_sq ?_) | (refine awp_rg ?_) | (refine awp_rd (by kernel_rfl) (by kernel_rfl) ?_) | (refine awp_block ?_) | (refine awp_exit ?_) | (refine awp_ret ?_) | (refine awp_skip ?_))
    (first | (refine w_r (q_rem rfl rfl rfl (by omega) (by omega)) (h := ?_)) | (refine y_r (q_rem rfl rfl rfl (by omega) (by omega)) (h := ?_)))
    repeat (first | (refine x_q (h := ?_)) | (refine xd_q (h := ?_)) | (refine w_q (h := ?_)) | (refine w_s (h := ?_)) | (refine w_t (h := ?_)) | (refine w_k (h := ?_)) | (refine y_q (h := ?_)) | (refine y_s (h := ?_)) | (refine y_t (h := ?_)) | (refine y_k (h := ?_)) | (refine lex_nil (by kernel_rfl) ?_) | (refine awp_sq ?_) | (refine awp_rg ?_) | (refine awp_rd (by kernel_rfl) (by kernel_rfl) ?_) | (refine awp_block ?_) | (refine awp_exit ?_) | (refine awp_ret ?_) | (refine awp_skip ?_))
    refine awp_if rfl (fun g2 => ?_) (fun g2 => ?_)
    · have g3 : (i : Int) % 3 = 2 := by simpa [icmp] using g2
      rw [if_pos g3] at hng
      repeat (first | (refine x_q (h := ?_)) | (refine xd_q (h := ?_)) | (refine w_q (h := ?_)) | (refine w_s (h := ?_)) | (refine w_t (h := ?_)) | (refine w_k (h := ?_)) | (refine y_q (h := ?_)) | (refine y_s (h := ?_)) | (refine y_t (h := ?_)) | (refine y_k (h := ?_)) | (refine lex_nil (by kernel_rfl) ?_) | (refine awp_sq ?_) | (refine awp_rg ?_) | (refine awp_rd (by kernel_rfl) (by kernel_rfl) ?_) | (refine awp_block ?_) | (refine awp_exit ?_) | (refine awp_ret ?_) | (refine awp_skip ?_))
      (first | (refine a_s (hn := by exact hz) (h := ?_)) | (refine b_s (hn := by exact hz) (h := ?_)))
      repeat (first | (refine x_q (h := ?_)) | (refine xd_q (h := ?_)) | (refine w_q (h := ?_)) | (refine w_s (h := ?_)) | (refine w_t (h := ?_)) | (refine w_k (h := ?_)) | (refine y_q (h := ?_)) | (refine y_s (h := ?_)) | (refine y_t (h := ?_)) | (refine y_k (h := ?_)) | (refine lex_nil (by kernel_rfl) ?_) | (refine awp_sq ?_) | (refine awp_rg ?_) | (refine awp_rd (by kernel_rfl) (by kernel_rfl) ?_) | (refine awp_block ?_) | (refine awp_exit ?_) | (refine awp_ret ?_) | (refine awp_skip ?_))
      exact ⟨i + 1, by omega, by omega, fun i => i, ⟨rfl, own_eq (by simp only [T.app, T.len, List.length_append, hz]; rfl), iE13 (by omega), trivial⟩, ⟨sl_eq (congrArg T.fl (take_snoc (by simp; omega) hng)), trivial⟩, injOn_id _⟩
    · have g3 : ¬ (i : Int) % 3 = 2 := by simpa [icmp] using g2
      rw [if_neg g3] at hng
      repeat (first | (refine x_q (h := ?_)) | (refine xd_q (h := ?_)) | (refine w_q (h := ?_)) | (refine w_s (h := ?_)) | (refine w_t (h := ?_)) | (refine w_k (h := ?_)) | (refine y_q (h := ?_)) | (refine y_s (h := ?_)) | (refine y_t (h := ?_)) | (refine y_k (h := ?_)) | (refine lex_nil (by kernel_rfl) ?_) | (refine awp_sq ?_) | (refine awp_rg ?_) | (refine awp_rd (by kernel_rfl) (by kernel_rfl) ?_) | (refine awp_block ?_) | (refine awp_exit ?_) | (refine awp_ret ?_) | (refine awp_skip ?_))
      (first | (refine a_s (hn := by exact hz) (h := ?_)) | (refine b_s (hn := by exact hz) (h := ?_)))
      repeat (first | (refine x_q (h := ?_)) | (refine xd_q (h := ?_)) | (refine w_q (h := ?_)) | (refine w_s (h := ?_)) | (refine w_t (h := ?_)) | (refine w_k (h := ?_)) | (refine y_q (h := ?_)) | (refine y_s (h := ?_)) | (refine y_t (h := ?_)) | (refine y_k (h := ?_)) | (refine lex_nil (by kernel_rfl) ?_) | (refine awp_sq ?_) | (refine awp_rg ?_) | (refine awp_rd (by kernel_rfl) (by kernel_rfl) ?_) | (refine awp_block ?_) | (refine awp_exit ?_) | (refine awp_ret ?_) | (refine awp_skip ?_))
      exact ⟨i + 1, by omega, by omega, fun i => i, ⟨rfl, own_eq (by simp only [T.app, T.len, List.length_append, hz]; rfl), iE13 (by omega), trivial⟩, ⟨sl_eq (congrArg T.fl (take_snoc (by simp; omega) hng)), trivial⟩, injOn_id _⟩
  simp only [icmp, decide_eq_false_iff_not] at g1
  obtain rfl : i = 12 := by omega
  rw [show needsL.take 12 = needsL from rfl]
  repeat (first | (refine x_q (h := ?_)) | (refine xd_q (h := ?_)) | (refine w_q (h := ?_)) | (refine w_s (h := ?_)) | (refine w_t (h := ?_)) | (refine w_k (h := ?_)) | (refine y_q (h := ?_)) | (refine y_s (h := ?_)) | (refine y_t (h := ?_)) | (refine y_k (h := ?_)) | (refine lex_nil (by kernel_rfl) ?_) | (refine awp_sq ?_) | (refine awp_rg ?_) | (refine awp_rd (by kernel_rfl) (by kernel_rfl) ?_) | (refine awp_block ?_) | (refine awp_exit ?_) | (refine awp_ret ?_) | (refine awp_skip ?_))
  (first | (refine c_q (F.tN) (h := ?_)) | (refine z_q (F.tN) (h := ?_)))
  repeat (first | (refine x_q (h := ?_)) | (refine xd_q (h := ?_)) | (refine w_q (h := ?_)) | (refine w_s (h := ?_)) | (refine w_t (h := ?_)) | (refine w_k (h := ?_)) | (refine y_q (h := ?_)) | (refine y_s (h := ?_)) | (refine y_t (h := ?_)) | (refine y_k (h := ?_)) | (refine lex_nil (by kernel_rfl) ?_) | (refine awp_sq ?_) | (refine awp_rg ?_) | (refine awp_rd (by kernel_rfl) (by kernel_rfl) ?_) | (refine awp_block ?_) | (refine awp_exit ?_) | (refine awp_ret ?_) | (refine awp_skip ?_))
  (first | (refine c_q (F.tC) (h := ?_)) | (refine z_q (F.tC) (h := ?_)))
  repeat (first | (refine x_q (h := ?_)) | (refine xd_q (h := ?_)) | (refine w_q (h := ?_)) | (refine w_s (h := ?_)) | (refine w_t (h := ?_)) | (refine w_k (h := ?_)) | (refine y_q (h := ?_)) | (refine y_s (h := ?_)) | (refine y_t (h := ?_)) | (refine y_k (h := ?_)) | (refine lex_nil (by kernel_rfl) ?_) | (refine awp_sq ?_) | (refine awp_rg ?_) | (refine awp_rd (by kernel_rfl) (by kernel_rfl) ?_) | (refine awp_block ?_) | (refine awp_exit ?_) | (refine awp_ret ?_) | (refine awp_skip ?_))
  (first | (refine c_q (F.tT) (h := ?_)) | (refine z_q (F.tT) (h := ?_)))
  repeat (first | (refine x_q (h := ?_)) | (refine xd_q (h := ?_)) | (refine w_q (h := ?_)) | (refine w_s (h := ?_)) | (refine w_t (h := ?_)) | (refine w_k (h := ?_)) | (refine y_q (h := ?_)) | (refine y_s (h := ?_)) | (refine y_t (h := ?_)) | (refine y_k (h := ?_)) | (refine lex_nil (by kernel_rfl) ?_) | (refine awp_sq ?_) | (refine awp_rg ?_) | (refine awp_rd (by kernel_rfl) (by kernel_rfl) ?_) | (refine awp_block ?_) | (refine awp_exit ?_) | (refine awp_ret ?_) | (refine awp_skip ?_))
  (first | (refine c_q (gapcB _ _) (h := ?_)) | (refine z_q (gapcB _ _) (h := ?_)))
  repeat (first | (refine x_q (h := ?_)) | (refine xd_q (h := ?_)) | (refine w_q (h := ?_)) | (refine w_s (h := ?_)) | (refine w_t (h := ?_)) | (refine w_k (h := ?_)) | (refine y_q (h := ?_)) | (refine y_s (h := ?_)) | (refine y_t (h := ?_)) | (refine y_k (h := ?_)) | (refine lex_nil (by kernel_rfl) ?_) | (refine awp_sq ?_) | (refine awp_rg ?_) | (refine awp_rd (by kernel_rfl) (by kernel_rfl) ?_) | (refine awp_block ?_) | (refine awp_exit ?_) | (refine awp_ret ?_) | (refine awp_skip ?_))
  rw [F.z1]
  repeat (first | (refine x_q (h := ?_)) | (refine xd_q (h := ?_)) | (refine w_q (h := ?_)) | (refine w_s (h := ?_)) | (refine w_t (h := ?_)) | (refine w_k (h := ?_)) | (refine y_q (h := ?_)) | (refine y_s (h := ?_)) | (refine y_t (h := ?_)) | (refine y_k (h := ?_)) | (refine lex_nil (by kernel_rfl) ?_) | (refine awp_sq ?_) | (refine awp_rg ?_) | (refine awp_rd (by kernel_rfl) (by kernel_rfl) ?_) | (refine awp_block ?_) | (refine awp_exit ?_) | (refine awp_ret ?_) | (refine awp_skip ?_))
  (first | (refine c_q (gapcB _ _) (h := ?_)) | (refine z_q (gapcB _ _) (h := ?_)))
  repeat (first | (refine x_q (h := ?_)) | (refine xd_q (h := ?_)) | (refine w_q (h := ?_)) | (refine w_s (h := ?_)) | (refine w_t (h := ?_)) | (refine w_k (h := ?_)) | (refine y_q (h := ?_)) | (refine y_s (h := ?_)) | (refine y_t (h := ?_)) | (refine y_k (h := ?_)) | (refine lex_nil (by kernel_rfl) ?_) | (refine awp_sq ?_) | (refine awp_rg ?_) | (refine awp_rd (by kernel_rfl) (by kernel_rfl) ?_) | (refine awp_block ?_) | (refine awp_exit ?_) | (refine awp_ret ?_) | (refine awp_skip ?_))
  rw [F.z2]
  repeat (first | (refine x_q (h := ?_)) | (refine xd_q (h := ?_)) | (refine w_q (h := ?_)) | (refine w_s (h := ?_)) | (refine w_t (h := ?_)) | (refine w_k (h := ?_)) | (refine y_q (h := ?_)) | (refine y_s (h := ?_)) | (refine y_t (h := ?_)) | (refine y_k (h := ?_)) | (refine lex_nil (by kernel_rfl) ?_) | (refine awp_sq ?_) | (refine awp_rg ?_) | (refine awp_rd (by kernel_rfl) (by kernel_rfl) ?_) | (refine awp_block ?_) | (refine awp_exit ?_) | (refine awp_ret ?_) | (refine awp_skip ?_))
  have h2 : icmp .eql ((factors.length : Nat) : Int) 2 = true := by rw [hl6]; rfl
  try rw [h2]
  repeat (first | (refine x_q (h := ?_)) | (refine xd_q (h := ?_)) | (refine w_q (h := ?_)) | (refine w_s (h := ?_)) | (refine w_t (h := ?_)) | (refine w_k (h := ?_)) | (refine y_q (h := ?_)) | (refine y_s (h := ?_)) | (refine y_t (h := ?_)) | (refine y_k (h := ?_)) | (refine lex_nil (by kernel_rfl) ?_) | (refine awp_sq ?_) | (refine awp_rg ?_) | (refine awp_rd (by kernel_rfl) (by kernel_rfl) ?_) | (refine awp_block ?_) | (refine awp_exit ?_) | (refine awp_ret ?_) | (refine awp_skip ?_))
  (first | (refine c_q (gapcB _ _) (h := ?_)) | (refine z_q (gapcB _ _) (h := ?_)))
  repeat (first | (refine x_q (h := ?_)) | (refine xd_q (h := ?_)) | (refine w_q (h := ?_)) | (refine w_s (h := ?_)) | (refine w_t (h := ?_)) | (refine w_k (h := ?_)) | (refine y_q (h := ?_)) | (refine y_s (h := ?_)) | (refine y_t (h := ?_)) | (refine y_k (h := ?_)) | (refine lex_nil (by kernel_rfl) ?_) | (refine awp_sq ?_) | (refine awp_rg ?_) | (refine awp_rd (by kernel_rfl) (by kernel_rfl) ?_) | (refine awp_block ?_) | (refine awp_exit ?_) | (refine awp_ret ?_) | (refine awp_skip ?_))
  rw [F.z3]
  repeat (first | (refine x_q (h := ?_)) | (refine xd_q (h := ?_)) | (refine w_q (h := ?_)) | (refine w_s (h := ?_)) | (refine w_t (h := ?_)) | (refine w_k (h := ?_)) | (refine y_q (h := ?_)) | (refine y_s (h := ?_)) | (refine y_t (h := ?_)) | (refine y_k (h := ?_)) | (refine lex_nil (by kernel_rfl) ?_) | (refine awp_sq ?_) | (refine awp_rg ?_) | (refine awp_rd (by kernel_rfl) (by kernel_rfl) ?_) | (refine awp_block ?_) | (refine awp_exit ?_) | (refine awp_ret ?_) | (refine awp_skip ?_))
  try (first | (refine w_r (q_idx_tree (0) tyOk rfl rfl rfl rfl rfl rfl rfl rfl (by omega) (by first | omega | (simp only [T.len]; omega) | assumption)) (h := ?_)) | (refine y_r (q_idx_tree (0) tyOk rfl rfl rfl rfl rfl rfl rfl rfl (by omega) (by first | omega | (simp only [T.len]; omega) | assumption)) (h := ?_)))
  repeat (first | (refine x_q (h := ?_)) | (refine xd_q (h := ?_)) | (refine w_q (h := ?_)) | (refine w_s (h := ?_)) | (refine w_t (h := ?_)) | (refine w_k (h := ?_)) | (refine y_q (h := ?_)) | (refine y_s (h := ?_)) | (refine y_t (h := ?_)) | (refine y_k (h := ?_)) | (refine lex_nil (by kernel_rfl) ?_) | (refine awp_sq ?_) | (refine awp_rg ?_) | (refine awp_rd (by kernel_rfl) (by kernel_rfl) ?_) | (refine awp_block ?_) | (refine awp_exit ?_) | (refine awp_ret ?_) | (refine awp_skip ?_))
  (first | (refine c_q (gapcB _ _) (h := ?_)) | (refine z_q (gapcB _ _) (h := ?_)))
  repeat (first | (refine x_q (h := ?_)) | (refine xd_q (h := ?_)) | (refine w_q (h := ?_)) | (refine w_s (h := ?_)) | (refine w_t (h := ?_)) | (refine w_k (h := ?_)) | (refine y_q (h := ?_)) | (refine y_s (h := ?_)) | (refine y_t (h := ?_)) | (refine y_k (h := ?_)) | (refine lex_nil (by kernel_rfl) ?_) | (refine awp_sq ?_) | (refine awp_rg ?_) | (refine awp_rd (by kernel_rfl) (by kernel_rfl) ?_) | (refine awp_block ?_) | (refine awp_exit ?_) | (refine awp_ret ?_) | (refine awp_skip ?_))
  rw [F.z4]
  repeat (first | (refine x_q (h := ?_)) | (refine xd_q (h := ?_)) | (refine w_q (h := ?_)) | (refine w_s (h := ?_)) | (refine w_t (h := ?_)) | (refine w_k (h := ?_)) | (refine y_q (h := ?_)) | (refine y_s (h := ?_)) | (refine y_t (h := ?_)) | (refine y_k (h := ?_)) | (refine lex_nil (by kernel_rfl) ?_) | (refine awp_sq ?_) | (refine awp_rg ?_) | (refine awp_rd (by kernel_rfl) (by kernel_rfl) ?_) | (refine awp_block ?_) | (refine awp_exit ?_) | (refine awp_ret ?_) | (refine awp_skip ?_))
  try (first | (refine w_r (q_idx_tree (1) tyOk rfl rfl rfl rfl rfl rfl rfl rfl (by omega) (by first | omega | (simp only [T.len]; omega) | assumption)) (h := ?_)) | (refine y_r (q_idx_tree (1) tyOk rfl rfl rfl rfl rfl rfl rfl rfl (by omega) (by first | omega | (simp only [T.len]; omega) | assumption)) (h := ?_)))
  repeat (first | (refine x_q (h := ?_)) | (refine xd_q (h := ?_)) | (refine w_q (h := ?_)) | (refine w_s (h := ?_)) | (refine w_t (h := ?_)) | (refine w_k (h := ?_)) | (refine y_q (h := ?_)) | (refine y_s (h := ?_)) | (refine y_t (h := ?_)) | (refine y_k (h := ?_)) | (refine lex_nil (by kernel_rfl) ?_) | (refine awp_sq ?_) | (refine awp_rg ?_) | (refine awp_rd (by kernel_rfl) (by kernel_rfl) ?_) | (refine awp_block ?_) | (refine awp_exit ?_) | (refine awp_ret ?_) | (refine awp_skip ?_))
  (first | (refine c_q (gapcB _ _) (h := ?_)) | (refine z_q (gapcB _ _) (h := ?_)))
  repeat (first | (refine x_q (h := ?_)) | (refine xd_q (h := ?_)) | (refine w_q (h := ?_)) | (refine w_s (h := ?_)) | (refine w_t (h := ?_)) | (refine w_k (h := ?_)) | (refine y_q (h := ?_)) | (refine y_s (h := ?_)) | (refine y_t (h := ?_)) | (refine y_k (h := ?_)) | (refine lex_nil (by kernel_rfl) ?_) | (refine awp_sq ?_) | (refine awp_rg ?_) | (refine awp_rd (by kernel_rfl) (by kernel_rfl) ?_) | (refine awp_block ?_) | (refine awp_exit ?_) | (refine awp_ret ?_) | (refine awp_skip ?_))
  rw [F.z5]
  repeat (first | (refine x_q (h := ?_)) | (refine xd_q (h := ?_)) | (refine w_q (h := ?_)) | (refine w_s (h := ?_)) | (refine w_t (h := ?_)) | (refine w_k (h := ?_)) | (refine y_q (h := ?_)) | (refine y_s (h := ?_)) | (refine y_t (h := ?_)) | (refine y_k (h := ?_)) | (refine lex_nil (by kernel_rfl) ?_) | (refine awp_sq ?_) | (refine awp_rg ?_) | (refine awp_rd (by kernel_rfl) (by kernel_rfl) ?_) | (refine awp_block ?_) | (refine awp_exit ?_) | (refine awp_ret ?_) | (refine awp_skip ?_))
  (refine ret_ok tyOk (by first | exact .inr rfl | exact .inl rfl) pi0 rfl (by first | exact .cons (by first | exact .tmp | exact .cell rfl rfl rfl rfl rfl rfl | exact .cell1 rfl rfl rfl rfl rfl) .nil | exact .cons (by first | exact .tmp | exact .cell rfl rfl rfl rfl rfl rfl | exact .cell1 rfl rfl rfl rfl rfl) (.cons (by first | exact .tmp | exact .cell rfl rfl rfl rfl rfl rfl | exact .cell1 rfl rfl rfl rfl rfl) .nil) | exact .cons (by first | exact .tmp | exact .cell rfl rfl rfl rfl rfl rfl | exact .cell1 rfl rfl rfl rfl rfl) (.cons (by first | exact .tmp | exact .cell rfl rfl rfl rfl rfl rfl | exact .cell1 rfl rfl rfl rfl rfl) (.cons (by first | exact .tmp | exact .cell rfl rfl rfl rfl rfl rfl | exact .cell1 rfl rfl rfl rfl rfl) .nil)) | exact .cons (by first | exact .tmp | exact .cell rfl rfl rfl rfl rfl rfl | exact .cell1 rfl rfl rfl rfl rfl) (.cons (by first | exact .tmp | exact .cell rfl rfl rfl rfl rfl rfl | exact .cell1 rfl rfl rfl rfl rfl) (.cons (by first | exact .tmp | exact .cell rfl rfl rfl rfl rfl rfl | exact .cell1 rfl rfl rfl rfl rfl) (.cons (by first | exact .tmp | exact .cell rfl rfl rfl rfl rfl rfl | exact .cell1 rfl rfl rfl rfl rfl) .nil)))) ?_ trivial (injO_0 _); (repeat' (first | exact RetRelL.nil | (refine RetRel.nil rfl ?_) | refine RetRelL.cons ?_ ?_ | refine rr_tup ?_ | refine rr_agg ?_ | refine rr_own rfl ?_ | exact RetRel.arg | exact RetRel.argc | refine rr_t ?_)); all_goals rfl)
theorem walkBands_c {code more : List Nat} {s : ST} {h : SH} {m list low high non ahead lev factors : List Nat} {x0 x1 x2 x3 x4 x5 C D sd : Nat} {nx ny : Int} {share lvl slope rate chance height : Nat} (hc : code.length ≤ 9223372036854775807) (hm : more.length ≤ 9223372036854775807) (hLg : r8Lg code more = false)
    (F : BF code more s h m list low high non ahead lev factors x0 x1 x2 x3 x4 x5 C D sd nx ny share lvl slope rate chance height) : TCall Try.prog 8 [BY code, BY more] (.t (.v (.bool true))) [] := by
  have r := F.r
  have w0 : (1 : Int) + (x0 : Int) = (m.length : Nat) := by have := F.w0; omega
  have w1 : (1 : Int) + (x1 : Int) = (C : Nat) := by have := F.w1; omega
  have w2 : (1 : Int) + (x2 : Int) = (D : Nat) := by have := F.w2; omega
  have w3 : (x3 : Int) * 65537 = (sd : Nat) := by have := F.w3; omega
  have w4 : (1 : Int) + (x4 : Int) = (list.length : Nat) := by have := F.w4; omega
  have hl5 := F.l5
  have hl6 := F.l6
  have hll : 1 ≤ list.length ∧ list.length ≤ 10 := by have := F.w4; omega
  have hCr : 1 ≤ C ∧ C ≤ 5 := by have := F.w1; omega
  have l1 := F.l1
  have l2 := F.l2
  have l3 := F.l3
  have l4 := F.l4
  refine tcall_of Try.func8 rfl (by kernel_rfl) (Nat.le_of_ble_eq_true rfl) rfl ?_
  simp only [argsL, argAV, argCs, argS]
  repeat (first | (refine x_q (h := ?_)) | (refine xd_q (h := ?_)) | (refine w_q (h := ?_)) | (refine w_s (h := ?_)) | (refine w_t (h := ?_)) | (refine w_k (h := ?_)) | (refine y_q (h := ?_)) | (refine y_s (h := ?_)) | (refine y_t (h := ?_)) | (refine y_k (h := ?_)) | (refine lex_nil (by kernel_rfl) ?_) | (refine awp_sq ?_) | (refine awp_rg ?_) | (refine awp_rd (by kernel_rfl) (by kernel_rfl) ?_) | (refine awp_block ?_) | (refine awp_exit ?_) | (refine awp_ret ?_) | (refine awp_skip ?_))
  (first | (refine c_q (r8Long_c code more hc hm) (h := ?_)) | (refine z_q (r8Long_c code more hc hm) (h := ?_)))
  rw [hLg]
  repeat (first | (refine x_q (h := ?_)) | (refine xd_q (h := ?_)) | (refine w_q (h := ?_)) | (refine w_s (h := ?_)) | (refine w_t (h := ?_)) | (refine w_k (h := ?_)) | (refine y_q (h := ?_)) | (refine y_s (h := ?_)) | (refine y_t (h := ?_)) | (refine y_k (h := ?_)) | (refine lex_nil (by kernel_rfl) ?_) | (refine awp_sq ?_) | (refine awp_rg ?_) | (refine awp_rd (by kernel_rfl) (by kernel_rfl) ?_) | (refine awp_block ?_) | (refine awp_exit ?_) | (refine awp_ret ?_) | (refine awp_skip ?_))
  refine awp_ifF rfl rfl ?_
  repeat (first | (refine x_q (h := ?_)) | (refine xd_q (h := ?_)) | (refine w_q (h := ?_)) | (refine w_s (h := ?_)) | (refine w_t (h := ?_)) | (refine w_k (h := ?_)) | (refine y_q (h := ?_)) | (refine y_s (h := ?_)) | (refine y_t (h := ?_)) | (refine y_k (h := ?_)) | (refine lex_nil (by kernel_rfl) ?_) | (refine awp_sq ?_) | (refine awp_rg ?_) | (refine awp_rd (by kernel_rfl) (by kernel_rfl) ?_) | (refine awp_block ?_) | (refine awp_exit ?_) | (refine awp_ret ?_) | (refine awp_skip ?_))
  (first | (refine c_q (F.tS) (h := ?_)) | (refine z_q (F.tS) (h := ?_)))
  repeat (first | (refine x_q (h := ?_)) | (refine xd_q (h := ?_)) | (refine w_q (h := ?_)) | (refine w_s (h := ?_)) | (refine w_t (h := ?_)) | (refine w_k (h := ?_)) | (refine y_q (h := ?_)) | (refine y_s (h := ?_)) | (refine y_t (h := ?_)) | (refine y_k (h := ?_)) | (refine lex_nil (by kernel_rfl) ?_) | (refine awp_sq ?_) | (refine awp_rg ?_) | (refine awp_rd (by kernel_rfl) (by kernel_rfl) ?_) | (refine awp_block ?_) | (refine awp_exit ?_) | (refine awp_ret ?_) | (refine awp_skip ?_))
  (first | (refine c_q (F.tH) (h := ?_)) | (refine z_q (F.tH) (h := ?_)))
  repeat (first | (refine x_q (h := ?_)) | (refine xd_q (h := ?_)) | (refine w_q (h := ?_)) | (refine w_s (h := ?_)) | (refine w_t (h := ?_)) | (refine w_k (h := ?_)) | (refine y_q (h := ?_)) | (refine y_s (h := ?_)) | (refine y_t (h := ?_)) | (refine y_k (h := ?_)) | (refine lex_nil (by kernel_rfl) ?_) | (refine awp_sq ?_) | (refine awp_rg ?_) | (refine awp_rd (by kernel_rfl) (by kernel_rfl) ?_) | (refine awp_block ?_) | (refine awp_exit ?_) | (refine awp_ret ?_) | (refine awp_skip ?_))
  (first | (refine c_q (F.t40) (h := ?_)) | (refine z_q (F.t40) (h := ?_)))
  repeat (first | (refine x_q (h := ?_)) | (refine xd_q (h := ?_)) | (refine w_q (h := ?_)) | (refine w_s (h := ?_)) | (refine w_t (h := ?_)) | (refine w_k (h := ?_)) | (refine y_q (h := ?_)) | (refine y_s (h := ?_)) | (refine y_t (h := ?_)) | (refine y_k (h := ?_)) | (refine lex_nil (by kernel_rfl) ?_) | (refine awp_sq ?_) | (refine awp_rg ?_) | (refine awp_rd (by kernel_rfl) (by kernel_rfl) ?_) | (refine awp_block ?_) | (refine awp_exit ?_) | (refine awp_ret ?_) | (refine awp_skip ?_))
  rw [w0]
  (first | (refine c_q (F.tM) (h := ?_)) | (refine z_q (F.tM) (h := ?_)))
  repeat (first | (refine x_q (h := ?_)) | (refine xd_q (h := ?_)) | (refine w_q (h := ?_)) | (refine w_s (h := ?_)) | (refine w_t (h := ?_)) | (refine w_k (h := ?_)) | (refine y_q (h := ?_)) | (refine y_s (h := ?_)) | (refine y_t (h := ?_)) | (refine y_k (h := ?_)) | (refine lex_nil (by kernel_rfl) ?_) | (refine awp_sq ?_) | (refine awp_rg ?_) | (refine awp_rd (by kernel_rfl) (by kernel_rfl) ?_) | (refine awp_block ?_) | (refine awp_exit ?_) | (refine awp_ret ?_) | (refine awp_skip ?_))
  (first | (refine c_q (F.t41) (h := ?_)) | (refine z_q (F.t41) (h := ?_)))
  repeat (first | (refine x_q (h := ?_)) | (refine xd_q (h := ?_)) | (refine w_q (h := ?_)) | (refine w_s (h := ?_)) | (refine w_t (h := ?_)) | (refine w_k (h := ?_)) | (refine y_q (h := ?_)) | (refine y_s (h := ?_)) | (refine y_t (h := ?_)) | (refine y_k (h := ?_)) | (refine lex_nil (by kernel_rfl) ?_) | (refine awp_sq ?_) | (refine awp_rg ?_) | (refine awp_rd (by kernel_rfl) (by kernel_rfl) ?_) | (refine awp_block ?_) | (refine awp_exit ?_) | (refine awp_ret ?_) | (refine awp_skip ?_))
  rw [w1]
  repeat (first | (refine x_q (h := ?_)) | (refine xd_q (h := ?_)) | (refine w_q (h := ?_)) | (refine w_s (h := ?_)) | (refine w_t (h := ?_)) | (refine w_k (h := ?_)) | (refine y_q (h := ?_)) | (refine y_s (h := ?_)) | (refine y_t (h := ?_)) | (refine y_k (h := ?_)) | (refine lex_nil (by kernel_rfl) ?_) | (refine awp_sq ?_) | (refine awp_rg ?_) | (refine awp_rd (by kernel_rfl) (by kernel_rfl) ?_) | (refine awp_block ?_) | (refine awp_exit ?_) | (refine awp_ret ?_) | (refine awp_skip ?_))
  (first | (refine c_q (F.t42) (h := ?_)) | (refine z_q (F.t42) (h := ?_)))
  repeat (first | (refine x_q (h := ?_)) | (refine xd_q (h := ?_)) | (refine w_q (h := ?_)) | (refine w_s (h := ?_)) | (refine w_t (h := ?_)) | (refine w_k (h := ?_)) | (refine y_q (h := ?_)) | (refine y_s (h := ?_)) | (refine y_t (h := ?_)) | (refine y_k (h := ?_)) | (refine lex_nil (by kernel_rfl) ?_) | (refine awp_sq ?_) | (refine awp_rg ?_) | (refine awp_rd (by kernel_rfl) (by kernel_rfl) ?_) | (refine awp_block ?_) | (refine awp_exit ?_) | (refine awp_ret ?_) | (refine awp_skip ?_))
  rw [w2]
  repeat (first | (refine x_q (h := ?_)) | (refine xd_q (h := ?_)) | (refine w_q (h := ?_)) | (refine w_s (h := ?_)) | (refine w_t (h := ?_)) | (refine w_k (h := ?_)) | (refine y_q (h := ?_)) | (refine y_s (h := ?_)) | (refine y_t (h := ?_)) | (refine y_k (h := ?_)) | (refine lex_nil (by kernel_rfl) ?_) | (refine awp_sq ?_) | (refine awp_rg ?_) | (refine awp_rd (by kernel_rfl) (by kernel_rfl) ?_) | (refine awp_block ?_) | (refine awp_exit ?_) | (refine awp_ret ?_) | (refine awp_skip ?_))
  (first | (refine c_q (F.t43) (h := ?_)) | (refine z_q (F.t43) (h := ?_)))
  repeat (first | (refine x_q (h := ?_)) | (refine xd_q (h := ?_)) | (refine w_q (h := ?_)) | (refine w_s (h := ?_)) | (refine w_t (h := ?_)) | (refine w_k (h := ?_)) | (refine y_q (h := ?_)) | (refine y_s (h := ?_)) | (refine y_t (h := ?_)) | (refine y_k (h := ?_)) | (refine lex_nil (by kernel_rfl) ?_) | (refine awp_sq ?_) | (refine awp_rg ?_) | (refine awp_rd (by kernel_rfl) (by kernel_rfl) ?_) | (refine awp_block ?_) | (refine awp_exit ?_) | (refine awp_ret ?_) | (refine awp_skip ?_))
  (first | (refine w_r (q_mul rfl rfl rfl (by omega)) (h := ?_)) | (refine y_r (q_mul rfl rfl rfl (by omega)) (h := ?_)))
  rw [w3]
  repeat (first | (refine x_q (h := ?_)) | (refine xd_q (h := ?_)) | (refine w_q (h := ?_)) | (refine w_s (h := ?_)) | (refine w_t (h := ?_)) | (refine w_k (h := ?_)) | (refine y_q (h := ?_)) | (refine y_s (h := ?_)) | (refine y_t (h := ?_)) | (refine y_k (h := ?_)) | (refine lex_nil (by kernel_rfl) ?_) | (refine awp_sq ?_) | (refine awp_rg ?_) | (refine awp_rd (by kernel_rfl) (by kernel_rfl) ?_) | (refine awp_block ?_) | (refine awp_exit ?_) | (refine awp_ret ?_) | (refine awp_skip ?_))
  (first | (refine c_q (F.tB1) (h := ?_)) | (refine z_q (F.tB1) (h := ?_)))
  repeat (first | (refine x_q (h := ?_)) | (refine xd_q (h := ?_)) | (refine w_q (h := ?_)) | (refine w_s (h := ?_)) | (refine w_t (h := ?_)) | (refine w_k (h := ?_)) | (refine y_q (h := ?_)) | (refine y_s (h := ?_)) | (refine y_t (h := ?_)) | (refine y_k (h := ?_)) | (refine lex_nil (by kernel_rfl) ?_) | (refine awp_sq ?_) | (refine awp_rg ?_) | (refine awp_rd (by kernel_rfl) (by kernel_rfl) ?_) | (refine awp_block ?_) | (refine awp_exit ?_) | (refine awp_ret ?_) | (refine awp_skip ?_))
  (first | (refine c_q (F.tB3) (h := ?_)) | (refine z_q (F.tB3) (h := ?_)))
  repeat (first | (refine x_q (h := ?_)) | (refine xd_q (h := ?_)) | (refine w_q (h := ?_)) | (refine w_s (h := ?_)) | (refine w_t (h := ?_)) | (refine w_k (h := ?_)) | (refine y_q (h := ?_)) | (refine y_s (h := ?_)) | (refine y_t (h := ?_)) | (refine y_k (h := ?_)) | (refine lex_nil (by kernel_rfl) ?_) | (refine awp_sq ?_) | (refine awp_rg ?_) | (refine awp_rd (by kernel_rfl) (by kernel_rfl) ?_) | (refine awp_block ?_) | (refine awp_exit ?_) | (refine awp_ret ?_) | (refine awp_skip ?_))
  (first | (refine c_q (F.tB2) (h := ?_)) | (refine z_q (F.tB2) (h := ?_)))
  repeat (first | (refine x_q (h := ?_)) | (refine xd_q (h := ?_)) | (refine w_q (h := ?_)) | (refine w_s (h := ?_)) | (refine w_t (h := ?_)) | (refine w_k (h := ?_)) | (refine y_q (h := ?_)) | (refine y_s (h := ?_)) | (refine y_t (h := ?_)) | (refine y_k (h := ?_)) | (refine lex_nil (by kernel_rfl) ?_) | (refine awp_sq ?_) | (refine awp_rg ?_) | (refine awp_rd (by kernel_rfl) (by kernel_rfl) ?_) | (refine awp_block ?_) | (refine awp_exit ?_) | (refine awp_ret ?_) | (refine awp_skip ?_))
  (first | (refine c_q (F.tA) (h := ?_)) | (refine z_q (F.tA) (h := ?_)))
  repeat (first | (refine x_q (h := ?_)) | (refine xd_q (h := ?_)) | (refine w_q (h := ?_)) | (refine w_s (h := ?_)) | (refine w_t (h := ?_)) | (refine w_k (h := ?_)) | (refine y_q (h := ?_)) | (refine y_s (h := ?_)) | (refine y_t (h := ?_)) | (refine y_k (h := ?_)) | (refine lex_nil (by kernel_rfl) ?_) | (refine awp_sq ?_) | (refine awp_rg ?_) | (refine awp_rd (by kernel_rfl) (by kernel_rfl) ?_) | (refine awp_block ?_) | (refine awp_exit ?_) | (refine awp_ret ?_) | (refine awp_skip ?_))
  refine awp_ifF rfl rfl ?_
  repeat (first | (refine x_q (h := ?_)) | (refine xd_q (h := ?_)) | (refine w_q (h := ?_)) | (refine w_s (h := ?_)) | (refine w_t (h := ?_)) | (refine w_k (h := ?_)) | (refine y_q (h := ?_)) | (refine y_s (h := ?_)) | (refine y_t (h := ?_)) | (refine y_k (h := ?_)) | (refine lex_nil (by kernel_rfl) ?_) | (refine awp_sq ?_) | (refine awp_rg ?_) | (refine awp_rd (by kernel_rfl) (by kernel_rfl) ?_) | (refine awp_block ?_) | (refine awp_exit ?_) | (refine awp_ret ?_) | (refine awp_skip ?_))
  refine awp_loop (X := Nat) (fun k => k ≤ C) (fun k => [(0, .arg 0 (BY code)), (1, .arg 1 (BY more)), (8, .t (.v (.int .i64 (C : Nat)))), (11, .t (.fl low)), (14, .t (.fl high)), (17, .t (.fl non)), (20, .t (.fl ahead)), (22, .t (.v (.int .i64 (k : Nat))))]) (fun _ => []) (fun k => C - k)
    0 ⟨Nat.zero_le _, fun i => i, ⟨rfl, rfl, rfl, rfl, rfl, rfl, rfl, rfl, trivial⟩, trivial, injOn_id _⟩ (fun k hk => ?_)
  repeat (first | (refine x_q (h := ?_)) | (refine xd_q (h := ?_)) | (refine w_q (h := ?_)) | (refine w_s (h := ?_)) | (refine w_t (h := ?_)) | (refine w_k (h := ?_)) | (refine y_q (h := ?_)) | (refine y_s (h := ?_)) | (refine y_t (h := ?_)) | (refine y_k (h := ?_)) | (refine lex_nil (by kernel_rfl) ?_) | (refine awp_sq ?_) | (refine awp_rg ?_) | (refine awp_rd (by kernel_rfl) (by kernel_rfl) ?_) | (refine awp_block ?_) | (refine awp_exit ?_) | (refine awp_ret ?_) | (refine awp_skip ?_))
  refine awp_if rfl (fun g => ?_) (fun g => ?_)
  · simp only [icmp, decide_eq_true_eq] at g
    have hkC : k < C := by omega
    have e1 := F.k1 k hkC
    have e2 := F.k2 k hkC
    repeat (first | (refine x_q (h := ?_)) | (refine xd_q (h := ?_)) | (refine w_q (h := ?_)) | (refine w_s (h := ?_)) | (refine w_t (h := ?_)) | (refine w_k (h := ?_)) | (refine y_q (h := ?_)) | (refine y_s (h := ?_)) | (refine y_t (h := ?_)) | (refine y_k (h := ?_)) | (refine lex_nil (by kernel_rfl) ?_) | (refine awp_sq ?_) | (refine awp_rg ?_) | (refine awp_rd (by kernel_rfl) (by kernel_rfl) ?_) | (refine awp_block ?_) | (refine awp_exit ?_) | (refine awp_ret ?_) | (refine awp_skip ?_))
    try (first | (refine w_r (q_idx_tree (k) tyOk rfl rfl rfl rfl rfl rfl rfl rfl (by omega) (by first | omega | (simp only [T.len]; omega) | assumption)) (h := ?_)) | (refine y_r (q_idx_tree (k) tyOk rfl rfl rfl rfl rfl rfl rfl rfl (by omega) (by first | omega | (simp only [T.len]; omega) | assumption)) (h := ?_)))
    repeat (first | (refine x_q (h := ?_)) | (refine xd_q (h := ?_)) | (refine w_q (h := ?_)) | (refine w_s (h := ?_)) | (refine w_t (h := ?_)) | (refine w_k (h := ?_)) | (refine y_q (h := ?_)) | (refine y_s (h := ?_)) | (refine y_t (h := ?_)) | (refine y_k (h := ?_)) | (refine lex_nil (by kernel_rfl) ?_) | (refine awp_sq ?_) | (refine awp_rg ?_) | (refine awp_rd (by kernel_rfl) (by kernel_rfl) ?_) | (refine awp_block ?_) | (refine awp_exit ?_) | (refine awp_ret ?_) | (refine awp_skip ?_))
    try (first | (refine w_r (q_idx_tree (k) tyOk rfl rfl rfl rfl rfl rfl rfl rfl (by omega) (by first | omega | (simp only [T.len]; omega) | assumption)) (h := ?_)) | (refine y_r (q_idx_tree (k) tyOk rfl rfl rfl rfl rfl rfl rfl rfl (by omega) (by first | omega | (simp only [T.len]; omega) | assumption)) (h := ?_)))
    repeat (first | (refine x_q (h := ?_)) | (refine xd_q (h := ?_)) | (refine w_q (h := ?_)) | (refine w_s (h := ?_)) | (refine w_t (h := ?_)) | (refine w_k (h := ?_)) | (refine y_q (h := ?_)) | (refine y_s (h := ?_)) | (refine y_t (h := ?_)) | (refine y_k (h := ?_)) | (refine lex_nil (by kernel_rfl) ?_) | (refine awp_sq ?_) | (refine awp_rg ?_) | (refine awp_rd (by kernel_rfl) (by kernel_rfl) ?_) | (refine awp_block ?_) | (refine awp_exit ?_) | (refine awp_ret ?_) | (refine awp_skip ?_))
    rw [e1]
    repeat (first | (refine x_q (h := ?_)) | (refine xd_q (h := ?_)) | (refine w_q (h := ?_)) | (refine w_s (h := ?_)) | (refine w_t (h := ?_)) | (refine w_k (h := ?_)) | (refine y_q (h := ?_)) | (refine y_s (h := ?_)) | (refine y_t (h := ?_)) | (refine y_k (h := ?_)) | (refine lex_nil (by kernel_rfl) ?_) | (refine awp_sq ?_) | (refine awp_rg ?_) | (refine awp_rd (by kernel_rfl) (by kernel_rfl) ?_) | (refine awp_block ?_) | (refine awp_exit ?_) | (refine awp_ret ?_) | (refine awp_skip ?_))
    try (first | (refine w_r (q_idx_tree (k) tyOk rfl rfl rfl rfl rfl rfl rfl rfl (by omega) (by first | omega | (simp only [T.len]; omega) | assumption)) (h := ?_)) | (refine y_r (q_idx_tree (k) tyOk rfl rfl rfl rfl rfl rfl rfl rfl (by omega) (by first | omega | (simp only [T.len]; omega) | assumption)) (h := ?_)))
    repeat (first | (refine x_q (h := ?_)) | (refine xd_q (h := ?_)) | (refine w_q (h := ?_)) | (refine w_s (h := ?_)) | (refine w_t (h := ?_)) | (refine w_k (h := ?_)) | (refine y_q (h := ?_)) | (refine y_s (h := ?_)) | (refine y_t (h := ?_)) | (refine y_k (h := ?_)) | (refine lex_nil (by kernel_rfl) ?_) | (refine awp_sq ?_) | (refine awp_rg ?_) | (refine awp_rd (by kernel_rfl) (by kernel_rfl) ?_) | (refine awp_block ?_) | (refine awp_exit ?_) | (refine awp_ret ?_) | (refine awp_skip ?_))
    try (first | (refine w_r (q_idx_tree (k) tyOk rfl rfl rfl rfl rfl rfl rfl rfl (by omega) (by first | omega | (simp only [T.len]; omega) | assumption)) (h := ?_)) | (refine y_r (q_idx_tree (k) tyOk rfl rfl rfl rfl rfl rfl rfl rfl (by omega) (by first | omega | (simp only [T.len]; omega) | assumption)) (h := ?_)))
    repeat (first | (refine x_q (h := ?_)) | (refine xd_q (h := ?_)) | (refine w_q (h := ?_)) | (refine w_s (h := ?_)) | (refine w_t (h := ?_)) | (refine w_k (h := ?_)) | (refine y_q (h := ?_)) | (refine y_s (h := ?_)) | (refine y_t (h := ?_)) | (refine y_k (h := ?_)) | (refine lex_nil (by kernel_rfl) ?_) | (refine awp_sq ?_) | (refine awp_rg ?_) | (refine awp_rd (by kernel_rfl) (by kernel_rfl) ?_) | (refine awp_block ?_) | (refine awp_exit ?_) | (refine awp_ret ?_) | (refine awp_skip ?_))
    (first | (refine c_q (gapcB _ _) (h := ?_)) | (refine z_q (gapcB _ _) (h := ?_)))
    repeat (first | (refine x_q (h := ?_)) | (refine xd_q (h := ?_)) | (refine w_q (h := ?_)) | (refine w_s (h := ?_)) | (refine w_t (h := ?_)) | (refine w_k (h := ?_)) | (refine y_q (h := ?_)) | (refine y_s (h := ?_)) | (refine y_t (h := ?_)) | (refine y_k (h := ?_)) | (refine lex_nil (by kernel_rfl) ?_) | (refine awp_sq ?_) | (refine awp_rg ?_) | (refine awp_rd (by kernel_rfl) (by kernel_rfl) ?_) | (refine awp_block ?_) | (refine awp_exit ?_) | (refine awp_ret ?_) | (refine awp_skip ?_))
    try (first | (refine w_r (q_idx_tree (k) tyOk rfl rfl rfl rfl rfl rfl rfl rfl (by omega) (by first | omega | (simp only [T.len]; omega) | assumption)) (h := ?_)) | (refine y_r (q_idx_tree (k) tyOk rfl rfl rfl rfl rfl rfl rfl rfl (by omega) (by first | omega | (simp only [T.len]; omega) | assumption)) (h := ?_)))
    repeat (first | (refine x_q (h := ?_)) | (refine xd_q (h := ?_)) | (refine w_q (h := ?_)) | (refine w_s (h := ?_)) | (refine w_t (h := ?_)) | (refine w_k (h := ?_)) | (refine y_q (h := ?_)) | (refine y_s (h := ?_)) | (refine y_t (h := ?_)) | (refine y_k (h := ?_)) | (refine lex_nil (by kernel_rfl) ?_) | (refine awp_sq ?_) | (refine awp_rg ?_) | (refine awp_rd (by kernel_rfl) (by kernel_rfl) ?_) | (refine awp_block ?_) | (refine awp_exit ?_) | (refine awp_ret ?_) | (refine awp_skip ?_))
    (first | (refine c_q (gapcB _ _) (h := ?_)) | (refine z_q (gapcB _ _) (h := ?_)))
    repeat (first | (refine x_q (h := ?_)) | (refine xd_q (h := ?_)) | (refine w_q (h := ?_)) | (refine w_s (h := ?_)) | (refine w_t (h := ?_)) | (refine w_k (h := ?_)) | (refine y_q (h := ?_)) | (refine y_s (h := ?_)) | (refine y_t (h := ?_)) | (refine y_k (h := ?_)) | (refine lex_nil (by kernel_rfl) ?_) | (refine awp_sq ?_) | (refine awp_rg ?_) | (refine awp_rd (by kernel_rfl) (by kernel_rfl) ?_) | (refine awp_block ?_) | (refine awp_exit ?_) | (refine awp_ret ?_) | (refine awp_skip ?_))
    rw [e2]
    repeat (first | (refine x_q (h := ?_)) | (refine xd_q (h := ?_)) | (refine w_q (h := ?_)) | (refine w_s (h := ?_)) | (refine w_t (h := ?_)) | (refine w_k (h := ?_)) | (refine y_q (h := ?_)) | (refine y_s (h := ?_)) | (refine y_t (h := ?_)) | (refine y_k (h := ?_)) | (refine lex_nil (by kernel_rfl) ?_) | (refine awp_sq ?_) | (refine awp_rg ?_) | (refine awp_rd (by kernel_rfl) (by kernel_rfl) ?_) | (refine awp_block ?_) | (refine awp_exit ?_) | (refine awp_ret ?_) | (refine awp_skip ?_))
    refine awp_ifF rfl rfl ?_
    repeat (first | (refine x_q (h := ?_)) | (refine xd_q (h := ?_)) | (refine w_q (h := ?_)) | (refine w_s (h := ?_)) | (refine w_t (h := ?_)) | (refine w_k (h := ?_)) | (refine y_q (h := ?_)) | (refine y_s (h := ?_)) | (refine y_t (h := ?_)) | (refine y_k (h := ?_)) | (refine lex_nil (by kernel_rfl) ?_) | (refine awp_sq ?_) | (refine awp_rg ?_) | (refine awp_rd (by kernel_rfl) (by kernel_rfl) ?_) | (refine awp_block ?_) | (refine awp_exit ?_) | (refine awp_ret ?_) | (refine awp_skip ?_))
    exact ⟨k + 1, by omega, by omega, fun i => i, ⟨rfl, rfl, rfl, rfl, rfl, rfl, rfl, iE13 (by omega), trivial⟩, trivial, injOn_id _⟩
  simp only [icmp, decide_eq_false_iff_not] at g
  repeat (first | (refine x_q (h := ?_)) | (refine xd_q (h := ?_)) | (refine w_q (h := ?_)) | (refine w_s (h := ?_)) | (refine w_t (h := ?_)) | (refine w_k (h := ?_)) | (refine y_q (h := ?_)) | (refine y_s (h := ?_)) | (refine y_t (h := ?_)) | (refine y_k (h := ?_)) | (refine lex_nil (by kernel_rfl) ?_) | (refine awp_sq ?_) | (refine awp_rg ?_) | (refine awp_rd (by kernel_rfl) (by kernel_rfl) ?_) | (refine awp_block ?_) | (refine awp_exit ?_) | (refine awp_ret ?_) | (refine awp_skip ?_))
  (first | (refine c_q (F.t44) (h := ?_)) | (refine z_q (F.t44) (h := ?_)))
  repeat (first | (refine x_q (h := ?_)) | (refine xd_q (h := ?_)) | (refine w_q (h := ?_)) | (refine w_s (h := ?_)) | (refine w_t (h := ?_)) | (refine w_k (h := ?_)) | (refine y_q (h := ?_)) | (refine y_s (h := ?_)) | (refine y_t (h := ?_)) | (refine y_k (h := ?_)) | (refine lex_nil (by kernel_rfl) ?_) | (refine awp_sq ?_) | (refine awp_rg ?_) | (refine awp_rd (by kernel_rfl) (by kernel_rfl) ?_) | (refine awp_block ?_) | (refine awp_exit ?_) | (refine awp_ret ?_) | (refine awp_skip ?_))
  rw [w4]
  (first | (refine c_q (F.tL) (h := ?_)) | (refine z_q (F.tL) (h := ?_)))
  repeat (first | (refine x_q (h := ?_)) | (refine xd_q (h := ?_)) | (refine w_q (h := ?_)) | (refine w_s (h := ?_)) | (refine w_t (h := ?_)) | (refine w_k (h := ?_)) | (refine y_q (h := ?_)) | (refine y_s (h := ?_)) | (refine y_t (h := ?_)) | (refine y_k (h := ?_)) | (refine lex_nil (by kernel_rfl) ?_) | (refine awp_sq ?_) | (refine awp_rg ?_) | (refine awp_rd (by kernel_rfl) (by kernel_rfl) ?_) | (refine awp_block ?_) | (refine awp_exit ?_) | (refine awp_ret ?_) | (refine awp_skip ?_))
  (first | (refine c_q (F.t45) (h := ?_)) | (refine z_q (F.t45) (h := ?_)))
  repeat (first | (refine x_q (h := ?_)) | (refine xd_q (h := ?_)) | (refine w_q (h := ?_)) | (refine w_s (h := ?_)) | (refine w_t (h := ?_)) | (refine w_k (h := ?_)) | (refine y_q (h := ?_)) | (refine y_s (h := ?_)) | (refine y_t (h := ?_)) | (refine y_k (h := ?_)) | (refine lex_nil (by kernel_rfl) ?_) | (refine awp_sq ?_) | (refine awp_rg ?_) | (refine awp_rd (by kernel_rfl) (by kernel_rfl) ?_) | (refine awp_block ?_) | (refine awp_exit ?_) | (refine awp_ret ?_) | (refine awp_skip ?_))
  rw [F.w5]
  repeat (first | (refine x_q (h := ?_)) | (refine xd_q (h := ?_)) | (refine w_q (h := ?_)) | (refine w_s (h := ?_)) | (refine w_t (h := ?_)) | (refine w_k (h := ?_)) | (refine y_q (h := ?_)) | (refine y_s (h := ?_)) | (refine y_t (h := ?_)) | (refine y_k (h := ?_)) | (refine lex_nil (by kernel_rfl) ?_) | (refine awp_sq ?_) | (refine awp_rg ?_) | (refine awp_rd (by kernel_rfl) (by kernel_rfl) ?_) | (refine awp_block ?_) | (refine awp_exit ?_) | (refine awp_ret ?_) | (refine awp_skip ?_))
  (first | (refine c_q (F.tV) (h := ?_)) | (refine z_q (F.tV) (h := ?_)))
  repeat (first | (refine x_q (h := ?_)) | (refine xd_q (h := ?_)) | (refine w_q (h := ?_)) | (refine w_s (h := ?_)) | (refine w_t (h := ?_)) | (refine w_k (h := ?_)) | (refine y_q (h := ?_)) | (refine y_s (h := ?_)) | (refine y_t (h := ?_)) | (refine y_k (h := ?_)) | (refine lex_nil (by kernel_rfl) ?_) | (refine awp_sq ?_) | (refine awp_rg ?_) | (refine awp_rd (by kernel_rfl) (by kernel_rfl) ?_) | (refine awp_block ?_) | (refine awp_exit ?_) | (refine awp_ret ?_) | (refine awp_skip ?_))
  (first | (refine c_q (F.tD) (h := ?_)) | (refine z_q (F.tD) (h := ?_)))
  repeat (first | (refine x_q (h := ?_)) | (refine xd_q (h := ?_)) | (refine w_q (h := ?_)) | (refine w_s (h := ?_)) | (refine w_t (h := ?_)) | (refine w_k (h := ?_)) | (refine y_q (h := ?_)) | (refine y_s (h := ?_)) | (refine y_t (h := ?_)) | (refine y_k (h := ?_)) | (refine lex_nil (by kernel_rfl) ?_) | (refine awp_sq ?_) | (refine awp_rg ?_) | (refine awp_rd (by kernel_rfl) (by kernel_rfl) ?_) | (refine awp_block ?_) | (refine awp_exit ?_) | (refine awp_ret ?_) | (refine awp_skip ?_))
  rw [F.q0]
  repeat (first | (refine x_q (h := ?_)) | (refine xd_q (h := ?_)) | (refine w_q (h := ?_)) | (refine w_s (h := ?_)) | (refine w_t (h := ?_)) | (refine w_k (h := ?_)) | (refine y_q (h := ?_)) | (refine y_s (h := ?_)) | (refine y_t (h := ?_)) | (refine y_k (h := ?_)) | (refine lex_nil (by kernel_rfl) ?_) | (refine awp_sq ?_) | (refine awp_rg ?_) | (refine awp_rd (by kernel_rfl) (by kernel_rfl) ?_) | (refine awp_block ?_) | (refine awp_exit ?_) | (refine awp_ret ?_) | (refine awp_skip ?_))
  cases hz : fcmp .eql .f32 share 0 with
  | true =>
    obtain ⟨z1, z2⟩ := F.qz hz
    repeat (first | (refine x_q (h := ?_)) | (refine xd_q (h := ?_)) | (refine w_q (h := ?_)) | (refine w_s (h := ?_)) | (refine w_t (h := ?_)) | (refine w_k (h := ?_)) | (refine y_q (h := ?_)) | (refine y_s (h := ?_)) | (refine y_t (h := ?_)) | (refine y_k (h := ?_)) | (refine lex_nil (by kernel_rfl) ?_) | (refine awp_sq ?_) | (refine awp_rg ?_) | (refine awp_rd (by kernel_rfl) (by kernel_rfl) ?_) | (refine awp_block ?_) | (refine awp_exit ?_) | (refine awp_ret ?_) | (refine awp_skip ?_))
    (first | (refine c_q (gapcB _ _) (h := ?_)) | (refine z_q (gapcB _ _) (h := ?_)))
    repeat (first | (refine x_q (h := ?_)) | (refine xd_q (h := ?_)) | (refine w_q (h := ?_)) | (refine w_s (h := ?_)) | (refine w_t (h := ?_)) | (refine w_k (h := ?_)) | (refine y_q (h := ?_)) | (refine y_s (h := ?_)) | (refine y_t (h := ?_)) | (refine y_k (h := ?_)) | (refine lex_nil (by kernel_rfl) ?_) | (refine awp_sq ?_) | (refine awp_rg ?_) | (refine awp_rd (by kernel_rfl) (by kernel_rfl) ?_) | (refine awp_block ?_) | (refine awp_exit ?_) | (refine awp_ret ?_) | (refine awp_skip ?_))
    rw [z1]
    repeat (first | (refine x_q (h := ?_)) | (refine xd_q (h := ?_)) | (refine w_q (h := ?_)) | (refine w_s (h := ?_)) | (refine w_t (h := ?_)) | (refine w_k (h := ?_)) | (refine y_q (h := ?_)) | (refine y_s (h := ?_)) | (refine y_t (h := ?_)) | (refine y_k (h := ?_)) | (refine lex_nil (by kernel_rfl) ?_) | (refine awp_sq ?_) | (refine awp_rg ?_) | (refine awp_rd (by kernel_rfl) (by kernel_rfl) ?_) | (refine awp_block ?_) | (refine awp_exit ?_) | (refine awp_ret ?_) | (refine awp_skip ?_))
    rw [z2]
    repeat (first | (refine x_q (h := ?_)) | (refine xd_q (h := ?_)) | (refine w_q (h := ?_)) | (refine w_s (h := ?_)) | (refine w_t (h := ?_)) | (refine w_k (h := ?_)) | (refine y_q (h := ?_)) | (refine y_s (h := ?_)) | (refine y_t (h := ?_)) | (refine y_k (h := ?_)) | (refine lex_nil (by kernel_rfl) ?_) | (refine awp_sq ?_) | (refine awp_rg ?_) | (refine awp_rd (by kernel_rfl) (by kernel_rfl) ?_) | (refine awp_block ?_) | (refine awp_exit ?_) | (refine awp_ret ?_) | (refine awp_skip ?_))
    refine awp_ifF rfl rfl ?_
    refine awp_skip ?_
    refine awp_weak (fun i => i) _ _ (by exact ⟨rfl, rfl, rfl, trivial⟩) (by exact trivial) (injOn_id _) (walkB_19 F)
  | false =>
    repeat (first | (refine x_q (h := ?_)) | (refine xd_q (h := ?_)) | (refine w_q (h := ?_)) | (refine w_s (h := ?_)) | (refine w_t (h := ?_)) | (refine w_k (h := ?_)) | (refine y_q (h := ?_)) | (refine y_s (h := ?_)) | (refine y_t (h := ?_)) | (refine y_k (h := ?_)) | (refine lex_nil (by kernel_rfl) ?_) | (refine awp_sq ?_) | (refine awp_rg ?_) | (refine awp_rd (by kernel_rfl) (by kernel_rfl) ?_) | (refine awp_block ?_) | (refine awp_exit ?_) | (refine awp_ret ?_) | (refine awp_skip ?_))
    refine awp_ifF rfl rfl ?_
    refine awp_skip ?_
    refine awp_weak (fun i => i) _ _ (by exact ⟨rfl, rfl, rfl, trivial⟩) (by exact trivial) (injOn_id _) (walkB_19 F)
end Go.Proofs.Ytmnpdipiffmnhaa

