import Derived.Test.YtmnpdipiffmnhaaYT1c
import Derived.Test.YtmnpdipiffmnhaaYT133
import Derived.Test.YtmnpdipiffmnhaaZAwM
set_option linter.unusedVariables false
set_option linter.unusedSimpArgs false
set_option maxRecDepth 20000
set_option maxHeartbeats 16000000
namespace Go.Proofs.Ytmnpdipiffmnhaa
open Go.Aw

/-! ### the walk of FnPast -/
theorem all_fin3 {l : List Nat} (h : ∀ i, i < l.length → Fnt .f32 (l.getD i 0)) : l.all fin = true := List.all_eq_true.2 fun c hc => by
  obtain ⟨i, hi, rfl⟩ := List.getElem_of_mem hc
  have := finB_Fn (h i hi)
  rw [List.getD_eq_getElem?_getD, List.getElem?_eq_getElem hi] at this
  exact this
theorem isSer_of {l : List Nat} (h : ∀ i, i < l.length → Bd (l.getD i 0) 24) (h1 : 1 ≤ l.length) (h2 : l.length ≤ 96) : isSer l = true := by
  unfold isSer
  rw [decide_eq_true h1, decide_eq_true h2, all_fin3 fun i hi => (h i hi).1]; rfl
theorem past_ok {b t : List Nat} {m : Nat} (h : TmI t m) (hb : ∀ i, i < b.length → Bd (b.getD i 0) 24) (h1 : t.length < b.length) (h2 : b.length ≤ 96) : pastRests b t m = (pastL b t m, true) := by
  have hF : (pastL b t m).all fin = true := all_fin3 fun i hi => by
    rw [pastL_len] at hi
    have := pastL_get (a := b) (terms := t) (m := m) (i := t.length + i) (by omega) (by omega)
    rw [show t.length + i - t.length = i by omega] at this
    rw [this]
    exact (subB (hb _ (by omega)) (told_bd h (b := b.take (t.length + i)) (fun j hj => by
      have hj2 : j < t.length + i ∧ j < b.length := by simp at hj; omega
      have e : (b.take (t.length + i)).getD j 0 = b.getD j 0 := by
        simp only [List.getD_eq_getElem?_getD, List.getElem?_take]
        rw [if_pos hj2.1]
      rw [e]; exact hb j hj2.2)) (L := 50) (okR (by decide +kernel) (by decide +kernel)) (by decide +kernel)).1
  unfold pastRests
  rw [isSer_of hb (by omega) h2, h.terms, show fin m = true from finB_Fn h.fm.1, decide_eq_true h1]
  unfold ifAllF
  rw [if_pos hF]; rfl
theorem mul_rng {x : Nat} (h : (x : Int) < 256) : -9223372036854775808 ≤ 1000 * (x : Int) ∧ 1000 * (x : Int) ≤ 9223372036854775807 := by omega
theorem q4_8 {x : Nat} (h : x < 17) : Bd (q4 ((x : Int) - 8)) 2 := by
  have h1 := q4_rv (x := (x : Int) - 8) (by omega)
  have h2 : (((x : Int) - 8 : Int) : Rat) ≤ ((8 : Int) : Rat) := Rat.intCast_le_intCast.2 (by omega)
  have h3 : ((-8 : Int) : Rat) ≤ (((x : Int) - 8 : Int) : Rat) := Rat.intCast_le_intCast.2 (by omega)
  have h4 : ((8 : Int) : Rat) = 8 := rfl
  have h5 : ((-8 : Int) : Rat) = -8 := rfl
  rw [h4] at h2; rw [h5] at h3
  exact ⟨h1.1, by have := h1.2; grind, by have := h1.2; grind⟩
attribute [local irreducible] QRun LexD AWp TCall TMut fop fint fcmp fconv hw fmx dvD e8 b10F gapD pwW
/-- the last part: the spreads do not fall, the power is above nought -/
theorem past_5 {more t : List Nat} {x2 : Nat} {sp : List Nat} {pw : Nat} (hspl : sp.length = 8) (hsps : ∀ i, i + 1 < 8 → fcmp .lss .f32 (sp.getD (i + 1) 0) (sp.getD i 0) = false)
    (t2 : TCall Try.prog 12 [BY more, .v (.int .i64 2), .v (.int .i64 17)] (.t (.v (.int .i64 x2))) [])
    (tPw : TCall Try.prog 41 [.fl t, .f .f32 1056964608, .f .f32 (turnW x2)] (.tup [.t (.f .f32 pw), .t (.v (.bool true))]) []) (hPw : fcmp .gtr .f32 pw 0 = true) :
    AWp Try.prog Try.f5.ntmps (tlF Try.f5 20) (RetQ Try.prog Try.f5 (.t (.v (.bool true))) []) (lkF [(1, .arg 1 (BY more)), (5, .t (.fl t)), (23, .t (.fl sp))]) (lkH []) := by
  repeat (first | (refine x_q (h := ?_)) | (refine xd_q (h := ?_)) | (refine w_q (h := ?_)) | (refine w_s (h := ?_)) | (refine w_t (h := ?_)) | (refine w_k (h := ?_)) | (refine y_q (h := ?_)) | (refine y_s (h := ?_)) | (refine y_t (h := ?_)) | (refine y_k (h := ?_)) | (refine lex_nil (by kernel_rfl) ?_) | (refine awp_sq ?_) | (refine awp_rg ?_) | (refine awp_rd (by kernel_rfl) (by kernel_rfl) ?_) | (refine awp_block ?_) | (refine awp_exit ?_) | (refine awp_ret ?_) | (refine awp_skip ?_))
  refine awp_loop (X := Nat) (fun i => i < 8) (fun i => [(1, .arg 1 (BY more)), (5, .t (.fl t)), (23, .t (.fl sp)), (29, .t (.v (.int .i64 (i + 1))))])
    (fun i => []) (fun i => 8 - i)
    0 ⟨by omega, fun i => i, ⟨rfl, rfl, rfl, rfl, trivial⟩, trivial, injOn_id _⟩ (fun i hi => ?_)
  repeat (first | (refine x_q (h := ?_)) | (refine xd_q (h := ?_)) | (refine w_q (h := ?_)) | (refine w_s (h := ?_)) | (refine w_t (h := ?_)) | (refine w_k (h := ?_)) | (refine y_q (h := ?_)) | (refine y_s (h := ?_)) | (refine y_t (h := ?_)) | (refine y_k (h := ?_)) | (refine lex_nil (by kernel_rfl) ?_) | (refine awp_sq ?_) | (refine awp_rg ?_) | (refine awp_rd (by kernel_rfl) (by kernel_rfl) ?_) | (refine awp_block ?_) | (refine awp_exit ?_) | (refine awp_ret ?_) | (refine awp_skip ?_))
  refine awp_if rfl (fun h => ?_) (fun h => ?_)
  · simp only [icmp, decide_eq_true_eq] at h
    have hle : i + 1 < 8 := by omega
    have hz := hsps i hle
    have e1 : ((i : Int) + 1 - 1) = (i : Int) := by omega
    repeat (first | (refine x_q (h := ?_)) | (refine xd_q (h := ?_)) | (refine w_q (h := ?_)) | (refine w_s (h := ?_)) | (refine w_t (h := ?_)) | (refine w_k (h := ?_)) | (refine y_q (h := ?_)) | (refine y_s (h := ?_)) | (refine y_t (h := ?_)) | (refine y_k (h := ?_)) | (refine lex_nil (by kernel_rfl) ?_) | (refine awp_sq ?_) | (refine awp_rg ?_) | (refine awp_rd (by kernel_rfl) (by kernel_rfl) ?_) | (refine awp_block ?_) | (refine awp_exit ?_) | (refine awp_ret ?_) | (refine awp_skip ?_))
    refine awp_ifF rfl hz ?_
    repeat (first | (refine x_q (h := ?_)) | (refine xd_q (h := ?_)) | (refine w_q (h := ?_)) | (refine w_s (h := ?_)) | (refine w_t (h := ?_)) | (refine w_k (h := ?_)) | (refine y_q (h := ?_)) | (refine y_s (h := ?_)) | (refine y_t (h := ?_)) | (refine y_k (h := ?_)) | (refine lex_nil (by kernel_rfl) ?_) | (refine awp_sq ?_) | (refine awp_rg ?_) | (refine awp_rd (by kernel_rfl) (by kernel_rfl) ?_) | (refine awp_block ?_) | (refine awp_exit ?_) | (refine awp_ret ?_) | (refine awp_skip ?_))
    exact ⟨i + 1, by omega, by omega, fun i => i, ⟨rfl, rfl, rfl, iE3 (by omega), trivial⟩, trivial, injOn_id _⟩
  simp only [icmp, decide_eq_false_iff_not] at h
  repeat (first | (refine x_q (h := ?_)) | (refine xd_q (h := ?_)) | (refine w_q (h := ?_)) | (refine w_s (h := ?_)) | (refine w_t (h := ?_)) | (refine w_k (h := ?_)) | (refine y_q (h := ?_)) | (refine y_s (h := ?_)) | (refine y_t (h := ?_)) | (refine y_k (h := ?_)) | (refine lex_nil (by kernel_rfl) ?_) | (refine awp_sq ?_) | (refine awp_rg ?_) | (refine awp_rd (by kernel_rfl) (by kernel_rfl) ?_) | (refine awp_block ?_) | (refine awp_exit ?_) | (refine awp_ret ?_) | (refine awp_skip ?_))
  (first | (refine c_q (t2) (h := ?_)) | (refine z_q (t2) (h := ?_)))
  repeat (first | (refine x_q (h := ?_)) | (refine xd_q (h := ?_)) | (refine w_q (h := ?_)) | (refine w_s (h := ?_)) | (refine w_t (h := ?_)) | (refine w_k (h := ?_)) | (refine y_q (h := ?_)) | (refine y_s (h := ?_)) | (refine y_t (h := ?_)) | (refine y_k (h := ?_)) | (refine lex_nil (by kernel_rfl) ?_) | (refine awp_sq ?_) | (refine awp_rg ?_) | (refine awp_rd (by kernel_rfl) (by kernel_rfl) ?_) | (refine awp_block ?_) | (refine awp_exit ?_) | (refine awp_ret ?_) | (refine awp_skip ?_))
  have hq : fop .quo .f32 (fint .f32 (x2 : Int)) 1107296256 = turnW x2 := rfl
  rw [hq]
  (first | (refine c_q (tPw) (h := ?_)) | (refine z_q (tPw) (h := ?_)))
  repeat (first | (refine x_q (h := ?_)) | (refine xd_q (h := ?_)) | (refine w_q (h := ?_)) | (refine w_s (h := ?_)) | (refine w_t (h := ?_)) | (refine w_k (h := ?_)) | (refine y_q (h := ?_)) | (refine y_s (h := ?_)) | (refine y_t (h := ?_)) | (refine y_k (h := ?_)) | (refine lex_nil (by kernel_rfl) ?_) | (refine awp_sq ?_) | (refine awp_rg ?_) | (refine awp_rd (by kernel_rfl) (by kernel_rfl) ?_) | (refine awp_block ?_) | (refine awp_exit ?_) | (refine awp_ret ?_) | (refine awp_skip ?_))
  rw [hPw]
  repeat (first | (refine x_q (h := ?_)) | (refine xd_q (h := ?_)) | (refine w_q (h := ?_)) | (refine w_s (h := ?_)) | (refine w_t (h := ?_)) | (refine w_k (h := ?_)) | (refine y_q (h := ?_)) | (refine y_s (h := ?_)) | (refine y_t (h := ?_)) | (refine y_k (h := ?_)) | (refine lex_nil (by kernel_rfl) ?_) | (refine awp_sq ?_) | (refine awp_rg ?_) | (refine awp_rd (by kernel_rfl) (by kernel_rfl) ?_) | (refine awp_block ?_) | (refine awp_exit ?_) | (refine awp_ret ?_) | (refine awp_skip ?_))
  (refine ret_ok tyOk (by first | exact .inr rfl | exact .inl rfl) pi0 rfl (by first | exact .cons (by first | exact .tmp | exact .cell rfl rfl rfl rfl rfl rfl | exact .cell1 rfl rfl rfl rfl rfl) .nil | exact .cons (by first | exact .tmp | exact .cell rfl rfl rfl rfl rfl rfl | exact .cell1 rfl rfl rfl rfl rfl) (.cons (by first | exact .tmp | exact .cell rfl rfl rfl rfl rfl rfl | exact .cell1 rfl rfl rfl rfl rfl) .nil) | exact .cons (by first | exact .tmp | exact .cell rfl rfl rfl rfl rfl rfl | exact .cell1 rfl rfl rfl rfl rfl) (.cons (by first | exact .tmp | exact .cell rfl rfl rfl rfl rfl rfl | exact .cell1 rfl rfl rfl rfl rfl) (.cons (by first | exact .tmp | exact .cell rfl rfl rfl rfl rfl rfl | exact .cell1 rfl rfl rfl rfl rfl) .nil)) | exact .cons (by first | exact .tmp | exact .cell rfl rfl rfl rfl rfl rfl | exact .cell1 rfl rfl rfl rfl rfl) (.cons (by first | exact .tmp | exact .cell rfl rfl rfl rfl rfl rfl | exact .cell1 rfl rfl rfl rfl rfl) (.cons (by first | exact .tmp | exact .cell rfl rfl rfl rfl rfl rfl | exact .cell1 rfl rfl rfl rfl rfl) (.cons (by first | exact .tmp | exact .cell rfl rfl rfl rfl rfl rfl | exact .cell1 rfl rfl rfl rfl rfl) .nil)))) ?_ trivial (injO_0 _); (repeat' (first | exact RetRelL.nil | (refine RetRel.nil rfl ?_) | refine RetRelL.cons ?_ ?_ | refine rr_tup ?_ | refine rr_agg ?_ | refine rr_own rfl ?_ | exact RetRel.arg | exact RetRel.argc | refine rr_t ?_)); all_goals rfl)
/-- ahead of it: the spreads, what is calm -/
theorem past_4 {more t : List Nat} {x2 : Nat} {sp : List Nat} {pw : Nat} (hspl : sp.length = 8) (hsps : ∀ i, i + 1 < 8 → fcmp .lss .f32 (sp.getD (i + 1) 0) (sp.getD i 0) = false)
    (t2 : TCall Try.prog 12 [BY more, .v (.int .i64 2), .v (.int .i64 17)] (.t (.v (.int .i64 x2))) [])
    (tPw : TCall Try.prog 41 [.fl t, .f .f32 1056964608, .f .f32 (turnW x2)] (.tup [.t (.f .f32 pw), .t (.v (.bool true))]) []) (hPw : fcmp .gtr .f32 pw 0 = true)
    (tSp : TCall Try.prog 39 [.fl t, .f .f32 1056964608, .v (.int .i64 8)] (.tup [.t (.fl sp), .t (.v (.bool true))]) []) (hsp0 : sp.getD 0 0 = 1056964608)
    (tC : TCall Try.prog 40 [.fl t] (.tup [.t (.v (.bool true)), .t (.v (.bool true))]) []) (tW : TCall Try.prog 40 [.fl [1069547520]] (.tup [.t (.v (.bool false)), .t (.v (.bool true))]) []) :
    AWp Try.prog Try.f5.ntmps (tlF Try.f5 16) (RetQ Try.prog Try.f5 (.t (.v (.bool true))) []) (lkF [(1, .arg 1 (BY more)), (5, .t (.fl t)), (7, .t (.v (.int .i64 8)))]) (lkH []) := by
  have hgapH := gapH_ok
  repeat (first | (refine x_q (h := ?_)) | (refine xd_q (h := ?_)) | (refine w_q (h := ?_)) | (refine w_s (h := ?_)) | (refine w_t (h := ?_)) | (refine w_k (h := ?_)) | (refine y_q (h := ?_)) | (refine y_s (h := ?_)) | (refine y_t (h := ?_)) | (refine y_k (h := ?_)) | (refine lex_nil (by kernel_rfl) ?_) | (refine awp_sq ?_) | (refine awp_rg ?_) | (refine awp_rd (by kernel_rfl) (by kernel_rfl) ?_) | (refine awp_block ?_) | (refine awp_exit ?_) | (refine awp_ret ?_) | (refine awp_skip ?_))
  (first | (refine c_q (tSp) (h := ?_)) | (refine z_q (tSp) (h := ?_)))
  repeat (first | (refine x_q (h := ?_)) | (refine xd_q (h := ?_)) | (refine w_q (h := ?_)) | (refine w_s (h := ?_)) | (refine w_t (h := ?_)) | (refine w_k (h := ?_)) | (refine y_q (h := ?_)) | (refine y_s (h := ?_)) | (refine y_t (h := ?_)) | (refine y_k (h := ?_)) | (refine lex_nil (by kernel_rfl) ?_) | (refine awp_sq ?_) | (refine awp_rg ?_) | (refine awp_rd (by kernel_rfl) (by kernel_rfl) ?_) | (refine awp_block ?_) | (refine awp_exit ?_) | (refine awp_ret ?_) | (refine awp_skip ?_))
  (first | (refine c_q (tC) (h := ?_)) | (refine z_q (tC) (h := ?_)))
  repeat (first | (refine x_q (h := ?_)) | (refine xd_q (h := ?_)) | (refine w_q (h := ?_)) | (refine w_s (h := ?_)) | (refine w_t (h := ?_)) | (refine w_k (h := ?_)) | (refine y_q (h := ?_)) | (refine y_s (h := ?_)) | (refine y_t (h := ?_)) | (refine y_k (h := ?_)) | (refine lex_nil (by kernel_rfl) ?_) | (refine awp_sq ?_) | (refine awp_rg ?_) | (refine awp_rd (by kernel_rfl) (by kernel_rfl) ?_) | (refine awp_block ?_) | (refine awp_exit ?_) | (refine awp_ret ?_) | (refine awp_skip ?_))
  (first | (refine c_q (tW) (h := ?_)) | (refine z_q (tW) (h := ?_)))
  repeat (first | (refine x_q (h := ?_)) | (refine xd_q (h := ?_)) | (refine w_q (h := ?_)) | (refine w_s (h := ?_)) | (refine w_t (h := ?_)) | (refine w_k (h := ?_)) | (refine y_q (h := ?_)) | (refine y_s (h := ?_)) | (refine y_t (h := ?_)) | (refine y_k (h := ?_)) | (refine lex_nil (by kernel_rfl) ?_) | (refine awp_sq ?_) | (refine awp_rg ?_) | (refine awp_rd (by kernel_rfl) (by kernel_rfl) ?_) | (refine awp_block ?_) | (refine awp_exit ?_) | (refine awp_ret ?_) | (refine awp_skip ?_))
  rw [hsp0]
  (first | (refine c_q (b10Gap_c _ _) (h := ?_)) | (refine z_q (b10Gap_c _ _) (h := ?_)))
  repeat (first | (refine x_q (h := ?_)) | (refine xd_q (h := ?_)) | (refine w_q (h := ?_)) | (refine w_s (h := ?_)) | (refine w_t (h := ?_)) | (refine w_k (h := ?_)) | (refine y_q (h := ?_)) | (refine y_s (h := ?_)) | (refine y_t (h := ?_)) | (refine y_k (h := ?_)) | (refine lex_nil (by kernel_rfl) ?_) | (refine awp_sq ?_) | (refine awp_rg ?_) | (refine awp_rd (by kernel_rfl) (by kernel_rfl) ?_) | (refine awp_block ?_) | (refine awp_exit ?_) | (refine awp_ret ?_) | (refine awp_skip ?_))
  refine awp_ifF rfl hgapH ?_
  refine awp_skip ?_
  refine awp_weak (fun i => i)  [(1, .arg 1 (BY more)), (5, .t (.fl t)), (23, .t (.fl sp))] []  (by repeat (first | exact trivial | refine ⟨rfl, ?_⟩)) (by repeat (first | exact trivial | refine ⟨rfl, ?_⟩)) (injOn_id _) ?_
  exact past_5 hspl hsps t2 tPw hPw
/-- ahead of it: rests behind what is there are none -/
theorem past_3 {more t r1 r2 : List Nat} {x2 : Nat} {sp : List Nat} {pw : Nat} (hspl : sp.length = 8) (hsps : ∀ i, i + 1 < 8 → fcmp .lss .f32 (sp.getD (i + 1) 0) (sp.getD i 0) = false)
    (t2 : TCall Try.prog 12 [BY more, .v (.int .i64 2), .v (.int .i64 17)] (.t (.v (.int .i64 x2))) [])
    (tPw : TCall Try.prog 41 [.fl t, .f .f32 1056964608, .f .f32 (turnW x2)] (.tup [.t (.f .f32 pw), .t (.v (.bool true))]) []) (hPw : fcmp .gtr .f32 pw 0 = true)
    (tSp : TCall Try.prog 39 [.fl t, .f .f32 1056964608, .v (.int .i64 8)] (.tup [.t (.fl sp), .t (.v (.bool true))]) []) (hsp0 : sp.getD 0 0 = 1056964608)
    (tC : TCall Try.prog 40 [.fl t] (.tup [.t (.v (.bool true)), .t (.v (.bool true))]) []) (tW : TCall Try.prog 40 [.fl [1069547520]] (.tup [.t (.v (.bool false)), .t (.v (.bool true))]) [])
    (hl2 : t.length ≤ 2) (hr2 : r2.length = 28 - t.length) (hp2 : ∀ k, k < 8 → r2.getD (20 - t.length + k) 0 = 0) (hr1 : r1.length = 20 - t.length) :
    AWp Try.prog Try.f5.ntmps (tlF Try.f5 15) (RetQ Try.prog Try.f5 (.t (.v (.bool true))) []) (lkF [(1, .arg 1 (BY more)), (5, .t (.fl t)), (7, .t (.v (.int .i64 8))), (14, .t (.fl r1)), (20, .t (.fl r2))]) (lkH []) := by
  have hgap0 := gap0_ok
  repeat (first | (refine x_q (h := ?_)) | (refine xd_q (h := ?_)) | (refine w_q (h := ?_)) | (refine w_s (h := ?_)) | (refine w_t (h := ?_)) | (refine w_k (h := ?_)) | (refine y_q (h := ?_)) | (refine y_s (h := ?_)) | (refine y_t (h := ?_)) | (refine y_k (h := ?_)) | (refine lex_nil (by kernel_rfl) ?_) | (refine awp_sq ?_) | (refine awp_rg ?_) | (refine awp_rd (by kernel_rfl) (by kernel_rfl) ?_) | (refine awp_block ?_) | (refine awp_exit ?_) | (refine awp_ret ?_) | (refine awp_skip ?_))
  refine awp_loop (X := Nat) (fun i => i ≤ 8) (fun i => [(1, .arg 1 (BY more)), (5, .t (.fl t)), (7, .t (.v (.int .i64 8))), (20, .t (.fl r2)), (22, .t (.v (.int .i64 (r1.length + i : Nat))))])
    (fun i => []) (fun i => 8 - i)
    0 ⟨by omega, fun i => i, ⟨rfl, rfl, rfl, rfl, rfl, trivial⟩, trivial, injOn_id _⟩ (fun i hi => ?_)
  repeat (first | (refine x_q (h := ?_)) | (refine xd_q (h := ?_)) | (refine w_q (h := ?_)) | (refine w_s (h := ?_)) | (refine w_t (h := ?_)) | (refine w_k (h := ?_)) | (refine y_q (h := ?_)) | (refine y_s (h := ?_)) | (refine y_t (h := ?_)) | (refine y_k (h := ?_)) | (refine lex_nil (by kernel_rfl) ?_) | (refine awp_sq ?_) | (refine awp_rg ?_) | (refine awp_rd (by kernel_rfl) (by kernel_rfl) ?_) | (refine awp_block ?_) | (refine awp_exit ?_) | (refine awp_ret ?_) | (refine awp_skip ?_))
  refine awp_if rfl (fun h => ?_) (fun h => ?_)
  · simp only [icmp, decide_eq_true_eq] at h
    have hz := hp2 i (by omega)
    rw [← hr1] at hz
    have hlt : r1.length + i < r2.length := by omega
    repeat (first | (refine x_q (h := ?_)) | (refine xd_q (h := ?_)) | (refine w_q (h := ?_)) | (refine w_s (h := ?_)) | (refine w_t (h := ?_)) | (refine w_k (h := ?_)) | (refine y_q (h := ?_)) | (refine y_s (h := ?_)) | (refine y_t (h := ?_)) | (refine y_k (h := ?_)) | (refine lex_nil (by kernel_rfl) ?_) | (refine awp_sq ?_) | (refine awp_rg ?_) | (refine awp_rd (by kernel_rfl) (by kernel_rfl) ?_) | (refine awp_block ?_) | (refine awp_exit ?_) | (refine awp_ret ?_) | (refine awp_skip ?_))
    rw [hz]
    (first | (refine c_q (b10Gap_c _ _) (h := ?_)) | (refine z_q (b10Gap_c _ _) (h := ?_)))
    repeat (first | (refine x_q (h := ?_)) | (refine xd_q (h := ?_)) | (refine w_q (h := ?_)) | (refine w_s (h := ?_)) | (refine w_t (h := ?_)) | (refine w_k (h := ?_)) | (refine y_q (h := ?_)) | (refine y_s (h := ?_)) | (refine y_t (h := ?_)) | (refine y_k (h := ?_)) | (refine lex_nil (by kernel_rfl) ?_) | (refine awp_sq ?_) | (refine awp_rg ?_) | (refine awp_rd (by kernel_rfl) (by kernel_rfl) ?_) | (refine awp_block ?_) | (refine awp_exit ?_) | (refine awp_ret ?_) | (refine awp_skip ?_))
    refine awp_ifF rfl hgap0 ?_
    repeat (first | (refine x_q (h := ?_)) | (refine xd_q (h := ?_)) | (refine w_q (h := ?_)) | (refine w_s (h := ?_)) | (refine w_t (h := ?_)) | (refine w_k (h := ?_)) | (refine y_q (h := ?_)) | (refine y_s (h := ?_)) | (refine y_t (h := ?_)) | (refine y_k (h := ?_)) | (refine lex_nil (by kernel_rfl) ?_) | (refine awp_sq ?_) | (refine awp_rg ?_) | (refine awp_rd (by kernel_rfl) (by kernel_rfl) ?_) | (refine awp_block ?_) | (refine awp_exit ?_) | (refine awp_ret ?_) | (refine awp_skip ?_))
    exact ⟨i + 1, by omega, by omega, fun i => i, ⟨rfl, rfl, rfl, rfl, iE3 (by omega), trivial⟩, trivial, injOn_id _⟩
  simp only [icmp, decide_eq_false_iff_not] at h
  refine awp_exit ?_
  refine awp_weak (fun i => i)  [(1, .arg 1 (BY more)), (5, .t (.fl t)), (7, .t (.v (.int .i64 8)))] []  (by repeat (first | exact trivial | refine ⟨rfl, ?_⟩)) (by repeat (first | exact trivial | refine ⟨rfl, ?_⟩)) (injOn_id _) ?_
  exact past_4 hspl hsps t2 tPw hPw tSp hsp0 tC tW
/-- ahead of it: all numbers, and their rests -/
theorem past_2 {more t a o r1 r2 : List Nat} {x2 m : Nat} {sp : List Nat} {pw : Nat} (hspl : sp.length = 8) (hsps : ∀ i, i + 1 < 8 → fcmp .lss .f32 (sp.getD (i + 1) 0) (sp.getD i 0) = false)
    (t2 : TCall Try.prog 12 [BY more, .v (.int .i64 2), .v (.int .i64 17)] (.t (.v (.int .i64 x2))) [])
    (tPw : TCall Try.prog 41 [.fl t, .f .f32 1056964608, .f .f32 (turnW x2)] (.tup [.t (.f .f32 pw), .t (.v (.bool true))]) []) (hPw : fcmp .gtr .f32 pw 0 = true)
    (tSp : TCall Try.prog 39 [.fl t, .f .f32 1056964608, .v (.int .i64 8)] (.tup [.t (.fl sp), .t (.v (.bool true))]) []) (hsp0 : sp.getD 0 0 = 1056964608)
    (tC : TCall Try.prog 40 [.fl t] (.tup [.t (.v (.bool true)), .t (.v (.bool true))]) []) (tW : TCall Try.prog 40 [.fl [1069547520]] (.tup [.t (.v (.bool false)), .t (.v (.bool true))]) [])
    (hl2 : t.length ≤ 2) (hr2 : r2.length = 28 - t.length) (hp2 : ∀ k, k < 8 → r2.getD (20 - t.length + k) 0 = 0) (hr1 : r1.length = 20 - t.length) (ha : a.length = 20) (ho : o.length = 8)
    (tP2 : TCall Try.prog 37 [.fl (a ++ o), .fl t, .f .f32 m] (.tup [.t (.fl r2), .t (.v (.bool true))]) []) :
    AWp Try.prog Try.f5.ntmps (tlF Try.f5 12) (RetQ Try.prog Try.f5 (.t (.v (.bool true))) []) (lkF [(1, .arg 1 (BY more)), (5, .t (.fl t)), (6, .t (.f .f32 m)), (7, .t (.v (.int .i64 8))), (8, .t (.fl a)), (14, .t (.fl r1)), (16, .t (.fl o))]) (lkH []) := by
  repeat (first | (refine x_q (h := ?_)) | (refine xd_q (h := ?_)) | (refine w_q (h := ?_)) | (refine w_s (h := ?_)) | (refine w_t (h := ?_)) | (refine w_k (h := ?_)) | (refine y_q (h := ?_)) | (refine y_s (h := ?_)) | (refine y_t (h := ?_)) | (refine y_k (h := ?_)) | (refine lex_nil (by kernel_rfl) ?_) | (refine awp_sq ?_) | (refine awp_rg ?_) | (refine awp_rd (by kernel_rfl) (by kernel_rfl) ?_) | (refine awp_block ?_) | (refine awp_exit ?_) | (refine awp_ret ?_) | (refine awp_skip ?_))
  (first | (refine a_s (hn := by exact rfl) (h := ?_)) | (refine b_s (hn := by exact rfl) (h := ?_)))
  repeat (first | (refine x_q (h := ?_)) | (refine xd_q (h := ?_)) | (refine w_q (h := ?_)) | (refine w_s (h := ?_)) | (refine w_t (h := ?_)) | (refine w_k (h := ?_)) | (refine y_q (h := ?_)) | (refine y_s (h := ?_)) | (refine y_t (h := ?_)) | (refine y_k (h := ?_)) | (refine lex_nil (by kernel_rfl) ?_) | (refine awp_sq ?_) | (refine awp_rg ?_) | (refine awp_rd (by kernel_rfl) (by kernel_rfl) ?_) | (refine awp_block ?_) | (refine awp_exit ?_) | (refine awp_ret ?_) | (refine awp_skip ?_))
  have ea : (T.fl []).app (T.fl a) = T.fl a := rfl
  have el : (T.fl a).len = 20 := ha
  rw [ea, el]
  (first | (refine a_s (hn := by exact ha) (h := ?_)) | (refine b_s (hn := by exact ha) (h := ?_)))
  repeat (first | (refine x_q (h := ?_)) | (refine xd_q (h := ?_)) | (refine w_q (h := ?_)) | (refine w_s (h := ?_)) | (refine w_t (h := ?_)) | (refine w_k (h := ?_)) | (refine y_q (h := ?_)) | (refine y_s (h := ?_)) | (refine y_t (h := ?_)) | (refine y_k (h := ?_)) | (refine lex_nil (by kernel_rfl) ?_) | (refine awp_sq ?_) | (refine awp_rg ?_) | (refine awp_rd (by kernel_rfl) (by kernel_rfl) ?_) | (refine awp_block ?_) | (refine awp_exit ?_) | (refine awp_ret ?_) | (refine awp_skip ?_))
  have eo : (T.fl a).app (T.fl o) = T.fl (a ++ o) := rfl
  have hao : (a ++ o).length = 28 := by rw [List.length_append, ha, ho]
  have el2 : (T.fl (a ++ o)).len = 28 := hao
  rw [eo, el2]
  repeat (first | (refine x_q (h := ?_)) | (refine xd_q (h := ?_)) | (refine w_q (h := ?_)) | (refine w_s (h := ?_)) | (refine w_t (h := ?_)) | (refine w_k (h := ?_)) | (refine y_q (h := ?_)) | (refine y_s (h := ?_)) | (refine y_t (h := ?_)) | (refine y_k (h := ?_)) | (refine lex_nil (by kernel_rfl) ?_) | (refine awp_sq ?_) | (refine awp_rg ?_) | (refine awp_rd (by kernel_rfl) (by kernel_rfl) ?_) | (refine awp_block ?_) | (refine awp_exit ?_) | (refine awp_ret ?_) | (refine awp_skip ?_))
  (first | (refine c_q (tP2) (h := ?_)) | (refine z_q (tP2) (h := ?_)))
  repeat (first | (refine x_q (h := ?_)) | (refine xd_q (h := ?_)) | (refine w_q (h := ?_)) | (refine w_s (h := ?_)) | (refine w_t (h := ?_)) | (refine w_k (h := ?_)) | (refine y_q (h := ?_)) | (refine y_s (h := ?_)) | (refine y_t (h := ?_)) | (refine y_k (h := ?_)) | (refine lex_nil (by kernel_rfl) ?_) | (refine awp_sq ?_) | (refine awp_rg ?_) | (refine awp_rd (by kernel_rfl) (by kernel_rfl) ?_) | (refine awp_block ?_) | (refine awp_exit ?_) | (refine awp_ret ?_) | (refine awp_skip ?_))
  refine awp_ifF rfl rfl ?_
  refine awp_skip ?_
  refine awp_weak (fun i => i)  [(1, .arg 1 (BY more)), (5, .t (.fl t)), (7, .t (.v (.int .i64 8))), (14, .t (.fl r1)), (20, .t (.fl r2))] []  (by repeat (first | exact trivial | refine ⟨rfl, ?_⟩)) (by repeat (first | exact trivial | refine ⟨rfl, ?_⟩)) (injOn_id _) ?_
  exact past_3 hspl hsps t2 tPw hPw tSp hsp0 tC tW hl2 hr2 hp2 hr1
end Go.Proofs.Ytmnpdipiffmnhaa
