import Derived.Test.YtmnpdipiffmnhaaXT1n
import Derived.Test.YtmnpdipiffmnhaaXT28
import Derived.Test.YtmnpdipiffmnhaaXT58
import Derived.Test.YtmnpdipiffmnhaaZAwG
import Derived.Test.YtmnpdipiffmnhaaZAwN
import Derived.Test.YtmnpdipiffmnhaaXT169
import Derived.Test.YtmnpdipiffmnhaaZAwM
set_option linter.unusedVariables false
set_option linter.unusedSimpArgs false
set_option maxRecDepth 20000
set_option maxHeartbeats 8000000
namespace Go.Proofs.Ytmnpdipiffmnhaa
open Go.Aw

/-! ### rows that are data, and one that is not yet -/
def NL (R : List (List Nat)) : List AV := R.map fun r => .t (.fl r)
theorem NL_len (R : List (List Nat)) : (NL R).length = R.length := by simp [NL]
theorem NL_good (R : List (List Nat)) : GoodN [] (NL R) := fun v hv j hj => by
  obtain ⟨t, _, rfl⟩ := List.mem_map.1 hv
  simp [AV.ids] at hj
theorem own1_good (i n : Nat) : GoodN [i] [.own i 0 n] := fun v hv j hj => by
  simp only [List.mem_singleton] at hv
  subst hv
  simp only [AV.ids, List.mem_singleton] at hj
  subst hj; exact .inr (by simp)
theorem NL_ren (R : List (List Nat)) {k : Nat} {v : AV} (hv : (NL R)[k]? = some v) : v = ren (fun i => i) v := by
  obtain ⟨r, _, rfl⟩ := List.mem_map.1 (List.mem_of_getElem? hv); rfl
theorem NL_same {η η' : Hp} {R : List (List Nat)} {i : Nat} {e : TypeId} (h1 : η i = some (.nest e (NL R) [] noRem)) : BTo (fun i => i) η η' i (.nest e (NL R) [] noRem) :=
  .inl ⟨_, _, h1, NL_good R, rfl, fun k v hv => ⟨v, hv, .inl (NL_ren R hv)⟩⟩
theorem NL_bto {η η' : Hp} {R : List (List Nat)} {r : List Nat} {i len id : Nat} {e ef : TypeId} {vis : List Nat} (h1 : η i = some (.nest e (NL R ++ [.own id 0 len]) vis noRem)) (hv : vis = [id]) (h2 : η id = some (.sl ef (.fl r))) (hl : len = r.length) (h3 : (η' id).isSome = false) :
    BTo (fun i => i) η η' i (.nest e (NL (R ++ [r])) [] noRem) := by
  subst hv; subst hl
  refine .inl ⟨_, _, h1, good_app (NL_good R) (own1_good id _), by rw [NL_len, List.length_append, List.length_append, NL_len]; rfl, fun k v hv => ?_⟩
  have e1 : NL (R ++ [r]) = NL R ++ [.t (.fl r)] := by unfold NL; rw [List.map_append]; rfl
  rw [e1] at hv
  rcases Nat.lt_or_ge k (NL R).length with hk | hk
  · rw [List.getElem?_append_left hk] at hv ⊢
    exact ⟨v, hv, .inl (NL_ren R hv)⟩
  · rw [List.getElem?_append_right hk] at hv ⊢
    have h0 : k - (NL R).length = 0 := by
      cases hn : k - (NL R).length with
      | zero => rfl
      | succ n => rw [hn] at hv; simp at hv
    rw [h0] at hv ⊢
    simp only [List.getElem?_cons_zero, Option.some.injEq] at hv ⊢
    subst hv
    exact ⟨_, rfl, .inr ⟨.fl r, id, ef, rfl, rfl, h2, fun j hj e => by simp only at e; subst e; rw [h3] at hj; cases hj⟩⟩
/-- all rows are data: the slice is one of slices of floats -/
theorem NL_ffl {η η' : Hp} {R : List (List Nat)} {i : Nat} {e : TypeId} (h1 : η i = some (.nest e (NL R) [] noRem)) : BTo (fun i => i) η η' i (.sl e (.ffl R)) := by
  refine .inr ⟨_, _, h1, NL_good R, rfl, by rw [NL_len]; rfl, fun k v hv => ?_⟩
  unfold NL at hv
  rw [List.getElem?_map, Option.map_eq_some_iff] at hv
  obtain ⟨r, hr, rfl⟩ := hv
  refine ⟨.fl r, ?_, .inl rfl⟩
  show (R.map T.fl)[k]? = _
  rw [List.getElem?_map, hr]; rfl

/-! ### columns of a series and what was ahead of it -/
attribute [local irreducible] QRun LexD AWp TCall TMut fop fint fcmp fconv NL 
end Go.Proofs.Ytmnpdipiffmnhaa

set_option linter.unusedVariables false
set_option linter.unusedSimpArgs false
set_option maxRecDepth 20000
set_option maxHeartbeats 8000000
namespace Go.Proofs.Ytmnpdipiffmnhaa
open Go.Aw
attribute [local irreducible] QRun LexD AWp TCall TMut fop fint fcmp fconv sdN sdI miA bnS bnX bnO bwR bcL bOk bqL quantG NL gsF erF nxF

/-! ### bands of ways ahead: the reference's, its end -/
theorem iE12 {k : IntKind} {a b : Int} (h : a = b) : AV.t (.v (.int k a)) = AV.t (.v (.int k b)) := by rw [h]
theorem own_l2 {id a b : Nat} (h : a = b) : AV.own id 0 a = AV.own id 0 b := by rw [h]
theorem bcL_0 (s : ST) (h : SH) (m : List Nat) (sd C k : Nat) : bcL s h m sd C 0 k = [] := by unfold bcL; rfl
def bwL (s : ST) (h : SH) (m : List Nat) (sd C D : Nat) : List (List Nat) := (List.range D).map (bwR s h m sd C)
theorem bwL_len (s : ST) (h : SH) (m : List Nat) (sd C D : Nat) : (bwL s h m sd C D).length = D := by simp [bwL]
theorem bwL_get {s : ST} {h : SH} {m : List Nat} {sd C D d : Nat} (hd : d < D) : (bwL s h m sd C D).getD d [] = bwR s h m sd C d := by simp [bwL, List.getD_eq_getElem?_getD, hd]
theorem bwL_S (s : ST) (h : SH) (m : List Nat) (sd C D : Nat) : bwL s h m sd C D ++ [bwR s h m sd C D] = bwL s h m sd C (D + 1) := by simp [bwL, List.range_succ]
attribute [local irreducible] bwL
theorem sB_4 {s : ST} {h : SH} {m : List Nat} {C D sd sh : Nat} (hC : 1 ≤ C ∧ C ≤ 32) (hD : 1 ≤ D ∧ D ≤ 64) (hs : isShr sh = true) (hF : F32 sh) {v : BD} (hno : (bqL s h m sd C D sh).all fin = false → v = ⟨[], 0, false⟩) (hyes : (bqL s h m sd C D sh).all fin = true → v = ⟨bqL s h m sd C D sh, (sdI sd (D * C) : Nat), true⟩) :
    AWp Try.prog Try.f45.ntmps (tlF Try.f45 4) (RetQ Try.prog Try.f45 (bdR v) (bdH v)) (lkF [(3, .t (.v (.int .i64 (C : Nat)))), (5, .t (.v (.int .i64 ((sdI sd (D * C) : Nat) : Int)))), (6, .t (.f .f32 sh)), (17, .own 57 0 D)])
      (lkH [(57, .sl 24 (.ffl (bwL s h m sd C D)))]) := by
  have hbl := bwL_len s h m sd C D
  have hql := bqL_len s h m sd C D sh
  repeat (first | (refine w_q (h := ?_)) | (refine w_s (h := ?_)) | (refine w_t (h := ?_)) | (refine w_k (h := ?_)) | (refine y_q (h := ?_)) | (refine y_s (h := ?_)) | (refine y_t (h := ?_)) | (refine y_k (h := ?_)) | (refine lex_nil (by kernel_rfl) ?_) | (refine awp_sq ?_) | (refine awp_rg ?_) | (refine awp_rd (by kernel_rfl) (by kernel_rfl) ?_) | (refine awp_block ?_) | (refine awp_exit ?_) | (refine awp_ret ?_) | (refine awp_skip ?_))
  refine awp_loop (X := Nat) (fun k => k ≤ C) (fun k => [(3, .t (.v (.int .i64 (C : Nat)))), (5, .t (.v (.int .i64 ((sdI sd (D * C) : Nat) : Int)))), (6, .t (.f .f32 sh)), (17, .own 57 0 D), (26, .own 111 0 k), (27, .t (.v (.int .i64 (k : Nat))))])
    (fun k => [(57, .sl 24 (.ffl (bwL s h m sd C D))), (111, .sl 30 (.fl ((bqL s h m sd C D sh).take k)))]) (fun k => C - k)
    0 ⟨Nat.zero_le _, fun i => i, ⟨rfl, rfl, rfl, rfl, rfl, rfl, trivial⟩, ⟨rfl, sl_eq (congrArg T.fl (by rw [List.take_zero])), trivial⟩, injOn_id _⟩ (fun k hk => ?_)
  have hz1 : ((bqL s h m sd C D sh).take k).length = k := by rw [List.length_take, hql]; omega
  repeat (first | (refine w_q (h := ?_)) | (refine w_s (h := ?_)) | (refine w_t (h := ?_)) | (refine w_k (h := ?_)) | (refine y_q (h := ?_)) | (refine y_s (h := ?_)) | (refine y_t (h := ?_)) | (refine y_k (h := ?_)) | (refine lex_nil (by kernel_rfl) ?_) | (refine awp_sq ?_) | (refine awp_rg ?_) | (refine awp_rd (by kernel_rfl) (by kernel_rfl) ?_) | (refine awp_block ?_) | (refine awp_exit ?_) | (refine awp_ret ?_) | (refine awp_skip ?_))
  refine awp_if rfl (fun h1 => ?_) (fun h1 => ?_)
  · simp only [icmp, decide_eq_true_eq] at h1
    have hkC : k < C := by omega
    repeat (first | (refine w_q (h := ?_)) | (refine w_s (h := ?_)) | (refine w_t (h := ?_)) | (refine w_k (h := ?_)) | (refine y_q (h := ?_)) | (refine y_s (h := ?_)) | (refine y_t (h := ?_)) | (refine y_k (h := ?_)) | (refine lex_nil (by kernel_rfl) ?_) | (refine awp_sq ?_) | (refine awp_rg ?_) | (refine awp_rd (by kernel_rfl) (by kernel_rfl) ?_) | (refine awp_block ?_) | (refine awp_exit ?_) | (refine awp_ret ?_) | (refine awp_skip ?_))
    refine awp_loop (X := Nat) (fun d => d ≤ D) (fun d => [(3, .t (.v (.int .i64 (C : Nat)))), (5, .t (.v (.int .i64 ((sdI sd (D * C) : Nat) : Int)))), (6, .t (.f .f32 sh)), (17, .own 57 0 D), (26, .own 111 0 k), (27, .t (.v (.int .i64 (k : Nat)))), (28, .own 117 0 d), (29, .t (.v (.int .i64 (d : Nat))))])
      (fun d => [(57, .sl 24 (.ffl (bwL s h m sd C D))), (111, .sl 30 (.fl ((bqL s h m sd C D sh).take k))), (117, .sl 30 (.fl (bcL s h m sd C d k)))]) (fun d => D - d)
      0 ⟨Nat.zero_le _, fun i => i, ⟨rfl, rfl, rfl, rfl, rfl, rfl, rfl, rfl, trivial⟩, ⟨rfl, rfl, sl_eq (congrArg T.fl (by rw [bcL_0])), trivial⟩, injOn_id _⟩ (fun d hd => ?_)
    have hz2 := bcL_len s h m sd C d k
    repeat (first | (refine w_q (h := ?_)) | (refine w_s (h := ?_)) | (refine w_t (h := ?_)) | (refine w_k (h := ?_)) | (refine y_q (h := ?_)) | (refine y_s (h := ?_)) | (refine y_t (h := ?_)) | (refine y_k (h := ?_)) | (refine lex_nil (by kernel_rfl) ?_) | (refine awp_sq ?_) | (refine awp_rg ?_) | (refine awp_rd (by kernel_rfl) (by kernel_rfl) ?_) | (refine awp_block ?_) | (refine awp_exit ?_) | (refine awp_ret ?_) | (refine awp_skip ?_))
    refine awp_if rfl (fun h2 => ?_) (fun h2 => ?_)
    · replace h2 : d < D := by simpa [icmp] using h2
      have hrow := bwL_get (s := s) (h := h) (m := m) (sd := sd) (C := C) h2
      have hrl := bwR_len s h m sd C d
      have hrg := bwR_get (s := s) (h := h) (m := m) (sd := sd) (d := d) hkC
      repeat (first | (refine w_q (h := ?_)) | (refine w_s (h := ?_)) | (refine w_t (h := ?_)) | (refine w_k (h := ?_)) | (refine y_q (h := ?_)) | (refine y_s (h := ?_)) | (refine y_t (h := ?_)) | (refine y_k (h := ?_)) | (refine lex_nil (by kernel_rfl) ?_) | (refine awp_sq ?_) | (refine awp_rg ?_) | (refine awp_rd (by kernel_rfl) (by kernel_rfl) ?_) | (refine awp_block ?_) | (refine awp_exit ?_) | (refine awp_ret ?_) | (refine awp_skip ?_))
      rw [Nat.zero_add, hrow]
      try (first | (refine w_r (q_idx_tree (k) tyOk rfl rfl rfl rfl rfl rfl rfl rfl (by omega) (by first | omega | (simp only [T.len]; omega) | assumption)) (h := ?_)) | (refine y_r (q_idx_tree (k) tyOk rfl rfl rfl rfl rfl rfl rfl rfl (by omega) (by first | omega | (simp only [T.len]; omega) | assumption)) (h := ?_)))
      repeat (first | (refine w_q (h := ?_)) | (refine w_s (h := ?_)) | (refine w_t (h := ?_)) | (refine w_k (h := ?_)) | (refine y_q (h := ?_)) | (refine y_s (h := ?_)) | (refine y_t (h := ?_)) | (refine y_k (h := ?_)) | (refine lex_nil (by kernel_rfl) ?_) | (refine awp_sq ?_) | (refine awp_rg ?_) | (refine awp_rd (by kernel_rfl) (by kernel_rfl) ?_) | (refine awp_block ?_) | (refine awp_exit ?_) | (refine awp_ret ?_) | (refine awp_skip ?_))
      rw [hrg]
      repeat (first | (refine w_q (h := ?_)) | (refine w_s (h := ?_)) | (refine w_t (h := ?_)) | (refine w_k (h := ?_)) | (refine y_q (h := ?_)) | (refine y_s (h := ?_)) | (refine y_t (h := ?_)) | (refine y_k (h := ?_)) | (refine lex_nil (by kernel_rfl) ?_) | (refine awp_sq ?_) | (refine awp_rg ?_) | (refine awp_rd (by kernel_rfl) (by kernel_rfl) ?_) | (refine awp_block ?_) | (refine awp_exit ?_) | (refine awp_ret ?_) | (refine awp_skip ?_))
      (first | (refine a_s (hn := by exact hz2) (h := ?_)) | (refine b_s (hn := by exact hz2) (h := ?_)))
      repeat (first | (refine w_q (h := ?_)) | (refine w_s (h := ?_)) | (refine w_t (h := ?_)) | (refine w_k (h := ?_)) | (refine y_q (h := ?_)) | (refine y_s (h := ?_)) | (refine y_t (h := ?_)) | (refine y_k (h := ?_)) | (refine lex_nil (by kernel_rfl) ?_) | (refine awp_sq ?_) | (refine awp_rg ?_) | (refine awp_rd (by kernel_rfl) (by kernel_rfl) ?_) | (refine awp_block ?_) | (refine awp_exit ?_) | (refine awp_ret ?_) | (refine awp_skip ?_))
      exact ⟨d + 1, by omega, by omega, fun i => i, ⟨rfl, rfl, rfl, rfl, rfl, rfl, own_l2 (by simp only [T.app, T.len, List.length_append, hz2]; rfl), iE12 (by omega), trivial⟩, ⟨rfl, rfl, sl_eq (congrArg T.fl (bcL_S _ _ _ _ _ _ _)), trivial⟩, injOn_id _⟩
    replace h2 : d = D := by
      have : ¬ d < D := by simpa [icmp] using h2
      omega
    subst h2
    repeat (first | (refine w_q (h := ?_)) | (refine w_s (h := ?_)) | (refine w_t (h := ?_)) | (refine w_k (h := ?_)) | (refine y_q (h := ?_)) | (refine y_s (h := ?_)) | (refine y_t (h := ?_)) | (refine y_k (h := ?_)) | (refine lex_nil (by kernel_rfl) ?_) | (refine awp_sq ?_) | (refine awp_rg ?_) | (refine awp_rd (by kernel_rfl) (by kernel_rfl) ?_) | (refine awp_block ?_) | (refine awp_exit ?_) | (refine awp_ret ?_) | (refine awp_skip ?_))
    (first | (refine c_q (qtSpec_c (bcL s h m sd C d k) sh (by omega) (by omega) hs hF) (h := ?_)) | (refine z_q (qtSpec_c (bcL s h m sd C d k) sh (by omega) (by omega) hs hF) (h := ?_)))
    repeat (first | (refine w_q (h := ?_)) | (refine w_s (h := ?_)) | (refine w_t (h := ?_)) | (refine w_k (h := ?_)) | (refine y_q (h := ?_)) | (refine y_s (h := ?_)) | (refine y_t (h := ?_)) | (refine y_k (h := ?_)) | (refine lex_nil (by kernel_rfl) ?_) | (refine awp_sq ?_) | (refine awp_rg ?_) | (refine awp_rd (by kernel_rfl) (by kernel_rfl) ?_) | (refine awp_block ?_) | (refine awp_exit ?_) | (refine awp_ret ?_) | (refine awp_skip ?_))
    (first | (refine a_s (hn := by exact hz1) (h := ?_)) | (refine b_s (hn := by exact hz1) (h := ?_)))
    repeat (first | (refine w_q (h := ?_)) | (refine w_s (h := ?_)) | (refine w_t (h := ?_)) | (refine w_k (h := ?_)) | (refine y_q (h := ?_)) | (refine y_s (h := ?_)) | (refine y_t (h := ?_)) | (refine y_k (h := ?_)) | (refine lex_nil (by kernel_rfl) ?_) | (refine awp_sq ?_) | (refine awp_rg ?_) | (refine awp_rd (by kernel_rfl) (by kernel_rfl) ?_) | (refine awp_block ?_) | (refine awp_exit ?_) | (refine awp_ret ?_) | (refine awp_skip ?_))
    exact ⟨k + 1, by omega, by omega, fun i => i, ⟨rfl, rfl, rfl, rfl, own_l2 (by simp only [T.app, T.len, List.length_append, hz1]; rfl), iE12 (by omega), trivial⟩, ⟨rfl, sl_eq (congrArg T.fl (take_snoc (by omega) (bqL_get hkC))), trivial⟩, injOn_id _⟩
  simp only [icmp, decide_eq_false_iff_not] at h1
  obtain rfl : k = C := by omega
  rw [show (bqL s h m sd k D sh).take k = bqL s h m sd k D sh from List.take_of_length_le (by omega)]
  repeat (first | (refine w_q (h := ?_)) | (refine w_s (h := ?_)) | (refine w_t (h := ?_)) | (refine w_k (h := ?_)) | (refine y_q (h := ?_)) | (refine y_s (h := ?_)) | (refine y_t (h := ?_)) | (refine y_k (h := ?_)) | (refine lex_nil (by kernel_rfl) ?_) | (refine awp_sq ?_) | (refine awp_rg ?_) | (refine awp_rd (by kernel_rfl) (by kernel_rfl) ?_) | (refine awp_block ?_) | (refine awp_exit ?_) | (refine awp_ret ?_) | (refine awp_skip ?_))
  (first | (refine c_q (l02Finite_c (bqL s h m sd k D sh) (by omega)) (h := ?_)) | (refine z_q (l02Finite_c (bqL s h m sd k D sh) (by omega)) (h := ?_)))
  repeat (first | (refine w_q (h := ?_)) | (refine w_s (h := ?_)) | (refine w_t (h := ?_)) | (refine w_k (h := ?_)) | (refine y_q (h := ?_)) | (refine y_s (h := ?_)) | (refine y_t (h := ?_)) | (refine y_k (h := ?_)) | (refine lex_nil (by kernel_rfl) ?_) | (refine awp_sq ?_) | (refine awp_rg ?_) | (refine awp_rd (by kernel_rfl) (by kernel_rfl) ?_) | (refine awp_block ?_) | (refine awp_exit ?_) | (refine awp_ret ?_) | (refine awp_skip ?_))
  refine awp_if rfl (fun h2 => ?_) (fun h2 => ?_)
  · simp only [Bool.not_eq_true'] at h2
    rw [hno h2]
    repeat (first | (refine w_q (h := ?_)) | (refine w_s (h := ?_)) | (refine w_t (h := ?_)) | (refine w_k (h := ?_)) | (refine y_q (h := ?_)) | (refine y_s (h := ?_)) | (refine y_t (h := ?_)) | (refine y_k (h := ?_)) | (refine lex_nil (by kernel_rfl) ?_) | (refine awp_sq ?_) | (refine awp_rg ?_) | (refine awp_rd (by kernel_rfl) (by kernel_rfl) ?_) | (refine awp_block ?_) | (refine awp_exit ?_) | (refine awp_ret ?_) | (refine awp_skip ?_))
    (refine ret_ok tyOk (by first | exact .inr rfl | exact .inl rfl) pi0 rfl (by first | exact .cons (by first | exact .tmp | exact .cell rfl rfl rfl rfl rfl rfl | exact .cell1 rfl rfl rfl rfl rfl) .nil | exact .cons (by first | exact .tmp | exact .cell rfl rfl rfl rfl rfl rfl | exact .cell1 rfl rfl rfl rfl rfl) (.cons (by first | exact .tmp | exact .cell rfl rfl rfl rfl rfl rfl | exact .cell1 rfl rfl rfl rfl rfl) .nil) | exact .cons (by first | exact .tmp | exact .cell rfl rfl rfl rfl rfl rfl | exact .cell1 rfl rfl rfl rfl rfl) (.cons (by first | exact .tmp | exact .cell rfl rfl rfl rfl rfl rfl | exact .cell1 rfl rfl rfl rfl rfl) (.cons (by first | exact .tmp | exact .cell rfl rfl rfl rfl rfl rfl | exact .cell1 rfl rfl rfl rfl rfl) .nil)) | exact .cons (by first | exact .tmp | exact .cell rfl rfl rfl rfl rfl rfl | exact .cell1 rfl rfl rfl rfl rfl) (.cons (by first | exact .tmp | exact .cell rfl rfl rfl rfl rfl rfl | exact .cell1 rfl rfl rfl rfl rfl) (.cons (by first | exact .tmp | exact .cell rfl rfl rfl rfl rfl rfl | exact .cell1 rfl rfl rfl rfl rfl) (.cons (by first | exact .tmp | exact .cell rfl rfl rfl rfl rfl rfl | exact .cell1 rfl rfl rfl rfl rfl) .nil)))) ?_ ⟨⟨_, _, rfl, rfl, rfl⟩, trivial⟩ (injO_1 _ _ _); (repeat' (first | exact RetRelL.nil | (refine RetRel.nil rfl ?_) | refine RetRelL.cons ?_ ?_ | refine rr_tup ?_ | refine rr_agg ?_ | refine rr_own rfl ?_ | exact RetRel.arg | exact RetRel.argc | refine rr_t ?_)); all_goals rfl)
  · simp only [Bool.not_eq_false'] at h2
    rw [hyes h2]
    repeat (first | (refine w_q (h := ?_)) | (refine w_s (h := ?_)) | (refine w_t (h := ?_)) | (refine w_k (h := ?_)) | (refine y_q (h := ?_)) | (refine y_s (h := ?_)) | (refine y_t (h := ?_)) | (refine y_k (h := ?_)) | (refine lex_nil (by kernel_rfl) ?_) | (refine awp_sq ?_) | (refine awp_rg ?_) | (refine awp_rd (by kernel_rfl) (by kernel_rfl) ?_) | (refine awp_block ?_) | (refine awp_exit ?_) | (refine awp_ret ?_) | (refine awp_skip ?_))
    refine ret_ok tyOk (by first | exact .inr rfl | exact .inl rfl) (pi1 111) rfl (by first | exact .cons (by first | exact .tmp | exact .cell rfl rfl rfl rfl rfl rfl | exact .cell1 rfl rfl rfl rfl rfl) .nil | exact .cons (by first | exact .tmp | exact .cell rfl rfl rfl rfl rfl rfl | exact .cell1 rfl rfl rfl rfl rfl) (.cons (by first | exact .tmp | exact .cell rfl rfl rfl rfl rfl rfl | exact .cell1 rfl rfl rfl rfl rfl) .nil) | exact .cons (by first | exact .tmp | exact .cell rfl rfl rfl rfl rfl rfl | exact .cell1 rfl rfl rfl rfl rfl) (.cons (by first | exact .tmp | exact .cell rfl rfl rfl rfl rfl rfl | exact .cell1 rfl rfl rfl rfl rfl) (.cons (by first | exact .tmp | exact .cell rfl rfl rfl rfl rfl rfl | exact .cell1 rfl rfl rfl rfl rfl) .nil)) | exact .cons (by first | exact .tmp | exact .cell rfl rfl rfl rfl rfl rfl | exact .cell1 rfl rfl rfl rfl rfl) (.cons (by first | exact .tmp | exact .cell rfl rfl rfl rfl rfl rfl | exact .cell1 rfl rfl rfl rfl rfl) (.cons (by first | exact .tmp | exact .cell rfl rfl rfl rfl rfl rfl | exact .cell1 rfl rfl rfl rfl rfl) (.cons (by first | exact .tmp | exact .cell rfl rfl rfl rfl rfl rfl | exact .cell1 rfl rfl rfl rfl rfl) .nil)))) ?_ ⟨rfl, trivial⟩ (injO_1 _ _ _)
    repeat' (first | exact RetRelL.nil | (refine RetRel.nil rfl ?_) | refine RetRelL.cons ?_ ?_ | refine rr_tup ?_ | refine rr_agg ?_ | refine rr_own rfl ?_ | exact RetRel.arg | exact RetRel.argc | refine rr_t ?_)
    all_goals first | rfl | exact hql.symm
end Go.Proofs.Ytmnpdipiffmnhaa

