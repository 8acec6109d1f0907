import Derived.Test.YtmnpdipiffmnhaaYT132
import Derived.Test.YtmnpdipiffmnhaaYT109
import Derived.Test.YtmnpdipiffmnhaaYT118
set_option linter.unusedVariables false
set_option linter.unusedSimpArgs false
set_option maxRecDepth 20000
set_option maxHeartbeats 16000000
namespace Go.Proofs.Ytmnpdipiffmnhaa
open Go.Aw

/-! ### small terms that are drawn -/
def tmN (l : List Nat) : Nat := (dvD l 0 3).toNat
def tmD (l : List Nat) : List Nat := (List.range (tmN l)).map fun j : Nat => e8 (dvD l (1 + j) 7 - 3)
theorem tmD_len (l : List Nat) : (tmD l).length = tmN l := by simp [tmD]
theorem tmD_get {l : List Nat} {j : Nat} (h : j < tmN l) : (tmD l).getD j 0 = e8 (dvD l (1 + j) 7 - 3) := getD_mapR _ h
theorem e7_tab : (List.range 7).all (fun n => decide (e8 ((n : Int) - 3) < 2 * FloatKind.f32.format.signWeight) && decide (e8 ((n : Int) - 3) % FloatKind.f32.format.signWeight < FloatKind.f32.format.infRung) && decide (rv .f32 (e8 ((n : Int) - 3)) ≤ 3 / 8) && decide (-(3 / 8) ≤ rv .f32 (e8 ((n : Int) - 3)))) = true := by decide +kernel
theorem e7_bd {x : Int} (h : 0 ≤ x ∧ x < 7) : Bd (e8 (x - 3)) (3 / 8) := by
  obtain ⟨n, rfl⟩ : ∃ n : Nat, x = (n : Int) := ⟨x.toNat, by omega⟩
  have := List.all_eq_true.1 e7_tab n (List.mem_range.2 (by omega))
  simp only [Bool.and_eq_true, decide_eq_true_eq] at this
  exact ⟨⟨this.1.1.1, this.1.1.2⟩, this.1.2, this.2⟩
theorem tmN_le {l : List Nat} (h : Byt l) : tmN l ≤ 2 ∧ dvD l 0 3 = (tmN l : Int) := by
  have := dvD_rng h 0 (n := 3) (by omega)
  unfold tmN; omega
theorem tmD_twI {l : List Nat} (h : Byt l) : TwI (tmD l) := by
  refine ⟨fun i hi => ?_, by rw [tmD_len]; exact (tmN_le h).1⟩
  rw [tmD_len] at hi
  rw [tmD_get hi]
  exact e7_bd (dvD_rng h (1 + i) (by omega))
/-- a part of a slice that a call has made, as data -/
theorem own_flc {args : List Value} {w w' : World} {μ : Nat → Option Nat} {ok : Nat → Prop} {e : TypeId} {L : List Nat} {off n : Nat} {y : Value} (hc : HC ⟨args, w.heap.size, noLoan⟩ w μ (lkH [(0, .sl e (.fl L))]) w') (hr : RRel args w' μ ok (.cut 0 off n) y) (hn : off + n ≤ L.length) :
    TR w' (okF ⟨args, w.heap.size, noLoan⟩ (okOf (fun _ => none) (lkH []))) (.fl ((L.take (off + n)).drop off)) y := by
  rw [TR, TRf]
  rw [RRel.eq_def] at hr
  simp only [] at hr
  obtain ⟨hsl, hB⟩ := hc.blk 0 _ rfl
  have hlen : ((L.take (off + n)).drop off).length = n := by simp; omega
  rcases hr with ⟨h1, h2, h3, rfl⟩ | ⟨b, cap, e1, m, hb, rfl, hs, hcap, hle⟩
  · exact ⟨none, 0, 0, rfl, by omega, Nat.le_refl _, .inl rfl⟩
  · rcases hB with ⟨h0, _⟩ | ⟨b', cs, hb', hbase, hw, hl2, hcs⟩
    · rw [h0] at hb; cases hb
    · rw [hb] at hb'; cases hb'
      refine ⟨_, _, _, rfl, hlen.symm, hle, .inr ⟨b, off, rfl, (Array.getElem?_eq_some_iff.1 hw).1, ⟨fun i hi => by simp [lkH] at hi, hbase.elim .inl False.elim⟩, fun i hi => ?_⟩⟩
      have hi' : off + i < L.length := by omega
      obtain ⟨x, hx, hr⟩ := ((TRl_iff ..).1 hcs).2 (off + i) (.f .f32 L[off + i]) (by show (L.map (T.f .f32))[off + i]? = _; rw [List.getElem?_map, List.getElem?_eq_getElem hi']; rfl)
      rw [List.getElem?_take] at hx
      split at hx
      · rw [TR] at hr
        obtain ⟨z, rfl, hf⟩ := hr
        refine ⟨z, by rw [cell_of_block hw]; simpa using hx, ?_⟩
        have e2 : ((L.take (off + n)).drop off).getD i 0 = L[off + i] := by
          simp only [List.getD_eq_getElem?_getD, List.getElem?_drop, List.getElem?_take]
          rw [if_pos (by omega), List.getElem?_eq_getElem hi', Option.getD_some]; rfl
        rw [e2]; exact hf
      · cases hx
theorem tcall_flc {P : Program} {f : FuncId} {ts : List T} {e : TypeId} {L : List Nat} {off n : Nat} {v : Value} (h : TCall P f ts (.tup [.cut 0 off n, .t (.v v)]) [(0, .sl e (.fl L))]) (hn : off + n ≤ L.length) : TCall P f ts (.tup [.t (.fl ((L.take (off + n)).drop off)), .t (.v v)]) [] := by
  refine ⟨h.1, fun w args ha => (h.2 w args ha).mono ?_⟩
  rintro e' w' ⟨y, μ, rfl, hc, hr⟩
  refine ⟨y, fun _ => none, rfl, hc_none hc, ?_⟩
  rw [RRel] at hr
  obtain ⟨xs, rfl, hr⟩ := hr
  simp only [RRell] at hr
  obtain ⟨x1, r1, e1, h1, x2, r2, e2, h2, e3⟩ := hr
  rw [RRel]
  refine ⟨xs, rfl, ?_⟩
  rw [e1, e2, e3]
  simp only [RRell, RRel]
  exact ⟨_, _, rfl, own_flc hc h1 hn, _, _, rfl, dat_v h2, rfl⟩
theorem tcall_fl3 {P : Program} {f : FuncId} {ts : List T} {e : TypeId} {l : List Nat} {n : Nat} {v u : Value} (h : TCall P f ts (.tup [.own 0 n, .t (.v v), .t (.v u)]) [(0, .sl e (.fl l))]) (hn : n = l.length) : TCall P f ts (.tup [.t (.fl l), .t (.v v), .t (.v u)]) [] := by
  refine ⟨h.1, fun w args ha => (h.2 w args ha).mono ?_⟩
  rintro e' w' ⟨y, μ, rfl, hc, hr⟩
  refine ⟨y, fun _ => none, rfl, hc_none hc, ?_⟩
  rw [RRel] at hr
  obtain ⟨xs, rfl, hr⟩ := hr
  simp only [RRell] at hr
  obtain ⟨x1, r1, e1, h1, x2, r2, e2, h2, x3, r3, e3, h3, e4⟩ := hr
  rw [RRel]
  refine ⟨xs, rfl, ?_⟩
  rw [e1, e2, e3, e4]
  simp only [RRell, RRel]
  exact ⟨_, _, rfl, own_fl hc h1 hn, _, _, rfl, dat_v h2, _, _, rfl, dat_v h3, rfl⟩
attribute [local irreducible] QRun LexD AWp TCall TMut fop fint fcmp fconv hw fmx dvD e8
theorem b10Terms_c {l : List Nat} (h : Byt l) : TCall Try.prog 34 [BY l] (.t (.fl (tmD l))) [] := by
  have hN := tmN_le h
  have hl := tmD_len l
  have hg : ∀ j, j < tmN l → (tmD l).getD j 0 = e8 (dvD l (1 + j) 7 - 3) := fun j hj => tmD_get hj
  refine tcall_fl (n := (tmD l).length) (e := 30) ?_ rfl
  refine tcall_of Try.func34 rfl (by kernel_rfl) (Nat.le_of_ble_eq_true rfl) rfl ?_
  simp only [argsL, argAV, argCs, argS]
  repeat (first | (refine w_q (h := ?_)) | (refine w_s (h := ?_)) | (refine w_t (h := ?_)) | (refine w_k (h := ?_)) | (refine y_q (h := ?_)) | (refine y_s (h := ?_)) | (refine y_t (h := ?_)) | (refine y_k (h := ?_)) | (refine lex_nil (by kernel_rfl) ?_) | (refine awp_sq ?_) | (refine awp_rg ?_) | (refine awp_rd (by kernel_rfl) (by kernel_rfl) ?_) | (refine awp_block ?_) | (refine awp_exit ?_) | (refine awp_ret ?_) | (refine awp_skip ?_))
  (refine w_rs (q_from (from_n) rfl rfl rfl rfl) (hH := by first | (simp only [scrubF, scrubHL, scrub, scrubL, scrubB, cB, List.map, cblk, cids, cid, relab, sg, List.contains_cons, List.contains_nil, Nat.reduceBEq, Bool.or_false, Bool.or_true, cond_true, cond_false, List.cons_append, List.nil_append, Nat.reduceMul, Nat.reduceAdd, List.set, List.take, List.drop, List.length, List.append_nil]; rfl) | rfl) (h := ?_))
  repeat (first | (refine w_q (h := ?_)) | (refine w_s (h := ?_)) | (refine w_t (h := ?_)) | (refine w_k (h := ?_)) | (refine y_q (h := ?_)) | (refine y_s (h := ?_)) | (refine y_t (h := ?_)) | (refine y_k (h := ?_)) | (refine lex_nil (by kernel_rfl) ?_) | (refine awp_sq ?_) | (refine awp_rg ?_) | (refine awp_rd (by kernel_rfl) (by kernel_rfl) ?_) | (refine awp_block ?_) | (refine awp_exit ?_) | (refine awp_ret ?_) | (refine awp_skip ?_))
  (first | (refine w_rs (q_cbox (pick_d h 0 3 (by omega) (by omega)) rfl rfl rfl rfl rfl rfl rfl rfl) (hH := by first | (simp only [scrubF, scrubHL, scrub, scrubL, scrubB, cB, List.map, cblk, cids, cid, relab, sg, List.contains_cons, List.contains_nil, Nat.reduceBEq, Bool.or_false, Bool.or_true, cond_true, cond_false, List.cons_append, List.nil_append, Nat.reduceMul, Nat.reduceAdd, List.set, List.take, List.drop, List.length, List.append_nil]; rfl) | rfl) (h := ?_)) | (refine dx_s rfl rfl rfl (q_cbox (pick_d h 0 3 (by omega) (by omega)) rfl rfl rfl rfl rfl rfl rfl rfl) (by first | exact nf_f rfl | exact nf_b rfl | exact nf_i rfl | exact nf_bp rfl | exact nf_own rfl | exact nf_argo rfl | exact nf_arg rfl | exact nf_argc rfl | exact nf_fl rfl | exact nf_ofl rfl | exact nf_oref rfl | exact nf_tref rfl | exact nf_s rfl | exact nf_t rfl | exact nf_old rfl | exact nf_junk rfl | exact nf_dead rfl | (simp only [resV, resVl, scrubL, scrub, List.map, List.drop, List.take, mkT, zA, cellsA, cid, cids, relab, sg, List.getD, List.append, List.cons_append, List.nil_append, Nat.reduceMul, Nat.reduceAdd, Array.toList, T.get, cond_true, cond_false]; rfl) | rfl) (by first | (simp only [scrubF, scrubHL, scrub, scrubL, scrubB, cblk, cids, cid, relab, sg, List.contains_cons, List.contains_nil, Nat.reduceBEq, Bool.or_false, Bool.or_true, cond_true, cond_false, List.cons_append, List.nil_append, Nat.reduceMul, Nat.reduceAdd, List.set, List.take, List.drop, List.length, List.append_nil]; rfl) | rfl) (by first | (simp only [scrubF, scrubHL, scrub, scrubL, scrubB, cB, List.map, cblk, cids, cid, relab, sg, List.contains_cons, List.contains_nil, Nat.reduceBEq, Bool.or_false, Bool.or_true, cond_true, cond_false, List.cons_append, List.nil_append, Nat.reduceMul, Nat.reduceAdd, List.set, List.take, List.drop, List.length, List.append_nil]; rfl) | rfl) (by kernel_rfl) ?_))
  repeat (first | (refine w_q (h := ?_)) | (refine w_s (h := ?_)) | (refine w_t (h := ?_)) | (refine w_k (h := ?_)) | (refine y_q (h := ?_)) | (refine y_s (h := ?_)) | (refine y_t (h := ?_)) | (refine y_k (h := ?_)) | (refine lex_nil (by kernel_rfl) ?_) | (refine awp_sq ?_) | (refine awp_rg ?_) | (refine awp_rd (by kernel_rfl) (by kernel_rfl) ?_) | (refine awp_block ?_) | (refine awp_exit ?_) | (refine awp_ret ?_) | (refine awp_skip ?_) | (refine w_r (q_build tyOk rfl rfl rfl rfl rfl rfl rfl rfl) (h := ?_)) | (refine y_r (q_build tyOk rfl rfl rfl rfl rfl rfl rfl rfl) (h := ?_)))
  rw [hN.2]
  repeat (first | (refine w_q (h := ?_)) | (refine w_s (h := ?_)) | (refine w_t (h := ?_)) | (refine w_k (h := ?_)) | (refine y_q (h := ?_)) | (refine y_s (h := ?_)) | (refine y_t (h := ?_)) | (refine y_k (h := ?_)) | (refine lex_nil (by kernel_rfl) ?_) | (refine awp_sq ?_) | (refine awp_rg ?_) | (refine awp_rd (by kernel_rfl) (by kernel_rfl) ?_) | (refine awp_block ?_) | (refine awp_exit ?_) | (refine awp_ret ?_) | (refine awp_skip ?_) | (refine w_r (q_build tyOk rfl rfl rfl rfl rfl rfl rfl rfl) (h := ?_)) | (refine y_r (q_build tyOk rfl rfl rfl rfl rfl rfl rfl rfl) (h := ?_)))
  generalize tmN l = N at *
  generalize hT : tmD l = L at *
  refine awp_loop (X := Nat) (fun j => j ≤ N) (fun j => [(3, .bp 7 0), (4, .own 8 0 j), (5, .t (.v (.int .i64 ((N : Int) - j))))])
    (fun j => [(8, .sl 30 (.fl (L.take j))), (7, .box 156 [.old (BY l), .t (.v (.int .i64 ((1 + j : Nat) : Int))), .t (.v (.int .u64 (sdD l (1 + j))))])]) (fun j => N - j)
    0 ⟨by omega, fun i => i, ⟨rfl, rfl, iE3 (by omega), trivial⟩, ⟨rfl, rfl, trivial⟩, injOn_id _⟩ (fun j hj => ?_)
  have hz : (L.take j).length = j := by simp [hl]; omega
  repeat (first | (refine w_q (h := ?_)) | (refine w_s (h := ?_)) | (refine w_t (h := ?_)) | (refine w_k (h := ?_)) | (refine y_q (h := ?_)) | (refine y_s (h := ?_)) | (refine y_t (h := ?_)) | (refine y_k (h := ?_)) | (refine lex_nil (by kernel_rfl) ?_) | (refine awp_sq ?_) | (refine awp_rg ?_) | (refine awp_rd (by kernel_rfl) (by kernel_rfl) ?_) | (refine awp_block ?_) | (refine awp_exit ?_) | (refine awp_ret ?_) | (refine awp_skip ?_) | (refine w_r (q_build tyOk rfl rfl rfl rfl rfl rfl rfl rfl) (h := ?_)) | (refine y_r (q_build tyOk rfl rfl rfl rfl rfl rfl rfl rfl) (h := ?_)))
  refine awp_if rfl (fun h1 => ?_) (fun h1 => ?_)
  · simp only [icmp, decide_eq_true_eq] at h1
    have aj := dvD_rng h (1 + j) (n := 7) (by omega)
    repeat (first | (refine w_q (h := ?_)) | (refine w_s (h := ?_)) | (refine w_t (h := ?_)) | (refine w_k (h := ?_)) | (refine y_q (h := ?_)) | (refine y_s (h := ?_)) | (refine y_t (h := ?_)) | (refine y_k (h := ?_)) | (refine lex_nil (by kernel_rfl) ?_) | (refine awp_sq ?_) | (refine awp_rg ?_) | (refine awp_rd (by kernel_rfl) (by kernel_rfl) ?_) | (refine awp_block ?_) | (refine awp_exit ?_) | (refine awp_ret ?_) | (refine awp_skip ?_) | (refine w_r (q_build tyOk rfl rfl rfl rfl rfl rfl rfl rfl) (h := ?_)) | (refine y_r (q_build tyOk rfl rfl rfl rfl rfl rfl rfl rfl) (h := ?_)))
    (first | (refine w_rs (q_cbox (pick_d h (1 + j) 7 (by omega) (by omega)) rfl rfl rfl rfl rfl rfl rfl rfl) (hH := by first | (simp only [scrubF, scrubHL, scrub, scrubL, scrubB, cB, List.map, cblk, cids, cid, relab, sg, List.contains_cons, List.contains_nil, Nat.reduceBEq, Bool.or_false, Bool.or_true, cond_true, cond_false, List.cons_append, List.nil_append, Nat.reduceMul, Nat.reduceAdd, List.set, List.take, List.drop, List.length, List.append_nil]; rfl) | rfl) (h := ?_)) | (refine dx_s rfl rfl rfl (q_cbox (pick_d h (1 + j) 7 (by omega) (by omega)) rfl rfl rfl rfl rfl rfl rfl rfl) (by first | exact nf_f rfl | exact nf_b rfl | exact nf_i rfl | exact nf_bp rfl | exact nf_own rfl | exact nf_argo rfl | exact nf_arg rfl | exact nf_argc rfl | exact nf_fl rfl | exact nf_ofl rfl | exact nf_oref rfl | exact nf_tref rfl | exact nf_s rfl | exact nf_t rfl | exact nf_old rfl | exact nf_junk rfl | exact nf_dead rfl | (simp only [resV, resVl, scrubL, scrub, List.map, List.drop, List.take, mkT, zA, cellsA, cid, cids, relab, sg, List.getD, List.append, List.cons_append, List.nil_append, Nat.reduceMul, Nat.reduceAdd, Array.toList, T.get, cond_true, cond_false]; rfl) | rfl) (by first | (simp only [scrubF, scrubHL, scrub, scrubL, scrubB, cblk, cids, cid, relab, sg, List.contains_cons, List.contains_nil, Nat.reduceBEq, Bool.or_false, Bool.or_true, cond_true, cond_false, List.cons_append, List.nil_append, Nat.reduceMul, Nat.reduceAdd, List.set, List.take, List.drop, List.length, List.append_nil]; rfl) | rfl) (by first | (simp only [scrubF, scrubHL, scrub, scrubL, scrubB, cB, List.map, cblk, cids, cid, relab, sg, List.contains_cons, List.contains_nil, Nat.reduceBEq, Bool.or_false, Bool.or_true, cond_true, cond_false, List.cons_append, List.nil_append, Nat.reduceMul, Nat.reduceAdd, List.set, List.take, List.drop, List.length, List.append_nil]; rfl) | rfl) (by kernel_rfl) ?_))
    repeat (first | (refine w_q (h := ?_)) | (refine w_s (h := ?_)) | (refine w_t (h := ?_)) | (refine w_k (h := ?_)) | (refine y_q (h := ?_)) | (refine y_s (h := ?_)) | (refine y_t (h := ?_)) | (refine y_k (h := ?_)) | (refine lex_nil (by kernel_rfl) ?_) | (refine awp_sq ?_) | (refine awp_rg ?_) | (refine awp_rd (by kernel_rfl) (by kernel_rfl) ?_) | (refine awp_block ?_) | (refine awp_exit ?_) | (refine awp_ret ?_) | (refine awp_skip ?_) | (refine w_r (q_build tyOk rfl rfl rfl rfl rfl rfl rfl rfl) (h := ?_)) | (refine y_r (q_build tyOk rfl rfl rfl rfl rfl rfl rfl rfl) (h := ?_)))
    have he : fop .quo .f32 (fint .f32 (dvD l (1 + j) 7 - 3)) 1090519040 = e8 (dvD l (1 + j) 7 - 3) := by unfold e8; rfl
    rw [he]
    repeat (first | (refine w_q (h := ?_)) | (refine w_s (h := ?_)) | (refine w_t (h := ?_)) | (refine w_k (h := ?_)) | (refine y_q (h := ?_)) | (refine y_s (h := ?_)) | (refine y_t (h := ?_)) | (refine y_k (h := ?_)) | (refine lex_nil (by kernel_rfl) ?_) | (refine awp_sq ?_) | (refine awp_rg ?_) | (refine awp_rd (by kernel_rfl) (by kernel_rfl) ?_) | (refine awp_block ?_) | (refine awp_exit ?_) | (refine awp_ret ?_) | (refine awp_skip ?_) | (refine w_r (q_build tyOk rfl rfl rfl rfl rfl rfl rfl rfl) (h := ?_)) | (refine y_r (q_build tyOk rfl rfl rfl rfl rfl rfl rfl rfl) (h := ?_)))
    (first | (refine a_s (hn := by exact hz) (h := ?_)) | (refine b_s (hn := by exact hz) (h := ?_)))
    repeat (first | (refine w_q (h := ?_)) | (refine w_s (h := ?_)) | (refine w_t (h := ?_)) | (refine w_k (h := ?_)) | (refine y_q (h := ?_)) | (refine y_s (h := ?_)) | (refine y_t (h := ?_)) | (refine y_k (h := ?_)) | (refine lex_nil (by kernel_rfl) ?_) | (refine awp_sq ?_) | (refine awp_rg ?_) | (refine awp_rd (by kernel_rfl) (by kernel_rfl) ?_) | (refine awp_block ?_) | (refine awp_exit ?_) | (refine awp_ret ?_) | (refine awp_skip ?_) | (refine w_r (q_build tyOk rfl rfl rfl rfl rfl rfl rfl rfl) (h := ?_)) | (refine y_r (q_build tyOk rfl rfl rfl rfl rfl rfl rfl rfl) (h := ?_)))
    exact ⟨j + 1, by omega, by omega, fun i => i, ⟨rfl, own_eq (by simp only [T.app, T.len, List.length_append, hz]; rfl), iE3 (by omega), trivial⟩, ⟨sl_eq (congrArg T.fl (take_snoc (by omega) (hg j (by omega)))), rfl, trivial⟩, injOn_id _⟩
  simp only [icmp, decide_eq_false_iff_not] at h1
  obtain rfl : j = N := by omega
  rw [List.take_of_length_le (by omega : L.length ≤ j)]
  repeat (first | (refine w_q (h := ?_)) | (refine w_s (h := ?_)) | (refine w_t (h := ?_)) | (refine w_k (h := ?_)) | (refine y_q (h := ?_)) | (refine y_s (h := ?_)) | (refine y_t (h := ?_)) | (refine y_k (h := ?_)) | (refine lex_nil (by kernel_rfl) ?_) | (refine awp_sq ?_) | (refine awp_rg ?_) | (refine awp_rd (by kernel_rfl) (by kernel_rfl) ?_) | (refine awp_block ?_) | (refine awp_exit ?_) | (refine awp_ret ?_) | (refine awp_skip ?_) | (refine w_r (q_build tyOk rfl rfl rfl rfl rfl rfl rfl rfl) (h := ?_)) | (refine y_r (q_build tyOk rfl rfl rfl rfl rfl rfl rfl rfl) (h := ?_)))
  refine ret_ok tyOk (by first | exact .inr rfl | exact .inl rfl) (pi1 8) rfl (by first | exact .cons (by first | exact .tmp | exact .cell rfl rfl rfl rfl rfl rfl | exact .cell1 rfl rfl rfl rfl rfl) .nil | exact .cons (by first | exact .tmp | exact .cell rfl rfl rfl rfl rfl rfl | exact .cell1 rfl rfl rfl rfl rfl) (.cons (by first | exact .tmp | exact .cell rfl rfl rfl rfl rfl rfl | exact .cell1 rfl rfl rfl rfl rfl) .nil) | exact .cons (by first | exact .tmp | exact .cell rfl rfl rfl rfl rfl rfl | exact .cell1 rfl rfl rfl rfl rfl) (.cons (by first | exact .tmp | exact .cell rfl rfl rfl rfl rfl rfl | exact .cell1 rfl rfl rfl rfl rfl) (.cons (by first | exact .tmp | exact .cell rfl rfl rfl rfl rfl rfl | exact .cell1 rfl rfl rfl rfl rfl) .nil)) | exact .cons (by first | exact .tmp | exact .cell rfl rfl rfl rfl rfl rfl | exact .cell1 rfl rfl rfl rfl rfl) (.cons (by first | exact .tmp | exact .cell rfl rfl rfl rfl rfl rfl | exact .cell1 rfl rfl rfl rfl rfl) (.cons (by first | exact .tmp | exact .cell rfl rfl rfl rfl rfl rfl | exact .cell1 rfl rfl rfl rfl rfl) (.cons (by first | exact .tmp | exact .cell rfl rfl rfl rfl rfl rfl | exact .cell1 rfl rfl rfl rfl rfl) .nil)))) ?_ ⟨rfl, trivial⟩ (injO_1 _ _ _)
  repeat' (first | exact RetRelL.nil | (refine RetRel.nil rfl ?_) | refine RetRelL.cons ?_ ?_ | refine rr_tup ?_ | refine rr_agg ?_ | refine rr_own rfl ?_ | exact RetRel.arg | exact RetRel.argc | refine rr_t ?_)
  all_goals first | rfl | exact hl.symm | exact hl
end Go.Proofs.Ytmnpdipiffmnhaa
