/- A function in parts. No condition. -/
import Derived.Test.YtpdnjcblkjjegaaVT105
import Derived.Test.YtpdnjcblkjjegaaVAwG
import Derived.Test.YtpdnjcblkjjegaaVT26
import Derived.Test.YtpdnjcblkjjegaaVAwJ
import Derived.Test.YtpdnjcblkjjegaaVAwD
import Derived.Test.YtpdnjcblkjjegaaVAwB
set_option linter.unusedVariables false
set_option linter.unusedSimpArgs false
set_option maxRecDepth 100000
set_option maxHeartbeats 8000000
namespace Go.Proofs.Ytpdnjcblkjjegaa
open Go.Aw

/-! ### what the b10 laws read out of bytes -/
def b10F (l : List Nat) (k n : Int) : Int := if k < (l.length : Int) then ((l.getD k.toNat 0 : Nat) : Int) % n else (k * 37 + 11) % n
theorem b10F_lt {l : List Nat} {k n : Int} (hn : 1 ≤ n) : 0 ≤ b10F l k n ∧ b10F l k n < n := by
  unfold b10F
  split
  · exact ⟨Int.emod_nonneg _ (by omega), Int.emod_lt_of_pos _ (by omega)⟩
  · exact ⟨Int.emod_nonneg _ (by omega), Int.emod_lt_of_pos _ (by omega)⟩
theorem iE3 {k : IntKind} {a b : Int} (h : a = b) : AV.t (.v (.int k a)) = AV.t (.v (.int k b)) := by rw [h]
theorem b10N {l : List Nat} {k n : Int} (hn : 1 ≤ n) : ∃ x : Nat, b10F l k n = (x : Int) ∧ (x : Int) < n := by
  have := b10F_lt (l := l) (k := k) hn
  exact ⟨(b10F l k n).toNat, by omega, by omega⟩
def b10Lg (a b : List Nat) : Bool := decide (1048576 < a.length) || decide (1048576 < b.length)
/-- a quarter of a whole number, as a word -/
def q4 (x : Int) : Nat := fop .quo .f32 (fint .f32 x) 1082130432
def h2w (x : Int) : Nat := fop .quo .f32 (fint .f32 x) 1073741824
def e8 (x : Int) : Nat := fop .quo .f32 (fint .f32 x) 1090519040
theorem q4_tab : (List.range 65).all (fun n => decide (q4 ((n : Int) - 32) < 2 * FloatKind.f32.format.signWeight) && decide (q4 ((n : Int) - 32) % FloatKind.f32.format.signWeight < FloatKind.f32.format.infRung) && decide (rv .f32 (q4 ((n : Int) - 32)) * 4 = (((n : Int) - 32 : Int) : Rat))) = true := by decide +kernel
theorem q4_rv {x : Int} (h : -32 ≤ x ∧ x ≤ 32) : Fnt .f32 (q4 x) ∧ rv .f32 (q4 x) * 4 = (x : Rat) := by
  obtain ⟨n, hn⟩ : ∃ n : Nat, x = (n : Int) - 32 := ⟨(x + 32).toNat, by omega⟩
  have := List.all_eq_true.1 q4_tab n (List.mem_range.2 (by omega))
  subst hn
  simp only [Bool.and_eq_true, decide_eq_true_eq] at this
  exact ⟨⟨this.1.1, this.1.2⟩, this.2⟩
/-- a list of quarters -/
def l3L (l : List Nat) (n : Nat) : List Nat := (List.range n).map fun i : Nat => q4 (dvD l i 33 - 16)
theorem l3L_len (l : List Nat) (n : Nat) : (l3L l n).length = n := by simp [l3L]
theorem l3L_get {l : List Nat} {n i : Nat} (h : i < n) : (l3L l n).getD i 0 = q4 (dvD l i 33 - 16) := getD_mapR _ h
attribute [local irreducible] QRun LexD AWp TCall TMut fop fint fcmp fconv hw fmx dvD
theorem b10Long_c (a b : List Nat) (ha : a.length ≤ 9223372036854775807) (hb : b.length ≤ 9223372036854775807) : TCall Try.prog 5 [BY a, BY b] (.t (.v (.bool (b10Lg a b)))) [] := by
  refine tcall_of Try.func5 rfl (by kernel_rfl) (Nat.le_of_ble_eq_true rfl) rfl ?_
  simp only [argsL, argAV, argCs, argS]
  refine V1 ?_
  (first | refine w_r (q_len_tree tyOk rfl rfl rfl rfl rfl) (h := ?_) | refine y_r (q_len_tree tyOk rfl rfl rfl rfl rfl) (h := ?_))
  refine V1 ?_
  refine lex_if rfl rfl rfl (fun h => ?_) (fun h => ?_)
  · refine V1 ?_
    rw [show b10Lg a b = true by simp [icmp, T.len] at h; simp [b10Lg]; omega]
    (refine u_0 ?_; (repeat' (first | exact RetRelL.nil | refine RetRel.nil rfl ?_ | refine RetRelL.cons ?_ ?_ | refine rr_tup ?_ | refine rr_agg ?_ | refine rr_own rfl ?_ | exact RetRel.arg | exact RetRel.argc | refine rr_t ?_)); all_goals rfl)
  · refine V1 ?_
    (first | refine w_r (q_len_tree tyOk rfl rfl rfl rfl rfl) (h := ?_) | refine y_r (q_len_tree tyOk rfl rfl rfl rfl rfl) (h := ?_))
    refine V1 ?_
    rw [show b10Lg a b = icmp .gtr ((T.len (BY b) : Nat) : Int) 1048576 by
      simp [icmp, T.len] at h
      unfold b10Lg
      rw [decide_eq_false (by omega), Bool.false_or]
      simp only [icmp, T.len, by_len]
      exact decide_eq_decide.2 (by omega)]
    (refine u_0 ?_; (repeat' (first | exact RetRelL.nil | refine RetRel.nil rfl ?_ | refine RetRelL.cons ?_ ?_ | refine rr_tup ?_ | refine rr_agg ?_ | refine rr_own rfl ?_ | exact RetRel.arg | exact RetRel.argc | refine rr_t ?_)); all_goals rfl)
theorem b10At_c (l : List Nat) (k n : Int) (hl : l.length ≤ 9223372036854775807) (hb : ∀ i, i < l.length → l.getD i 0 < 256) (hk : 0 ≤ k ∧ k ≤ 1000000) (hn : 1 < n ∧ n ≤ 9223372036854775807) :
    TCall Try.prog 7 [BY l, .v (.int .i64 k), .v (.int .i64 n)] (.t (.v (.int .i64 (b10F l k n)))) [] := by
  refine tcall_of Try.func7 rfl (by kernel_rfl) (Nat.le_of_ble_eq_true rfl) rfl ?_
  simp only [argsL, argAV, argCs, argS]
  refine V1 ?_
  refine awp_ifF rfl (by simp only [icmp]; exact decide_eq_false (by omega)) ?_
  refine V1 ?_
  (first | refine w_r (q_len_tree tyOk rfl rfl rfl rfl rfl) (h := ?_) | refine y_r (q_len_tree tyOk rfl rfl rfl rfl rfl) (h := ?_))
  refine V1 ?_
  refine awp_if rfl (fun h1 => ?_) (fun h1 => ?_)
  · simp only [icmp, decide_eq_true_eq, T.len, by_len] at h1
    obtain ⟨i, rfl⟩ : ∃ i : Nat, k = (i : Int) := ⟨k.toNat, by omega⟩
    have hi : i < l.length := by omega
    have h8 := hb i hi
    have hw : IntKind.wrap .i64 ((l.getD i 0 : Nat) : Int) = ((l.getD i 0 : Nat) : Int) := wrap_in (by omega)
    refine V1 ?_
    have hbl := by_len l
    (first | (refine w_r (q_idx_tree (i) tyOk rfl rfl rfl rfl rfl rfl rfl rfl (by omega) (by first | omega | (simp only [T.len]; omega) | assumption)) (h := ?_)) | (refine y_r (q_idx_tree (i) tyOk rfl rfl rfl rfl rfl rfl rfl rfl (by omega) (by first | omega | (simp only [T.len]; omega) | assumption)) (h := ?_)))
    rw [by_get hi]
    refine V1 ?_
    (first | refine w_r (q_cv_ii tyOk rfl rfl rfl rfl rfl) (h := ?_) | refine y_r (q_cv_ii tyOk rfl rfl rfl rfl rfl) (h := ?_))
    rw [hw]
    refine V1 ?_
    (first | (refine w_r (q_rem rfl rfl rfl (by omega) (by omega)) (h := ?_)) | (refine y_r (q_rem rfl rfl rfl (by omega) (by omega)) (h := ?_)))
    refine V1 ?_
    rw [show b10F l (i : Nat) n = ((l.getD i 0 : Nat) : Int) % n by unfold b10F; rw [if_pos (by omega), Int.toNat_natCast]]
    (refine u_0 ?_; (repeat' (first | exact RetRelL.nil | refine RetRel.nil rfl ?_ | refine RetRelL.cons ?_ ?_ | refine rr_tup ?_ | refine rr_agg ?_ | refine rr_own rfl ?_ | exact RetRel.arg | exact RetRel.argc | refine rr_t ?_)); all_goals rfl)
  · simp only [icmp, decide_eq_false_iff_not, T.len, by_len] at h1
    refine V1 ?_
    (first | (refine w_r (q_mul rfl rfl rfl (by omega)) (h := ?_)) | (refine y_r (q_mul rfl rfl rfl (by omega)) (h := ?_)))
    refine V1 ?_
    (first | (refine w_r (q_rem rfl rfl rfl (by omega) (by omega)) (h := ?_)) | (refine y_r (q_rem rfl rfl rfl (by omega) (by omega)) (h := ?_)))
    refine V1 ?_
    rw [show b10F l k n = (k * 37 + 11) % n by unfold b10F; rw [if_neg (by omega)]]
    (refine u_0 ?_; (repeat' (first | exact RetRelL.nil | refine RetRel.nil rfl ?_ | refine RetRelL.cons ?_ ?_ | refine rr_tup ?_ | refine rr_agg ?_ | refine rr_own rfl ?_ | exact RetRel.arg | exact RetRel.argc | refine rr_t ?_)); all_goals rfl)
theorem specSameN_c (c d : Nat) : TCall Try.prog 16 [.f .f32 c, .f .f32 d] (.t (.v (.bool (bits c == bits d)))) [] := by
  refine tcall_of Try.func16 rfl (by kernel_rfl) (Nat.le_of_ble_eq_true rfl) rfl ?_
  simp only [argsL, argAV, argCs, argS]
  refine V1 ?_
  (first | refine c_q (l01Same_c _ _) (h := ?_) | refine z_q (l01Same_c _ _) (h := ?_))
  refine V1 ?_
  (refine u_0 ?_; (repeat' (first | exact RetRelL.nil | refine RetRel.nil rfl ?_ | refine RetRelL.cons ?_ ?_ | refine rr_tup ?_ | refine rr_agg ?_ | refine rr_own rfl ?_ | exact RetRel.arg | exact RetRel.argc | refine rr_t ?_)); all_goals rfl)
theorem specSameN_self (c : Nat) : TCall Try.prog 16 [.f .f32 c, .f .f32 c] (.t (.v (.bool true))) [] := by
  have := specSameN_c c c
  rwa [show (bits c == bits c) = true by simp] at this
/-- a list held against itself -/
theorem b10List_self (l : List Nat) (hl : l.length ≤ 9223372036854775807) : TCall Try.prog 21 [.fl l, .fl l] (.t (.v (.bool true))) [] := by
  refine tcall_of Try.func21 rfl (by kernel_rfl) (Nat.le_of_ble_eq_true rfl) rfl ?_
  simp only [argsL, argAV, argCs, argS]
  refine V1 ?_
  refine awp_ifF rfl (by simp [icmp]) ?_
  refine V1 ?_
  refine awp_loop (X := Nat) (fun i => i ≤ l.length) (fun i => [(0, .arg 0 (.fl l)), (1, .arg 1 (.fl l)), (12, .t (.v (.int .i64 l.length))), (13, .t (.v (.int .i64 i)))]) (fun _ => []) (fun i => l.length - i)
    0 ⟨by omega, fun i => i, ⟨rfl, rfl, rfl, rfl, trivial⟩, trivial, injOn_id _⟩ (fun i hi => ?_)
  refine V1 ?_
  refine awp_if rfl (fun h => ?_) (fun h => ?_)
  · simp only [icmp, decide_eq_true_eq] at h
    refine V1 ?_
    (first | refine c_q (specSameN_self _) (h := ?_) | refine z_q (specSameN_self _) (h := ?_))
    refine V1 ?_
    refine awp_ifF rfl rfl ?_
    refine V1 ?_
    exact ⟨i + 1, by omega, by omega, fun i => i, ⟨rfl, rfl, rfl, rfl, trivial⟩, trivial, injOn_id _⟩
  refine V1 ?_
  (refine u_0 ?_; (repeat' (first | exact RetRelL.nil | refine RetRel.nil rfl ?_ | refine RetRelL.cons ?_ ?_ | refine rr_tup ?_ | refine rr_agg ?_ | refine rr_own rfl ?_ | exact RetRel.arg | exact RetRel.argc | refine rr_t ?_)); all_goals rfl)
theorem l03Draw_c {l : List Nat} (h : Byt l) (n : Nat) (hn : n ≤ 96) :
    TMut Try.prog 32 (.bp 0 0 :: cB [.int .i64 n]) [(0, .box 89 (.old (BY l) :: cB (bxD l 0)))] (.own 0 (l3L l n).length) [] [(0, .sl 30 (.fl (l3L l n)))] := by
  have hll := l3L_len l n
  refine tmut_of Try.func32 rfl (by kernel_rfl) (Nat.le_of_ble_eq_true rfl) rfl ?_
  simp only [slotsL, cB, List.map]
  refine V1 ?_
  refine awp_loop (X := Nat) (fun i => i ≤ n) (fun i => [(0, .bp 0 0), (1, .t (.v (.int .i64 ((n : Int) - i)))), (5, .own 6 0 i)])
    (fun i => [(6, .sl 30 (.fl ((l3L l n).take i))), (0, .box 89 [.old (BY l), .t (.v (.int .i64 (i : Nat))), .t (.v (.int .u64 (sdD l i)))])]) (fun i => n - i)
    0 ⟨by omega, fun i => i, ⟨rfl, iE3 (by omega), rfl, trivial⟩, ⟨rfl, rfl, trivial⟩, injOn_id _⟩ (fun i hi => ?_)
  have hz : ((l3L l n).take i).length = i := by simp [hll]; omega
  have ai := dvD_rng h i (n := 33) (by omega)
  refine V1 ?_
  refine awp_if rfl (fun h1 => ?_) (fun h1 => ?_)
  · simp only [icmp, decide_eq_true_eq] at h1
    refine V1 ?_
    (first | (refine w_rs (q_cbox (pick_d h i 33 (by omega) (by omega)) rfl rfl rfl rfl rfl rfl rfl rfl) (hH := by first | (simp only [scrubF, scrubHL, scrub, scrubL, scrubB, cB, List.map, cblk, cids, cid, relab, sg, List.contains_cons, List.contains_nil, Nat.reduceBEq, Bool.or_false, Bool.or_true, cond_true, cond_false, List.cons_append, List.nil_append, Nat.reduceMul, Nat.reduceAdd, List.set, List.take, List.drop, List.length, List.append_nil]; rfl) | rfl) (h := ?_)) | (refine dx_s rfl rfl rfl (q_cbox (pick_d h i 33 (by omega) (by omega)) rfl rfl rfl rfl rfl rfl rfl rfl) (by first | exact nf_f rfl | exact nf_b rfl | exact nf_i rfl | exact nf_bp rfl | exact nf_own rfl | exact nf_argo rfl | exact nf_arg rfl | exact nf_argc rfl | exact nf_fl rfl | exact nf_ofl rfl | exact nf_oref rfl | exact nf_tref rfl | exact nf_s rfl | exact nf_t rfl | exact nf_old rfl | exact nf_junk rfl | exact nf_dead rfl | (simp only [resV, resVl, scrubL, scrub, List.map, List.drop, List.take, mkT, zA, cellsA, cid, cids, relab, sg, List.getD, List.append, List.cons_append, List.nil_append, Nat.reduceMul, Nat.reduceAdd, Array.toList, T.get, cond_true, cond_false]; rfl) | rfl) (by first | (simp only [scrubF, scrubHL, scrub, scrubL, scrubB, cblk, cids, cid, relab, sg, List.contains_cons, List.contains_nil, Nat.reduceBEq, Bool.or_false, Bool.or_true, cond_true, cond_false, List.cons_append, List.nil_append, Nat.reduceMul, Nat.reduceAdd, List.set, List.take, List.drop, List.length, List.append_nil]; rfl) | rfl) (by first | (simp only [scrubF, scrubHL, scrub, scrubL, scrubB, cB, List.map, cblk, cids, cid, relab, sg, List.contains_cons, List.contains_nil, Nat.reduceBEq, Bool.or_false, Bool.or_true, cond_true, cond_false, List.cons_append, List.nil_append, Nat.reduceMul, Nat.reduceAdd, List.set, List.take, List.drop, List.length, List.append_nil]; rfl) | rfl) (by kernel_rfl) ?_))
    refine V1 ?_
    (first | refine a_s (hn := by exact hz) (h := ?_) | refine b_s (hn := by exact hz) (h := ?_))
    refine V1 ?_
    exact ⟨i + 1, by omega, by omega, fun i => i, ⟨rfl, iE3 (by omega), own_eq (by simp only [T.app, T.len, List.length_append, hz]; rfl), trivial⟩, ⟨sl_eq (congrArg T.fl (take_snoc (by omega) (l3L_get (by omega)))), rfl, trivial⟩, injOn_id _⟩
  simp only [icmp, decide_eq_false_iff_not] at h1
  obtain rfl : i = n := by omega
  rw [List.take_of_length_le (by omega : (l3L l i).length ≤ i)]
  refine V1 ?_
  refine mret_ok tyOk (by first | exact .inr rfl | exact .inl rfl) (pi1 6) rfl (by repeat (first | exact .nil | (apply ResAl.cons; first | exact .tmp | exact .cell rfl rfl rfl rfl rfl rfl | exact .cell1 rfl rfl rfl rfl rfl))) ?_ ⟨rfl, trivial⟩ (injO_1 _ _ _) trivial
  repeat' (first | exact RetRelL.nil | refine RetRel.nil rfl ?_ | refine RetRelL.cons ?_ ?_ | refine rr_tup ?_ | refine rr_agg ?_ | refine rr_own rfl ?_ | exact RetRel.arg | exact RetRel.argc | refine rr_t ?_)
  all_goals first | rfl | omega
theorem b10List_c {l : List Nat} (h : Byt l) (n : Nat) (hn : n ≤ 96) : TCall Try.prog 8 [BY l, .v (.int .i64 n)] (.own 0 (l3L l n).length) [(0, .sl 30 (.fl (l3L l n)))] := by
  refine tcall_of Try.func8 rfl (by kernel_rfl) (Nat.le_of_ble_eq_true rfl) rfl ?_
  simp only [argsL, argAV, argCs, argS]
  refine V1 ?_
  (refine w_rs (q_from (from_n) rfl rfl rfl rfl) (hH := by first | (simp only [scrubF, scrubHL, scrub, scrubL, scrubB, cB, List.map, cblk, cids, cid, relab, sg, List.contains_cons, List.contains_nil, Nat.reduceBEq, Bool.or_false, Bool.or_true, cond_true, cond_false, List.cons_append, List.nil_append, Nat.reduceMul, Nat.reduceAdd, List.set, List.take, List.drop, List.length, List.append_nil]; rfl) | rfl) (h := ?_))
  refine V1 ?_
  (refine w_rs (q_dev (l03Draw_c h n hn) rfl rfl rfl rfl rfl rfl rfl rfl rfl rfl rfl) (hH := by first | (simp only [scrubF, scrubHL, scrub, scrubL, scrubB, cB, List.map, cblk, cids, cid, relab, sg, List.contains_cons, List.contains_nil, Nat.reduceBEq, Bool.or_false, Bool.or_true, cond_true, cond_false, List.cons_append, List.nil_append, Nat.reduceMul, Nat.reduceAdd, List.set, List.take, List.drop, List.length, List.append_nil]; rfl) | rfl) (h := ?_))
  refine V1 ?_
  refine ret_ok tyOk (by first | exact .inr rfl | exact .inl rfl) (pi1 10) rfl (by repeat (first | exact .nil | (apply ResAl.cons; first | exact .tmp | exact .cell rfl rfl rfl rfl rfl rfl | exact .cell1 rfl rfl rfl rfl rfl))) ?_ ⟨rfl, trivial⟩ (injO_1 _ _ _)
  repeat' (first | exact RetRelL.nil | refine RetRel.nil rfl ?_ | refine RetRelL.cons ?_ ?_ | refine rr_tup ?_ | refine rr_agg ?_ | refine rr_own rfl ?_ | exact RetRel.arg | exact RetRel.argc | refine rr_t ?_)
  all_goals rfl
theorem b10List_t {l : List Nat} (h : Byt l) (n : Nat) (hn : n ≤ 96) : TCall Try.prog 8 [BY l, .v (.int .i64 n)] (.t (.fl (l3L l n))) [] := tcall_fl (b10List_c h n hn) rfl
end Go.Proofs.Ytpdnjcblkjjegaa

set_option linter.unusedVariables false
set_option linter.unusedSimpArgs false
set_option maxRecDepth 100000
set_option maxHeartbeats 8000000
namespace Go.Proofs.Ytpdnjcblkjjegaa
open Go.Aw
open Go.RowKit (Below)

/-! ### slices that a call has made, as data; append to nil -/
theorem own_fl {args : List Value} {w w' : World} {μ : Nat → Option Nat} {ok : Nat → Prop} {e : TypeId} {l : List Nat} {n : Nat} {y : Value} (hc : HC ⟨args, w.heap.size, noLoan⟩ w μ (lkH [(0, .sl e (.fl l))]) w') (hr : RRel args w' μ ok (.own 0 n) y) (hn : n = l.length) :
    TR w' (okF ⟨args, w.heap.size, noLoan⟩ (okOf (fun _ => none) (lkH []))) (.fl l) y := by
  rw [TR]
  refine gf_fl ?_
  rw [RRel.eq_def] at hr
  simp only [] at hr
  rw [TR]
  obtain ⟨hsl, hB⟩ := hc.blk 0 _ rfl
  rcases hr with ⟨h1, h2, rfl⟩ | ⟨b, cap, e1, m, hb, rfl, hs, hcap, hle⟩
  · exact ⟨none, 0, 0, rfl, by omega, Nat.le_refl _, .inl rfl⟩
  · rcases hB with ⟨h0, _⟩ | ⟨b', cs, hb', hbase, hw, hlen, hcs⟩
    · rw [h0] at hb; cases hb
    · rw [hb] at hb'; cases hb'
      rw [size_shape hw] at hs; cases hs
      refine ⟨_, _, _, rfl, hn, hle, .inr ⟨b, cs, e, rfl, (Array.getElem?_eq_some_iff.1 hw).1, ⟨fun i hi => by simp [lkH] at hi, hbase.elim .inl False.elim⟩, hw, hcap, fun i hi => ?_⟩⟩
      have hi' : i < l.length := by omega
      obtain ⟨x, hx, hr⟩ := ((TRl_iff ..).1 hcs).2 i (.f .f32 l[i]) (by simp [T.elems, hi'])
      rw [List.getElem?_take] at hx
      split at hx
      · rw [TR] at hr
        obtain ⟨z, rfl, hf⟩ := hr
        exact ⟨z, by simpa using hx, by simpa [List.getD_eq_getElem?_getD, hi'] using hf⟩
      · cases hx
theorem hc_none {args : List Value} {w w' : World} {μ : Nat → Option Nat} {η : Hp} (hc : HC ⟨args, w.heap.size, noLoan⟩ w μ η w') : HC ⟨args, w.heap.size, noLoan⟩ w (fun _ => none) (lkH []) w' :=
  ⟨hc.base, hc.below, fun i B hB => by simp [lkH] at hB, fun i j b hi => by simp [lkH] at hi⟩
theorem dat_f {args : List Value} {w : World} {μ : Nat → Option Nat} {ok ok' : Nat → Prop} {k : FloatKind} {c : Nat} {y : Value} (h : RRel args w μ ok (.t (.f k c)) y) : TR w ok' (.f k c) y := by
  rw [RRel, TR] at h; rw [TR]; exact h
theorem dat_v {args : List Value} {w : World} {μ : Nat → Option Nat} {ok ok' : Nat → Prop} {v y : Value} (h : RRel args w μ ok (.t (.v v)) y) : TR w ok' (.v v) y := by
  rw [RRel, TR] at h; rw [TR]; exact h
end Go.Proofs.Ytpdnjcblkjjegaa

set_option linter.unusedVariables false
set_option linter.unusedSimpArgs false
namespace Go.Aw

theorem ep64 : ep .f64 = 1 / 4503599627370496 := by decide +kernel
theorem u64 : uU .f64 ≤ 1 / 1000000000000000000000000000000000000000000000000000000000000 := by decide +kernel
theorem top64 : 1000000000000000000000000000000 ≤ topR .f64 := by decide +kernel
theorem rds64 {x M : Rat} {c : Nat} (h : RdS .f64 x c) (h1 : x ≤ M) (h2 : -M ≤ x) (hM : okM M) : ∃ e, rv .f64 c = x + e ∧ -(M / 4000000000000000) ≤ e ∧ e ≤ M / 4000000000000000 ∧ Fnt .f64 c := by
  have ht := top64
  obtain ⟨g1, g2, g3⟩ := h.err h1 h2 (by have := hM.2; grind)
  rw [ep64] at g2 g3
  have hu := u64
  have := hM.1
  refine ⟨rv .f64 c - x, by grind, ?_, ?_, g1⟩ <;> grind
theorem add64 {a b : Nat} {M : Rat} (ha : Fnt .f64 a) (hb : Fnt .f64 b) (h1 : rv .f64 a + rv .f64 b ≤ M) (h2 : -M ≤ rv .f64 a + rv .f64 b) (hM : okM M) :
    ∃ e, rv .f64 (fop .add .f64 a b) = rv .f64 a + rv .f64 b + e ∧ -(M / 4000000000000000) ≤ e ∧ e ≤ M / 4000000000000000 ∧ Fnt .f64 (fop .add .f64 a b) := rds64 (add_rds ha hb) h1 h2 hM
theorem mul64 {a b : Nat} {M : Rat} (ha : Fnt .f64 a) (hb : Fnt .f64 b) (h1 : rv .f64 a * rv .f64 b ≤ M) (h2 : -M ≤ rv .f64 a * rv .f64 b) (hM : okM M) :
    ∃ e, rv .f64 (fop .mul .f64 a b) = rv .f64 a * rv .f64 b + e ∧ -(M / 4000000000000000) ≤ e ∧ e ≤ M / 4000000000000000 ∧ Fnt .f64 (fop .mul .f64 a b) := rds64 (mul_rds ha hb) h1 h2 hM
def Bd64 (c : Nat) (M : Rat) : Prop := Fnt .f64 c ∧ rv .f64 c ≤ M ∧ -M ≤ rv .f64 c
theorem Bd64.mono {c : Nat} {M N : Rat} (h : Bd64 c M) (hM : M ≤ N) : Bd64 c N := ⟨h.1, by have := h.2.1; grind, by have := h.2.2; grind⟩
theorem Bd64.add {a b : Nat} {M N L : Rat} (ha : Bd64 a M) (hb : Bd64 b N) (hL : (M + N) * (1001 / 1000) ≤ L) (hM : okM (M + N)) : Bd64 (fop .add .f64 a b) L := by
  obtain ⟨a1, a2, a3⟩ := ha
  obtain ⟨b1, b2, b3⟩ := hb
  obtain ⟨e, h1, h2, h3, h4⟩ := add64 (M := M + N) a1 b1 (by grind) (by grind) hM
  exact ⟨h4, by rw [h1]; grind, by rw [h1]; grind⟩
theorem Bd64.mul {a b : Nat} {M N L : Rat} (ha : Bd64 a M) (hb : Bd64 b N) (hL : (M * N) * (1001 / 1000) ≤ L) (hM : okM (M * N)) : Bd64 (fop .mul .f64 a b) L := by
  obtain ⟨a1, a2, a3⟩ := ha
  obtain ⟨b1, b2, b3⟩ := hb
  obtain ⟨p1, p2⟩ := mul_bd a2 a3 b2 b3
  obtain ⟨e, h1, h2, h3, h4⟩ := mul64 (M := M * N) a1 b1 p1 p2 hM
  exact ⟨h4, by rw [h1]; grind, by rw [h1]; grind⟩
/-! ### the logarithm -/
end Go.Aw

set_option linter.unusedVariables false
namespace Go.Aw
/-- what is left of a sequence behind its first n parts -/
def tlC : Nat → Code → Code
  | 0, c => c
  | n + 1, .seq _ b => tlC n b
  | _ + 1, c => c
/-- the same from a function's body -/
def tlF (f : Func) (n : Nat) : Code := match f.body with
  | some c => tlC n c
  | none => .skip
end Go.Aw

