import Derived.Test.YtmnpdipiffmnhaaVT104
import Derived.Test.YtmnpdipiffmnhaaVAwI
import Derived.Test.YtmnpdipiffmnhaaVAwG
set_option linter.unusedVariables false
set_option linter.unusedSimpArgs false
set_option maxRecDepth 100000
set_option maxHeartbeats 8000000
namespace Go.Proofs.Ytmnpdipiffmnhaa
open Go.Aw Go.RowKit

/-! ### the draws as plain functions -/
theorem and255 (x : Int) : 0 ≤ Go.bits BinOp.and IntKind.u64 x 255 ∧ Go.bits BinOp.and IntKind.u64 x 255 < 256 := by
  unfold Go.bits
  have h : (BitVec.ofInt IntKind.u64.bits x &&& BitVec.ofInt IntKind.u64.bits 255).toNat ≤ 255 := by
    rw [BitVec.toNat_and]
    have : (BitVec.ofInt IntKind.u64.bits 255).toNat = 255 := by decide
    rw [this]; exact Nat.and_le_right
  have key : ∀ m : Nat, m ≤ 255 → 0 ≤ IntKind.wrap .u64 (m : Int) ∧ IntKind.wrap .u64 (m : Int) < 256 := fun m hm => by
    unfold IntKind.wrap
    simp only [IntKind.signed, IntKind.bits, Bool.false_and, Bool.false_eq_true, if_false]
    omega
  exact key _ h
theorem nxO_rng (seed : Int) : 0 ≤ nxO seed ∧ nxO seed < 256 := by
  unfold nxO
  have := and255 (IntKind.u64.wrap (IntKind.u64.wrap (IntKind.u64.wrap (seed * 6364136223846793005)) + 1442695040888963407) / 1099511627776)
  generalize Go.bits BinOp.and IntKind.u64 (IntKind.u64.wrap (IntKind.u64.wrap (IntKind.u64.wrap (seed * 6364136223846793005)) + 1442695040888963407) / 1099511627776) 255 = v at *
  unfold wrap64; omega
def Byt (l : List Nat) : Prop := l.length ≤ 1048576 ∧ ∀ i, i < l.length → l.getD i 0 < 256
theorem nxV_rng {l : List Nat} (h : Byt l) (k : Nat) (seed : Int) : 0 ≤ nxV l k seed ∧ nxV l k seed < 256 := by
  unfold nxV
  split
  · have := h.2 k (by assumption); omega
  · exact nxO_rng seed
def sdD (l : List Nat) : Nat → Int
  | 0 => 0
  | k + 1 => nxS l k (sdD l k)
/-- the k-th draw, below n -/
def dvD (l : List Nat) (k : Nat) (n : Int) : Int := (nxV l k (sdD l k)).tmod n
theorem dvD_rng {l : List Nat} (h : Byt l) (k : Nat) {n : Int} (hn : 1 ≤ n) : 0 ≤ dvD l k n ∧ dvD l k n < n := by
  have h1 := nxV_rng h k (sdD l k)
  unfold dvD
  rw [Int.tmod_eq_emod_of_nonneg h1.1]
  exact ⟨Int.emod_nonneg _ (by omega), Int.emod_lt_of_pos _ (by omega)⟩
abbrev bxD (l : List Nat) (k : Nat) : List Value := [.int .i64 (k : Nat), .int .u64 (sdD l k)]
theorem pick_d {l : List Nat} (h : Byt l) (k : Nat) (n : Int) (hk : k ≤ 4000000) (hn : 1 < n ∧ n ≤ 200) : PBox Try.prog 104 [.int .i64 n] (.int .i64 (dvD l k n)) (BY l) (bxD l k) (bxD l (k + 1)) :=
  pick_b l k (sdD l k) n (by have := h.1; omega) h.2 (by omega) hn
/-- a draw below one is none -/
theorem pick_1 {l : List Nat} (k : Nat) (n : Int) (hn : n ≤ 1) : PBox Try.prog 104 [.int .i64 n] (.int .i64 0) (BY l) (bxD l k) (bxD l k) := by
  refine ⟨⟨_, Try.func104, rfl, by kernel_rfl⟩, fun w b y0 e hw ht => ?_⟩
  refine calls_of_wp Try.func104 rfl ?_
  simp only [Try.ntmps104, List.size_toArray, List.length_cons, List.length_nil, Nat.reduceAdd, Nat.reduceSub, Array.replicate_succ, Array.replicate_zero, List.push_toArray, List.append_toArray, List.nil_append, List.cons_append]
  go_wp2_with (fail)
  go_ret
  exact ⟨rfl, rfl, rfl, rfl, rfl, fun _ _ => rfl, hw⟩
theorem from_n : PNew Try.prog 67 156 [.int .i64 0, .int .u64 0] := by
  refine ⟨⟨_, Try.func67, rfl, by kernel_rfl⟩, fun w ad n c => ?_⟩
  refine calls_of_wp Try.func67 rfl ?_
  simp only [Try.ntmps67, List.size_toArray, List.length_cons, List.length_nil, Nat.reduceAdd, Nat.reduceSub, Array.replicate_succ, Array.replicate_zero, List.push_toArray, List.append_toArray, List.nil_append, List.cons_append]
  go_wp2
  go_ret
  exact ⟨w.heap.size, rfl, Nat.le_refl _, (Below.refl _ _).alloc (Nat.le_refl _) _, heap_alloc_new w _⟩
attribute [local irreducible] QRun LexD AWp TCall TMut fop fint fcmp fconv hw dvD sdD

/-! ### series of halves -/
theorem hw_half_tab : (List.range 257).all (fun n => fop .quo .f32 (fint .f32 ((n : Int) - 128)) 1073741824 == hw .f32 ((n : Int) - 128)) = true := by decide +kernel
theorem half_hw {x : Int} (h : -128 ≤ x ∧ x ≤ 128) : fop .quo .f32 (fint .f32 x) 1073741824 = hw .f32 x := by
  obtain ⟨n, hn⟩ : ∃ n : Nat, x = (n : Int) - 128 := ⟨(x + 128).toNat, by omega⟩
  have := List.all_eq_true.1 hw_half_tab n (List.mem_range.2 (by omega))
  subst hn
  simpa using this
def perD (l : List Nat) : Nat := 1 + (dvD l 2 5).toNat
def seaL (l : List Nat) : List Int := (List.range (perD l)).map fun j => dvD l (3 + j) 9 - 4
def serX (l : List Nat) (i : Nat) : Int := (dvD l 0 41 - 20) + ((dvD l 1 5 - 2) * i).tdiv 2 + (dvD l (3 + i % perD l) 9 - 4) + dvD l (3 + perD l + i) 5 - 2
def serL (l : List Nat) (n : Nat) : List Nat := (List.range n).map fun i => hw .f32 (serX l i)
theorem serL_len (l : List Nat) (n : Nat) : (serL l n).length = n := by simp [serL]
theorem tdiv_bd {s : Int} {i : Nat} (h : -2 ≤ s ∧ s ≤ 2) : -(i : Int) ≤ (s * i).tdiv 2 ∧ (s * i).tdiv 2 ≤ i ∧ -(2 * (i : Int)) ≤ s * i ∧ s * i ≤ 2 * i := by
  have h1 : -(2 * (i : Int)) ≤ s * i ∧ s * i ≤ 2 * i := by
    have : s = -2 ∨ s = -1 ∨ s = 0 ∨ s = 1 ∨ s = 2 := by omega
    rcases this with rfl | rfl | rfl | rfl | rfl <;> omega
  generalize s * (i : Int) = t at *
  have hs : (2 : Int).sign = 1 := rfl
  rw [Int.tdiv_eq_ediv, hs]
  split <;> omega
theorem serX_bd {l : List Nat} (h : Byt l) (i : Nat) (hi : i < 96) : -128 ≤ serX l i ∧ serX l i ≤ 128 := by
  have a0 := dvD_rng h 0 (n := 41) (by omega)
  have a1 := dvD_rng h 1 (n := 5) (by omega)
  have a3 := dvD_rng h (3 + i % perD l) (n := 9) (by omega)
  have a4 := dvD_rng h (3 + perD l + i) (n := 5) (by omega)
  have a5 := tdiv_bd (s := dvD l 1 5 - 2) (i := i) (by omega)
  unfold serX
  omega
theorem seaL_len (l : List Nat) : (seaL l).length = perD l := by simp [seaL]
theorem seaL_get {l : List Nat} {j : Nat} (h : j < perD l) : (seaL l).getD j 0 = dvD l (3 + j) 9 - 4 := by simp [seaL, List.getD_eq_getElem?_getD, h]
theorem take_snI {l : List Int} {i : Nat} {x : Int} (h : i < l.length) (hx : l.getD i 0 = x) : l.take i ++ [x] = l.take (i + 1) := by
  rw [List.take_succ_eq_append_getElem h]
  congr 2
  simp only [List.getD_eq_getElem?_getD, List.getElem?_eq_getElem h, Option.getD_some] at hx
  exact hx.symm
theorem l02Draw_c {l : List Nat} (h : Byt l) (n : Nat) (hn : n ≤ 96) :
    TMut Try.prog 144 (.bp 0 0 :: cB [.int .i64 n]) [(0, .box 156 (.old (BY l) :: cB (bxD l 0)))] (.own 0 (serL l n).length) [] [(0, .sl 30 (.fl (serL l n)))] := by
  have a0 := dvD_rng h 0 (n := 41) (by omega)
  have a1 := dvD_rng h 1 (n := 5) (by omega)
  have a2 := dvD_rng h 2 (n := 5) (by omega)
  have hp : (1 : Int) + dvD l 2 5 = ((perD l : Nat) : Int) := by unfold perD; omega
  have hp5 : 1 ≤ perD l ∧ perD l ≤ 5 := by omega
  have hsl := seaL_len l
  have hll := serL_len l n
  refine tmut_of Try.func144 rfl (by kernel_rfl) (Nat.le_of_ble_eq_true rfl) rfl ?_
  simp only [slotsL, cB, List.map]
  repeat (first | (refine w_q (h := ?_)) | (refine w_s (h := ?_)) | (refine w_t (h := ?_)) | (refine w_k (h := ?_)) | (refine y_q (h := ?_)) | (refine y_s (h := ?_)) | (refine y_t (h := ?_)) | (refine y_k (h := ?_)) | (refine lex_nil (by kernel_rfl) ?_) | (refine awp_sq ?_) | (refine awp_rg ?_) | (refine awp_rd (by kernel_rfl) (by kernel_rfl) ?_) | (refine awp_block ?_) | (refine awp_exit ?_) | (refine awp_ret ?_) | (refine awp_skip ?_))
  (first | (refine w_rs (q_cbox (pick_d h 0 41 (by omega) (by omega)) rfl rfl rfl rfl rfl rfl rfl rfl) (hH := by first | (simp only [scrubF, scrubHL, scrub, scrubL, scrubB, cB, List.map, cblk, cids, cid, relab, sg, List.contains_cons, List.contains_nil, Nat.reduceBEq, Bool.or_false, Bool.or_true, cond_true, cond_false, List.cons_append, List.nil_append, Nat.reduceMul, Nat.reduceAdd, List.set, List.take, List.drop, List.length, List.append_nil]; rfl) | rfl) (h := ?_)) | (refine dx_s rfl rfl rfl (q_cbox (pick_d h 0 41 (by omega) (by omega)) rfl rfl rfl rfl rfl rfl rfl rfl) (by first | exact nf_f rfl | exact nf_b rfl | exact nf_i rfl | exact nf_bp rfl | exact nf_own rfl | exact nf_argo rfl | exact nf_arg rfl | exact nf_argc rfl | exact nf_fl rfl | exact nf_ofl rfl | exact nf_oref rfl | exact nf_tref rfl | exact nf_s rfl | exact nf_t rfl | exact nf_old rfl | exact nf_junk rfl | exact nf_dead rfl | (simp only [resV, resVl, scrubL, scrub, List.map, List.drop, List.take, mkT, zA, cellsA, cid, cids, relab, sg, List.getD, List.append, List.cons_append, List.nil_append, Nat.reduceMul, Nat.reduceAdd, Array.toList, T.get, cond_true, cond_false]; rfl) | rfl) (by first | (simp only [scrubF, scrubHL, scrub, scrubL, scrubB, cblk, cids, cid, relab, sg, List.contains_cons, List.contains_nil, Nat.reduceBEq, Bool.or_false, Bool.or_true, cond_true, cond_false, List.cons_append, List.nil_append, Nat.reduceMul, Nat.reduceAdd, List.set, List.take, List.drop, List.length, List.append_nil]; rfl) | rfl) (by first | (simp only [scrubF, scrubHL, scrub, scrubL, scrubB, cB, List.map, cblk, cids, cid, relab, sg, List.contains_cons, List.contains_nil, Nat.reduceBEq, Bool.or_false, Bool.or_true, cond_true, cond_false, List.cons_append, List.nil_append, Nat.reduceMul, Nat.reduceAdd, List.set, List.take, List.drop, List.length, List.append_nil]; rfl) | rfl) (by kernel_rfl) ?_))
  repeat (first | (refine w_q (h := ?_)) | (refine w_s (h := ?_)) | (refine w_t (h := ?_)) | (refine w_k (h := ?_)) | (refine y_q (h := ?_)) | (refine y_s (h := ?_)) | (refine y_t (h := ?_)) | (refine y_k (h := ?_)) | (refine lex_nil (by kernel_rfl) ?_) | (refine awp_sq ?_) | (refine awp_rg ?_) | (refine awp_rd (by kernel_rfl) (by kernel_rfl) ?_) | (refine awp_block ?_) | (refine awp_exit ?_) | (refine awp_ret ?_) | (refine awp_skip ?_))
  (first | (refine w_rs (q_cbox (pick_d h 1 5 (by omega) (by omega)) rfl rfl rfl rfl rfl rfl rfl rfl) (hH := by first | (simp only [scrubF, scrubHL, scrub, scrubL, scrubB, cB, List.map, cblk, cids, cid, relab, sg, List.contains_cons, List.contains_nil, Nat.reduceBEq, Bool.or_false, Bool.or_true, cond_true, cond_false, List.cons_append, List.nil_append, Nat.reduceMul, Nat.reduceAdd, List.set, List.take, List.drop, List.length, List.append_nil]; rfl) | rfl) (h := ?_)) | (refine dx_s rfl rfl rfl (q_cbox (pick_d h 1 5 (by omega) (by omega)) rfl rfl rfl rfl rfl rfl rfl rfl) (by first | exact nf_f rfl | exact nf_b rfl | exact nf_i rfl | exact nf_bp rfl | exact nf_own rfl | exact nf_argo rfl | exact nf_arg rfl | exact nf_argc rfl | exact nf_fl rfl | exact nf_ofl rfl | exact nf_oref rfl | exact nf_tref rfl | exact nf_s rfl | exact nf_t rfl | exact nf_old rfl | exact nf_junk rfl | exact nf_dead rfl | (simp only [resV, resVl, scrubL, scrub, List.map, List.drop, List.take, mkT, zA, cellsA, cid, cids, relab, sg, List.getD, List.append, List.cons_append, List.nil_append, Nat.reduceMul, Nat.reduceAdd, Array.toList, T.get, cond_true, cond_false]; rfl) | rfl) (by first | (simp only [scrubF, scrubHL, scrub, scrubL, scrubB, cblk, cids, cid, relab, sg, List.contains_cons, List.contains_nil, Nat.reduceBEq, Bool.or_false, Bool.or_true, cond_true, cond_false, List.cons_append, List.nil_append, Nat.reduceMul, Nat.reduceAdd, List.set, List.take, List.drop, List.length, List.append_nil]; rfl) | rfl) (by first | (simp only [scrubF, scrubHL, scrub, scrubL, scrubB, cB, List.map, cblk, cids, cid, relab, sg, List.contains_cons, List.contains_nil, Nat.reduceBEq, Bool.or_false, Bool.or_true, cond_true, cond_false, List.cons_append, List.nil_append, Nat.reduceMul, Nat.reduceAdd, List.set, List.take, List.drop, List.length, List.append_nil]; rfl) | rfl) (by kernel_rfl) ?_))
  repeat (first | (refine w_q (h := ?_)) | (refine w_s (h := ?_)) | (refine w_t (h := ?_)) | (refine w_k (h := ?_)) | (refine y_q (h := ?_)) | (refine y_s (h := ?_)) | (refine y_t (h := ?_)) | (refine y_k (h := ?_)) | (refine lex_nil (by kernel_rfl) ?_) | (refine awp_sq ?_) | (refine awp_rg ?_) | (refine awp_rd (by kernel_rfl) (by kernel_rfl) ?_) | (refine awp_block ?_) | (refine awp_exit ?_) | (refine awp_ret ?_) | (refine awp_skip ?_))
  (first | (refine w_rs (q_cbox (pick_d h 2 5 (by omega) (by omega)) rfl rfl rfl rfl rfl rfl rfl rfl) (hH := by first | (simp only [scrubF, scrubHL, scrub, scrubL, scrubB, cB, List.map, cblk, cids, cid, relab, sg, List.contains_cons, List.contains_nil, Nat.reduceBEq, Bool.or_false, Bool.or_true, cond_true, cond_false, List.cons_append, List.nil_append, Nat.reduceMul, Nat.reduceAdd, List.set, List.take, List.drop, List.length, List.append_nil]; rfl) | rfl) (h := ?_)) | (refine dx_s rfl rfl rfl (q_cbox (pick_d h 2 5 (by omega) (by omega)) rfl rfl rfl rfl rfl rfl rfl rfl) (by first | exact nf_f rfl | exact nf_b rfl | exact nf_i rfl | exact nf_bp rfl | exact nf_own rfl | exact nf_argo rfl | exact nf_arg rfl | exact nf_argc rfl | exact nf_fl rfl | exact nf_ofl rfl | exact nf_oref rfl | exact nf_tref rfl | exact nf_s rfl | exact nf_t rfl | exact nf_old rfl | exact nf_junk rfl | exact nf_dead rfl | (simp only [resV, resVl, scrubL, scrub, List.map, List.drop, List.take, mkT, zA, cellsA, cid, cids, relab, sg, List.getD, List.append, List.cons_append, List.nil_append, Nat.reduceMul, Nat.reduceAdd, Array.toList, T.get, cond_true, cond_false]; rfl) | rfl) (by first | (simp only [scrubF, scrubHL, scrub, scrubL, scrubB, cblk, cids, cid, relab, sg, List.contains_cons, List.contains_nil, Nat.reduceBEq, Bool.or_false, Bool.or_true, cond_true, cond_false, List.cons_append, List.nil_append, Nat.reduceMul, Nat.reduceAdd, List.set, List.take, List.drop, List.length, List.append_nil]; rfl) | rfl) (by first | (simp only [scrubF, scrubHL, scrub, scrubL, scrubB, cB, List.map, cblk, cids, cid, relab, sg, List.contains_cons, List.contains_nil, Nat.reduceBEq, Bool.or_false, Bool.or_true, cond_true, cond_false, List.cons_append, List.nil_append, Nat.reduceMul, Nat.reduceAdd, List.set, List.take, List.drop, List.length, List.append_nil]; rfl) | rfl) (by kernel_rfl) ?_))
  repeat (first | (refine w_q (h := ?_)) | (refine w_s (h := ?_)) | (refine w_t (h := ?_)) | (refine w_k (h := ?_)) | (refine y_q (h := ?_)) | (refine y_s (h := ?_)) | (refine y_t (h := ?_)) | (refine y_k (h := ?_)) | (refine lex_nil (by kernel_rfl) ?_) | (refine awp_sq ?_) | (refine awp_rg ?_) | (refine awp_rd (by kernel_rfl) (by kernel_rfl) ?_) | (refine awp_block ?_) | (refine awp_exit ?_) | (refine awp_ret ?_) | (refine awp_skip ?_))
  rw [hp]
  repeat (first | (refine w_q (h := ?_)) | (refine w_s (h := ?_)) | (refine w_t (h := ?_)) | (refine w_k (h := ?_)) | (refine y_q (h := ?_)) | (refine y_s (h := ?_)) | (refine y_t (h := ?_)) | (refine y_k (h := ?_)) | (refine lex_nil (by kernel_rfl) ?_) | (refine awp_sq ?_) | (refine awp_rg ?_) | (refine awp_rd (by kernel_rfl) (by kernel_rfl) ?_) | (refine awp_block ?_) | (refine awp_exit ?_) | (refine awp_ret ?_) | (refine awp_skip ?_))
  refine awp_loop (X := Nat) (fun j => j ≤ perD l) (fun j => [(0, .bp 0 0), (1, .t (.v (.int .i64 n))), (5, .t (.v (.int .i64 (dvD l 0 41 - 20)))), (6, .t (.v (.int .i64 (dvD l 1 5 - 2)))), (7, .t (.v (.int .i64 (perD l : Nat)))), (8, .own 22 0 j), (9, .t (.v (.int .i64 j)))])
    (fun j => [(22, .sl 2 (.il ((seaL l).take j))), (0, .box 156 [.old (BY l), .t (.v (.int .i64 ((3 + j : Nat) : Int))), .t (.v (.int .u64 (sdD l (3 + j))))])]) (fun j => perD l - j)
    0 ⟨by omega, fun i => i, ⟨rfl, rfl, rfl, rfl, rfl, rfl, rfl, trivial⟩, ⟨rfl, rfl, trivial⟩, injOn_id _⟩ (fun j hj => ?_)
  have hz : ((seaL l).take j).length = j := by simp [hsl]; omega
  have aj := dvD_rng h (3 + j) (n := 9) (by omega)
  repeat (first | (refine w_q (h := ?_)) | (refine w_s (h := ?_)) | (refine w_t (h := ?_)) | (refine w_k (h := ?_)) | (refine y_q (h := ?_)) | (refine y_s (h := ?_)) | (refine y_t (h := ?_)) | (refine y_k (h := ?_)) | (refine lex_nil (by kernel_rfl) ?_) | (refine awp_sq ?_) | (refine awp_rg ?_) | (refine awp_rd (by kernel_rfl) (by kernel_rfl) ?_) | (refine awp_block ?_) | (refine awp_exit ?_) | (refine awp_ret ?_) | (refine awp_skip ?_))
  refine awp_if rfl (fun h1 => ?_) (fun h1 => ?_)
  · simp only [icmp, decide_eq_true_eq] at h1
    repeat (first | (refine w_q (h := ?_)) | (refine w_s (h := ?_)) | (refine w_t (h := ?_)) | (refine w_k (h := ?_)) | (refine y_q (h := ?_)) | (refine y_s (h := ?_)) | (refine y_t (h := ?_)) | (refine y_k (h := ?_)) | (refine lex_nil (by kernel_rfl) ?_) | (refine awp_sq ?_) | (refine awp_rg ?_) | (refine awp_rd (by kernel_rfl) (by kernel_rfl) ?_) | (refine awp_block ?_) | (refine awp_exit ?_) | (refine awp_ret ?_) | (refine awp_skip ?_))
    (first | (refine w_rs (q_cbox (pick_d h (3 + j) 9 (by omega) (by omega)) rfl rfl rfl rfl rfl rfl rfl rfl) (hH := by first | (simp only [scrubF, scrubHL, scrub, scrubL, scrubB, cB, List.map, cblk, cids, cid, relab, sg, List.contains_cons, List.contains_nil, Nat.reduceBEq, Bool.or_false, Bool.or_true, cond_true, cond_false, List.cons_append, List.nil_append, Nat.reduceMul, Nat.reduceAdd, List.set, List.take, List.drop, List.length, List.append_nil]; rfl) | rfl) (h := ?_)) | (refine dx_s rfl rfl rfl (q_cbox (pick_d h (3 + j) 9 (by omega) (by omega)) rfl rfl rfl rfl rfl rfl rfl rfl) (by first | exact nf_f rfl | exact nf_b rfl | exact nf_i rfl | exact nf_bp rfl | exact nf_own rfl | exact nf_argo rfl | exact nf_arg rfl | exact nf_argc rfl | exact nf_fl rfl | exact nf_ofl rfl | exact nf_oref rfl | exact nf_tref rfl | exact nf_s rfl | exact nf_t rfl | exact nf_old rfl | exact nf_junk rfl | exact nf_dead rfl | (simp only [resV, resVl, scrubL, scrub, List.map, List.drop, List.take, mkT, zA, cellsA, cid, cids, relab, sg, List.getD, List.append, List.cons_append, List.nil_append, Nat.reduceMul, Nat.reduceAdd, Array.toList, T.get, cond_true, cond_false]; rfl) | rfl) (by first | (simp only [scrubF, scrubHL, scrub, scrubL, scrubB, cblk, cids, cid, relab, sg, List.contains_cons, List.contains_nil, Nat.reduceBEq, Bool.or_false, Bool.or_true, cond_true, cond_false, List.cons_append, List.nil_append, Nat.reduceMul, Nat.reduceAdd, List.set, List.take, List.drop, List.length, List.append_nil]; rfl) | rfl) (by first | (simp only [scrubF, scrubHL, scrub, scrubL, scrubB, cB, List.map, cblk, cids, cid, relab, sg, List.contains_cons, List.contains_nil, Nat.reduceBEq, Bool.or_false, Bool.or_true, cond_true, cond_false, List.cons_append, List.nil_append, Nat.reduceMul, Nat.reduceAdd, List.set, List.take, List.drop, List.length, List.append_nil]; rfl) | rfl) (by kernel_rfl) ?_))
    repeat (first | (refine w_q (h := ?_)) | (refine w_s (h := ?_)) | (refine w_t (h := ?_)) | (refine w_k (h := ?_)) | (refine y_q (h := ?_)) | (refine y_s (h := ?_)) | (refine y_t (h := ?_)) | (refine y_k (h := ?_)) | (refine lex_nil (by kernel_rfl) ?_) | (refine awp_sq ?_) | (refine awp_rg ?_) | (refine awp_rd (by kernel_rfl) (by kernel_rfl) ?_) | (refine awp_block ?_) | (refine awp_exit ?_) | (refine awp_ret ?_) | (refine awp_skip ?_))
    (first | (refine a_s (hn := by exact hz) (h := ?_)) | (refine b_s (hn := by exact hz) (h := ?_)))
    repeat (first | (refine w_q (h := ?_)) | (refine w_s (h := ?_)) | (refine w_t (h := ?_)) | (refine w_k (h := ?_)) | (refine y_q (h := ?_)) | (refine y_s (h := ?_)) | (refine y_t (h := ?_)) | (refine y_k (h := ?_)) | (refine lex_nil (by kernel_rfl) ?_) | (refine awp_sq ?_) | (refine awp_rg ?_) | (refine awp_rd (by kernel_rfl) (by kernel_rfl) ?_) | (refine awp_block ?_) | (refine awp_exit ?_) | (refine awp_ret ?_) | (refine awp_skip ?_))
    exact ⟨j + 1, by omega, by omega, fun i => i, ⟨rfl, rfl, rfl, rfl, rfl, own_eq (by simp only [T.app, T.len, List.length_append, hz]; rfl), rfl, trivial⟩, ⟨sl_eq (congrArg T.il (take_snI (by omega) (seaL_get (by omega)))), rfl, trivial⟩, injOn_id _⟩
  simp only [icmp, decide_eq_false_iff_not] at h1
  obtain rfl : j = perD l := by omega
  rw [List.take_of_length_le (by omega : (seaL l).length ≤ perD l)]
  repeat (first | (refine w_q (h := ?_)) | (refine w_s (h := ?_)) | (refine w_t (h := ?_)) | (refine w_k (h := ?_)) | (refine y_q (h := ?_)) | (refine y_s (h := ?_)) | (refine y_t (h := ?_)) | (refine y_k (h := ?_)) | (refine lex_nil (by kernel_rfl) ?_) | (refine awp_sq ?_) | (refine awp_rg ?_) | (refine awp_rd (by kernel_rfl) (by kernel_rfl) ?_) | (refine awp_block ?_) | (refine awp_exit ?_) | (refine awp_ret ?_) | (refine awp_skip ?_))
  refine awp_loop (X := Nat) (fun i => i ≤ n) (fun i => [(0, .bp 0 0), (1, .t (.v (.int .i64 n))), (5, .t (.v (.int .i64 (dvD l 0 41 - 20)))), (6, .t (.v (.int .i64 (dvD l 1 5 - 2)))), (7, .t (.v (.int .i64 (perD l : Nat)))), (8, .own 22 0 (perD l)), (10, .own 34 0 i), (11, .t (.v (.int .i64 i)))])
    (fun i => [(34, .sl 30 (.fl ((serL l n).take i))), (22, .sl 2 (.il (seaL l))), (0, .box 156 [.old (BY l), .t (.v (.int .i64 ((3 + perD l + i : Nat) : Int))), .t (.v (.int .u64 (sdD l (3 + perD l + i))))])]) (fun i => n - i)
    0 ⟨by omega, fun i => i, ⟨rfl, rfl, rfl, rfl, rfl, rfl, rfl, rfl, trivial⟩, ⟨rfl, rfl, rfl, trivial⟩, injOn_id _⟩ (fun i hi => ?_)
  have hz : ((serL l n).take i).length = i := by simp [hll]; omega
  repeat (first | (refine w_q (h := ?_)) | (refine w_s (h := ?_)) | (refine w_t (h := ?_)) | (refine w_k (h := ?_)) | (refine y_q (h := ?_)) | (refine y_s (h := ?_)) | (refine y_t (h := ?_)) | (refine y_k (h := ?_)) | (refine lex_nil (by kernel_rfl) ?_) | (refine awp_sq ?_) | (refine awp_rg ?_) | (refine awp_rd (by kernel_rfl) (by kernel_rfl) ?_) | (refine awp_block ?_) | (refine awp_exit ?_) | (refine awp_ret ?_) | (refine awp_skip ?_))
  refine awp_if rfl (fun h2 => ?_) (fun h2 => ?_)
  · simp only [icmp, decide_eq_true_eq] at h2
    have a5 := tdiv_bd (s := dvD l 1 5 - 2) (i := i) (by omega)
    have a3 := dvD_rng h (3 + i % perD l) (n := 9) (by omega)
    have a4 := dvD_rng h (3 + perD l + i) (n := 5) (by omega)
    have hm := Nat.mod_lt i (show 0 < perD l by omega)
    have hsg := seaL_get hm
    have hmod : ((i : Int) % ((perD l : Nat) : Int)) = ((i % perD l : Nat) : Int) := (Int.natCast_emod _ _).symm
    have hX := serX_bd h i (by omega)
    have hXe : dvD l 0 41 - 20 + ((dvD l 1 5 - 2) * (i : Int)).tdiv 2 + (dvD l (3 + i % perD l) 9 - 4) + dvD l (3 + perD l + i) 5 - 2 = serX l i := rfl
    repeat (first | (refine w_q (h := ?_)) | (refine w_s (h := ?_)) | (refine w_t (h := ?_)) | (refine w_k (h := ?_)) | (refine y_q (h := ?_)) | (refine y_s (h := ?_)) | (refine y_t (h := ?_)) | (refine y_k (h := ?_)) | (refine lex_nil (by kernel_rfl) ?_) | (refine awp_sq ?_) | (refine awp_rg ?_) | (refine awp_rd (by kernel_rfl) (by kernel_rfl) ?_) | (refine awp_block ?_) | (refine awp_exit ?_) | (refine awp_ret ?_) | (refine awp_skip ?_))
    (first | (refine w_r (q_mul rfl rfl rfl (by omega)) (h := ?_)) | (refine y_r (q_mul rfl rfl rfl (by omega)) (h := ?_)))
    repeat (first | (refine w_q (h := ?_)) | (refine w_s (h := ?_)) | (refine w_t (h := ?_)) | (refine w_k (h := ?_)) | (refine y_q (h := ?_)) | (refine y_s (h := ?_)) | (refine y_t (h := ?_)) | (refine y_k (h := ?_)) | (refine lex_nil (by kernel_rfl) ?_) | (refine awp_sq ?_) | (refine awp_rg ?_) | (refine awp_rd (by kernel_rfl) (by kernel_rfl) ?_) | (refine awp_block ?_) | (refine awp_exit ?_) | (refine awp_ret ?_) | (refine awp_skip ?_))
    (first | (refine w_r (q_quoS rfl rfl rfl (by omega) (by omega)) (h := ?_)) | (refine y_r (q_quoS rfl rfl rfl (by omega) (by omega)) (h := ?_)))
    repeat (first | (refine w_q (h := ?_)) | (refine w_s (h := ?_)) | (refine w_t (h := ?_)) | (refine w_k (h := ?_)) | (refine y_q (h := ?_)) | (refine y_s (h := ?_)) | (refine y_t (h := ?_)) | (refine y_k (h := ?_)) | (refine lex_nil (by kernel_rfl) ?_) | (refine awp_sq ?_) | (refine awp_rg ?_) | (refine awp_rd (by kernel_rfl) (by kernel_rfl) ?_) | (refine awp_block ?_) | (refine awp_exit ?_) | (refine awp_ret ?_) | (refine awp_skip ?_))
    (first | (refine w_r (q_rem rfl rfl rfl (by omega) (by omega)) (h := ?_)) | (refine y_r (q_rem rfl rfl rfl (by omega) (by omega)) (h := ?_)))
    rw [hmod]
    (first | (refine w_r (q_idx_own (i % perD l) tyOk rfl rfl rfl rfl rfl rfl rfl (by omega) (by first | omega | (simp only [T.len]; omega) | assumption)) (h := ?_)) | (refine y_r (q_idx_own (i % perD l) tyOk rfl rfl rfl rfl rfl rfl rfl (by omega) (by first | omega | (simp only [T.len]; omega) | assumption)) (h := ?_)))
    repeat (first | (refine w_q (h := ?_)) | (refine w_s (h := ?_)) | (refine w_t (h := ?_)) | (refine w_k (h := ?_)) | (refine y_q (h := ?_)) | (refine y_s (h := ?_)) | (refine y_t (h := ?_)) | (refine y_k (h := ?_)) | (refine lex_nil (by kernel_rfl) ?_) | (refine awp_sq ?_) | (refine awp_rg ?_) | (refine awp_rd (by kernel_rfl) (by kernel_rfl) ?_) | (refine awp_block ?_) | (refine awp_exit ?_) | (refine awp_ret ?_) | (refine awp_skip ?_))
    rw [Nat.zero_add, hsg]
    repeat (first | (refine w_q (h := ?_)) | (refine w_s (h := ?_)) | (refine w_t (h := ?_)) | (refine w_k (h := ?_)) | (refine y_q (h := ?_)) | (refine y_s (h := ?_)) | (refine y_t (h := ?_)) | (refine y_k (h := ?_)) | (refine lex_nil (by kernel_rfl) ?_) | (refine awp_sq ?_) | (refine awp_rg ?_) | (refine awp_rd (by kernel_rfl) (by kernel_rfl) ?_) | (refine awp_block ?_) | (refine awp_exit ?_) | (refine awp_ret ?_) | (refine awp_skip ?_))
    (first | (refine w_rs (q_cbox (pick_d h (3 + perD l + i) 5 (by omega) (by omega)) rfl rfl rfl rfl rfl rfl rfl rfl) (hH := by first | (simp only [scrubF, scrubHL, scrub, scrubL, scrubB, cB, List.map, cblk, cids, cid, relab, sg, List.contains_cons, List.contains_nil, Nat.reduceBEq, Bool.or_false, Bool.or_true, cond_true, cond_false, List.cons_append, List.nil_append, Nat.reduceMul, Nat.reduceAdd, List.set, List.take, List.drop, List.length, List.append_nil]; rfl) | rfl) (h := ?_)) | (refine dx_s rfl rfl rfl (q_cbox (pick_d h (3 + perD l + i) 5 (by omega) (by omega)) rfl rfl rfl rfl rfl rfl rfl rfl) (by first | exact nf_f rfl | exact nf_b rfl | exact nf_i rfl | exact nf_bp rfl | exact nf_own rfl | exact nf_argo rfl | exact nf_arg rfl | exact nf_argc rfl | exact nf_fl rfl | exact nf_ofl rfl | exact nf_oref rfl | exact nf_tref rfl | exact nf_s rfl | exact nf_t rfl | exact nf_old rfl | exact nf_junk rfl | exact nf_dead rfl | (simp only [resV, resVl, scrubL, scrub, List.map, List.drop, List.take, mkT, zA, cellsA, cid, cids, relab, sg, List.getD, List.append, List.cons_append, List.nil_append, Nat.reduceMul, Nat.reduceAdd, Array.toList, T.get, cond_true, cond_false]; rfl) | rfl) (by first | (simp only [scrubF, scrubHL, scrub, scrubL, scrubB, cblk, cids, cid, relab, sg, List.contains_cons, List.contains_nil, Nat.reduceBEq, Bool.or_false, Bool.or_true, cond_true, cond_false, List.cons_append, List.nil_append, Nat.reduceMul, Nat.reduceAdd, List.set, List.take, List.drop, List.length, List.append_nil]; rfl) | rfl) (by first | (simp only [scrubF, scrubHL, scrub, scrubL, scrubB, cB, List.map, cblk, cids, cid, relab, sg, List.contains_cons, List.contains_nil, Nat.reduceBEq, Bool.or_false, Bool.or_true, cond_true, cond_false, List.cons_append, List.nil_append, Nat.reduceMul, Nat.reduceAdd, List.set, List.take, List.drop, List.length, List.append_nil]; rfl) | rfl) (by kernel_rfl) ?_))
    repeat (first | (refine w_q (h := ?_)) | (refine w_s (h := ?_)) | (refine w_t (h := ?_)) | (refine w_k (h := ?_)) | (refine y_q (h := ?_)) | (refine y_s (h := ?_)) | (refine y_t (h := ?_)) | (refine y_k (h := ?_)) | (refine lex_nil (by kernel_rfl) ?_) | (refine awp_sq ?_) | (refine awp_rg ?_) | (refine awp_rd (by kernel_rfl) (by kernel_rfl) ?_) | (refine awp_block ?_) | (refine awp_exit ?_) | (refine awp_ret ?_) | (refine awp_skip ?_))
    rw [hXe]
    repeat (first | (refine w_q (h := ?_)) | (refine w_s (h := ?_)) | (refine w_t (h := ?_)) | (refine w_k (h := ?_)) | (refine y_q (h := ?_)) | (refine y_s (h := ?_)) | (refine y_t (h := ?_)) | (refine y_k (h := ?_)) | (refine lex_nil (by kernel_rfl) ?_) | (refine awp_sq ?_) | (refine awp_rg ?_) | (refine awp_rd (by kernel_rfl) (by kernel_rfl) ?_) | (refine awp_block ?_) | (refine awp_exit ?_) | (refine awp_ret ?_) | (refine awp_skip ?_))
    rw [half_hw hX]
    repeat (first | (refine w_q (h := ?_)) | (refine w_s (h := ?_)) | (refine w_t (h := ?_)) | (refine w_k (h := ?_)) | (refine y_q (h := ?_)) | (refine y_s (h := ?_)) | (refine y_t (h := ?_)) | (refine y_k (h := ?_)) | (refine lex_nil (by kernel_rfl) ?_) | (refine awp_sq ?_) | (refine awp_rg ?_) | (refine awp_rd (by kernel_rfl) (by kernel_rfl) ?_) | (refine awp_block ?_) | (refine awp_exit ?_) | (refine awp_ret ?_) | (refine awp_skip ?_))
    (first | (refine a_s (hn := by exact hz) (h := ?_)) | (refine b_s (hn := by exact hz) (h := ?_)))
    repeat (first | (refine w_q (h := ?_)) | (refine w_s (h := ?_)) | (refine w_t (h := ?_)) | (refine w_k (h := ?_)) | (refine y_q (h := ?_)) | (refine y_s (h := ?_)) | (refine y_t (h := ?_)) | (refine y_k (h := ?_)) | (refine lex_nil (by kernel_rfl) ?_) | (refine awp_sq ?_) | (refine awp_rg ?_) | (refine awp_rd (by kernel_rfl) (by kernel_rfl) ?_) | (refine awp_block ?_) | (refine awp_exit ?_) | (refine awp_ret ?_) | (refine awp_skip ?_))
    exact ⟨i + 1, by omega, by omega, fun i => i, ⟨rfl, rfl, rfl, rfl, rfl, rfl, own_eq (by simp only [T.app, T.len, List.length_append, hz]; rfl), rfl, trivial⟩, ⟨sl_eq (congrArg T.fl (take_snoc (by omega) (getD_mapR _ (by omega)))), rfl, rfl, trivial⟩, injOn_id _⟩
  simp only [icmp, decide_eq_false_iff_not] at h2
  obtain rfl : i = n := by omega
  rw [List.take_of_length_le (by omega : (serL l i).length ≤ i)]
  repeat (first | (refine w_q (h := ?_)) | (refine w_s (h := ?_)) | (refine w_t (h := ?_)) | (refine w_k (h := ?_)) | (refine y_q (h := ?_)) | (refine y_s (h := ?_)) | (refine y_t (h := ?_)) | (refine y_k (h := ?_)) | (refine lex_nil (by kernel_rfl) ?_) | (refine awp_sq ?_) | (refine awp_rg ?_) | (refine awp_rd (by kernel_rfl) (by kernel_rfl) ?_) | (refine awp_block ?_) | (refine awp_exit ?_) | (refine awp_ret ?_) | (refine awp_skip ?_))
  refine mret_ok tyOk (by first | exact .inr rfl | exact .inl rfl) (pi1 34) rfl (by first | exact .cons (by first | exact .tmp | exact .cell rfl rfl rfl rfl rfl rfl | exact .cell1 rfl rfl rfl rfl rfl) .nil | exact .cons (by first | exact .tmp | exact .cell rfl rfl rfl rfl rfl rfl | exact .cell1 rfl rfl rfl rfl rfl) (.cons (by first | exact .tmp | exact .cell rfl rfl rfl rfl rfl rfl | exact .cell1 rfl rfl rfl rfl rfl) .nil) | exact .cons (by first | exact .tmp | exact .cell rfl rfl rfl rfl rfl rfl | exact .cell1 rfl rfl rfl rfl rfl) (.cons (by first | exact .tmp | exact .cell rfl rfl rfl rfl rfl rfl | exact .cell1 rfl rfl rfl rfl rfl) (.cons (by first | exact .tmp | exact .cell rfl rfl rfl rfl rfl rfl | exact .cell1 rfl rfl rfl rfl rfl) .nil)) | exact .cons (by first | exact .tmp | exact .cell rfl rfl rfl rfl rfl rfl | exact .cell1 rfl rfl rfl rfl rfl) (.cons (by first | exact .tmp | exact .cell rfl rfl rfl rfl rfl rfl | exact .cell1 rfl rfl rfl rfl rfl) (.cons (by first | exact .tmp | exact .cell rfl rfl rfl rfl rfl rfl | exact .cell1 rfl rfl rfl rfl rfl) (.cons (by first | exact .tmp | exact .cell rfl rfl rfl rfl rfl rfl | exact .cell1 rfl rfl rfl rfl rfl) .nil)))) ?_ ⟨rfl, trivial⟩ (injO_1 _ _ _) trivial
  repeat' (first | exact RetRelL.nil | (refine RetRel.nil rfl ?_) | refine RetRelL.cons ?_ ?_ | refine rr_tup ?_ | refine rr_agg ?_ | refine rr_own rfl ?_ | exact RetRel.arg | exact RetRel.argc | refine rr_t ?_)
  all_goals first | rfl | omega
end Go.Proofs.Ytmnpdipiffmnhaa

