import Derived.Test.YtpdnjcblkjjegaaVT1b
import Derived.Test.YtpdnjcblkjjegaaVAwI
import Derived.Test.YtpdnjcblkjjegaaVT28
import Derived.Test.YtpdnjcblkjjegaaVT26
import Derived.Test.YtpdnjcblkjjegaaVAwC
import Derived.Test.YtpdnjcblkjjegaaVAwJ
import Derived.WalkKit
import Derived.Deep.QuietTactic
import Derived.BigQuiet
import Derived.Test.YtpdnjcblkjjegaaVAwG
set_option linter.unusedVariables false
set_option linter.unusedSimpArgs false
set_option maxRecDepth 20000
namespace Go.Proofs.Ytpdnjcblkjjegaa
open Go.Aw
section
variable {N : Nat} {ops : Array Oper} {K : Fr → Hp → Prop} {o : Oper} {l : List Oper} {α α' : List (Nat × AV)} {H H' ch : List (Nat × Blk)} {v v' : AV} {d : Nat} {S : List Nat} {pre : List (List Nat × List Nat)}
theorem x_q (h : LexD Try.prog N ops false K [] l (lkF ((d, v') :: α)) (lkH H)) (hg : guardA ops (lkF α) o = some true := by exact rfl) (hd : o.dst = some d := by exact rfl) (hN : Nat.blt d N = true := by exact rfl)
    (hq : QRun Try.prog o (opF o (lkF α) (lkH H)) [] (lkF α) (lkH H) v (lkH []) := by first | exact q_bne_same tyOk rfl rfl rfl rfl rfl | exact q_icmpK false rfl rfl rfl rfl (by (simp only [icmp]; first | (simp; done) | (simp; omega) | (apply decide_eq_false; omega))) | first | exact q_move _ (.inl rfl) | exact q_move _ (.inr rfl) | exact q_load_box tyOk rfl rfl rfl rfl rfl rfl rfl rfl | exact q_fld_bp tyOk rfl rfl rfl rfl rfl rfl | exact q_load_ref tyOk rfl rfl rfl rfl rfl | exact q_fld_ref tyOk rfl rfl rfl rfl rfl rfl | exact q_pick_t rfl rfl | exact q_pick_f rfl rfl | exact q_not rfl rfl | exact q_extract rfl rfl rfl | exact q_fcmp rfl rfl rfl rfl | exact q_farith rfl (by simp) rfl rfl | exact q_icmp rfl rfl rfl rfl | exact q_load_boxs tyOk rfl rfl rfl rfl rfl rfl rfl rfl | exact q_load_refs tyOk rfl rfl rfl rfl rfl rfl | exact q_beq tyOk rfl rfl rfl rfl rfl | exact q_bne tyOk rfl rfl rfl rfl rfl | exact q_nilchk_bp rfl rfl | exact q_nilchk_ref rfl rfl | exact q_len_fl tyOk rfl rfl rfl rfl | exact q_len_own tyOk rfl rfl rfl rfl | exact q_len_il tyOk rfl rfl rfl rfl | exact q_len_bl tyOk rfl rfl rfl rfl | exact q_len_ffl tyOk rfl rfl rfl rfl | exact q_cv_if tyOk rfl rfl rfl rfl rfl | exact q_add rfl rfl rfl (by omega) | exact q_sub rfl rfl rfl (by omega) | exact q_idx_tree _ tyOk rfl rfl rfl rfl rfl rfl rfl rfl (by first | rfl | exact (Int.natCast_add _ _).symm | omega) (by first | omega | (simp only [T.len]; omega) | assumption) | exact q_idx_own _ tyOk rfl rfl rfl rfl rfl rfl rfl (by first | rfl | exact (Int.natCast_add _ _).symm | omega) (by first | omega | (simp only [T.len]; omega) | assumption) | exact q_load_el tyOk rfl rfl rfl rfl rfl rfl rfl (by first | omega | (simp only [T.len]; omega) | assumption) | exact q_fneg rfl rfl | exact q_fmax rfl rfl rfl | exact q_imax rfl rfl rfl | exact q_imin rfl rfl rfl | exact q_fn rfl | exact q_cv_ff tyOk rfl rfl rfl rfl rfl (by decide) rfl (fconv_any _) | exact q_cv_same tyOk rfl rfl rfl rfl rfl rfl) (hv : v = v' := by first | exact nf_f rfl | exact nf_b rfl | exact nf_i rfl | exact nf_bp rfl | exact nf_own rfl | exact nf_argo rfl | exact nf_arg rfl | exact nf_argc rfl | exact nf_fl rfl | exact nf_ofl rfl | exact nf_oref rfl | exact nf_tref rfl | exact nf_s rfl | exact nf_t rfl | exact nf_old rfl | exact nf_junk rfl | exact nf_dead rfl | exact nf_tup rfl | (simp only [resV, resVl, scrubL, scrub, List.map, List.drop, List.take, mkT, zA, cellsA, cid, cids, relab, sg, List.getD, List.append, List.cons_append, List.nil_append, Nat.reduceMul, Nat.reduceAdd, Array.toList, T.get, cond_true, cond_false]; rfl) | rfl) : LexD Try.prog N ops false K [] (o :: l) (lkF α) (lkH H) := px_q hg hd hN hq hv h
theorem xd_q (h : LexD Try.prog N ops true K ((opF o (lkF α) (lkH H), []) :: pre) l (lkF ((d, v') :: α)) (lkH H)) (hg : guardA ops (lkF α) o = some true := by exact rfl) (hd : o.dst = some d := by exact rfl) (hN : Nat.blt d N = true := by exact rfl)
    (hq : QRun Try.prog o (opF o (lkF α) (lkH H)) [] (lkF α) (lkH H) v (lkH []) := by first | exact q_bne_same tyOk rfl rfl rfl rfl rfl | exact q_icmpK false rfl rfl rfl rfl (by (simp only [icmp]; first | (simp; done) | (simp; omega) | (apply decide_eq_false; omega))) | first | exact q_move _ (.inl rfl) | exact q_move _ (.inr rfl) | exact q_load_box tyOk rfl rfl rfl rfl rfl rfl rfl rfl | exact q_fld_bp tyOk rfl rfl rfl rfl rfl rfl | exact q_load_ref tyOk rfl rfl rfl rfl rfl | exact q_fld_ref tyOk rfl rfl rfl rfl rfl rfl | exact q_pick_t rfl rfl | exact q_pick_f rfl rfl | exact q_not rfl rfl | exact q_extract rfl rfl rfl | exact q_fcmp rfl rfl rfl rfl | exact q_farith rfl (by simp) rfl rfl | exact q_icmp rfl rfl rfl rfl | exact q_load_boxs tyOk rfl rfl rfl rfl rfl rfl rfl rfl | exact q_load_refs tyOk rfl rfl rfl rfl rfl rfl | exact q_beq tyOk rfl rfl rfl rfl rfl | exact q_bne tyOk rfl rfl rfl rfl rfl | exact q_nilchk_bp rfl rfl | exact q_nilchk_ref rfl rfl | exact q_len_fl tyOk rfl rfl rfl rfl | exact q_len_own tyOk rfl rfl rfl rfl | exact q_len_il tyOk rfl rfl rfl rfl | exact q_len_bl tyOk rfl rfl rfl rfl | exact q_len_ffl tyOk rfl rfl rfl rfl | exact q_cv_if tyOk rfl rfl rfl rfl rfl | exact q_add rfl rfl rfl (by omega) | exact q_sub rfl rfl rfl (by omega) | exact q_idx_tree _ tyOk rfl rfl rfl rfl rfl rfl rfl rfl (by first | rfl | exact (Int.natCast_add _ _).symm | omega) (by first | omega | (simp only [T.len]; omega) | assumption) | exact q_idx_own _ tyOk rfl rfl rfl rfl rfl rfl rfl (by first | rfl | exact (Int.natCast_add _ _).symm | omega) (by first | omega | (simp only [T.len]; omega) | assumption) | exact q_load_el tyOk rfl rfl rfl rfl rfl rfl rfl (by first | omega | (simp only [T.len]; omega) | assumption) | exact q_fneg rfl rfl | exact q_fmax rfl rfl rfl | exact q_imax rfl rfl rfl | exact q_imin rfl rfl rfl | exact q_fn rfl | exact q_cv_ff tyOk rfl rfl rfl rfl rfl (by decide) rfl (fconv_any _) | exact q_cv_same tyOk rfl rfl rfl rfl rfl rfl) (hv : v = v' := by first | exact nf_f rfl | exact nf_b rfl | exact nf_i rfl | exact nf_bp rfl | exact nf_own rfl | exact nf_argo rfl | exact nf_arg rfl | exact nf_argc rfl | exact nf_fl rfl | exact nf_ofl rfl | exact nf_oref rfl | exact nf_tref rfl | exact nf_s rfl | exact nf_t rfl | exact nf_old rfl | exact nf_junk rfl | exact nf_dead rfl | exact nf_tup rfl | (simp only [resV, resVl, scrubL, scrub, List.map, List.drop, List.take, mkT, zA, cellsA, cid, cids, relab, sg, List.getD, List.append, List.cons_append, List.nil_append, Nat.reduceMul, Nat.reduceAdd, Array.toList, T.get, cond_true, cond_false]; rfl) | rfl) (hf : footB (opF o (lkF α) (lkH H)) [] [] (o.op.operands.toList.map (evA (lkF α))) (lkH H) v' [] = true := by kernel_rfl)
    : LexD Try.prog N ops true K pre (o :: l) (lkF α) (lkH H) := dx_q hg hd hN hq hv hf h
end
theorem V4 {A B : Prop} (h : B) (s : Hid B → A := by intro u9; (repeat (first | refine x_q ?_ | refine xd_q ?_ | refine w_q ?_ | refine w_s ?_ | refine w_t ?_ | refine w_k ?_ | refine y_q ?_ | refine y_s ?_ | refine y_t ?_ | refine y_k ?_ | refine u_n ?_ | refine u_q ?_ | refine u_g ?_ | refine u_d ?_ | refine u_b ?_ | refine u_x ?_ | refine u_r ?_ | refine u_s ?_)); exact u9.out) : A := s ⟨h⟩
end Go.Proofs.Ytpdnjcblkjjegaa

set_option linter.unusedVariables false
set_option linter.unusedSimpArgs false
set_option maxRecDepth 20000
set_option maxHeartbeats 8000000
namespace Go.Proofs.Ytpdnjcblkjjegaa
open Go.Aw

/-! ### series of bounded numbers: forecasts, misses, means -/
def SerB (a : List Nat) : Prop := (1 ≤ a.length ∧ a.length ≤ 96) ∧ ∀ i, i < a.length → Bd (a.getD i 0) 64
theorem SerB.ser {a : List Nat} (h : SerB a) : isSer a = true := by
  unfold isSer
  simp only [Bool.and_eq_true, decide_eq_true_eq]
  refine ⟨h.1, List.all_eq_true.2 fun c hc => ?_⟩
  obtain ⟨i, hi, rfl⟩ := List.getElem_of_mem hc
  have := (h.2 i hi).fin
  rw [List.getD_eq_getElem?_getD, List.getElem?_eq_getElem hi] at this
  exact this
theorem getD_take {a : List Nat} {n i : Nat} (h : i < n) : (a.take n).getD i 0 = a.getD i 0 := by
  simp [List.getD_eq_getElem?_getD, List.getElem?_take, h]
theorem SerB.take {a : List Nat} (h : SerB a) {n : Nat} (h1 : 1 ≤ n) (h2 : n ≤ a.length) : SerB (a.take n) ∧ (a.take n).length = n := by
  have hl : (a.take n).length = n := by simp; omega
  refine ⟨⟨by rw [hl]; have := h.1; omega, fun i hi => ?_⟩, hl⟩
  rw [hl] at hi
  rw [getD_take hi]
  exact h.2 i (by omega)
theorem c03 : Fnt .f32 1050253722 ∧ rv .f32 1050253722 ≤ 3 / 10 + 1 / 1000000 ∧ 3 / 10 - 1 / 1000000 ≤ rv .f32 1050253722 := by unfold Fnt; decide +kernel
end Go.Proofs.Ytpdnjcblkjjegaa

set_option linter.unusedVariables false
set_option linter.unusedSimpArgs false
set_option maxRecDepth 20000
set_option maxHeartbeats 8000000
namespace Go.Proofs.Ytpdnjcblkjjegaa
open Go.Aw
attribute [local irreducible] QRun LexD AWp TCall TMut fop fint fcmp fconv

/-! ### bytes, and what a law reads out of them -/
abbrev bT (x : Nat) : T := .v (.int .u8 (x : Int))
abbrev BY (l : List Nat) : T := .tl (l.map bT)
theorem by_len (l : List Nat) : (l.map bT).length = l.length := by simp
theorem by_get {l : List Nat} {i : Nat} (h : i < l.length) : T.get i (BY l) = bT (l.getD i 0) := by
  simp [T.get, List.getD_eq_getElem?_getD, h]
end Go.Proofs.Ytpdnjcblkjjegaa

set_option linter.unusedVariables false
set_option linter.unusedSimpArgs false
set_option maxRecDepth 100000
set_option maxHeartbeats 8000000
namespace Go.Proofs.Ytpdnjcblkjjegaa
open Go.Aw Go.RowKit

/-! ### draws -/
theorem two_set {w : World} {b : Nat} {y0 x1 x2 v1 v2 : Value} {e : TypeId} {a c : Nat} (hw : w.heap[b]? = some (.cells #[y0, x1, x2] e (0, 0))) : ∀ w', w' = ((((w.drewN a).setCell ⟨b, 1, none⟩ v1).setCell ⟨b, 2, none⟩ v2).drewN c) → w'.os = w.os ∧ w'.tape = w.tape ∧ w'.output = w.output ∧ w'.heap.size = w.heap.size ∧
    (∀ k, k ≠ b → w'.heap[k]? = w.heap[k]?) ∧ w'.heap[b]? = some (.cells #[y0, v1, v2] e (0, 0)) := by
  rintro w' rfl
  have e1 := setCell_block (w := w.drewN a) (i := 1) hw v1
  have e2 := setCell_block (i := 2) e1 v2
  refine ⟨rfl, rfl, rfl, ?_, fun k hk => ?_, ?_⟩
  · simp [World.setCell, World.drewN]
  · exact (setCell_other hk _).trans (setCell_other hk _)
  · exact e2
theorem next_in (n at_ x : Nat) (seed : Int) (hn : n ≤ 9223372036854775807) (hx : x < 256) (hlt : at_ < n) (w : World) (b : Nat) (y0 : Value) (e : TypeId) (bc oc cap : Nat) (hc : n ≤ cap)
    (hw : w.heap[b]? = some (.cells #[.slice (some ⟨bc, oc, none⟩) n cap, .int .i64 at_, .int .u64 seed] e (0, 0))) (hcell : w.cell? ⟨bc, oc + at_, none⟩ = some (.int .u8 x)) :
    Calls Try.prog 111 #[.pointer (some ⟨b, 0, none⟩)] w fun ex w' => ex = .returned (.int .i64 x) ∧ w'.os = w.os ∧ w'.tape = w.tape ∧ w'.output = w.output ∧ w'.heap.size = w.heap.size ∧
      (∀ k, k ≠ b → w'.heap[k]? = w.heap[k]?) ∧ w'.heap[b]? = some (.cells #[.slice (some ⟨bc, oc, none⟩) n cap, .int .i64 (at_ + 1 : Nat), .int .u64 (IntKind.u64.wrap (IntKind.u64.wrap (IntKind.u64.wrap (seed * 6364136223846793005) + x) + 1442695040888963407))] e (0, 0)) := by
  have h0 : w.cell? ⟨b, 0, none⟩ = some (.slice (some ⟨bc, oc, none⟩) n cap) := by simp [World.cell?, hw]
  have h1 : w.cell? ⟨b, 1, none⟩ = some (.int .i64 at_) := by simp [World.cell?, hw]
  have h2 : w.cell? ⟨b, 2, none⟩ = some (.int .u64 seed) := by simp [World.cell?, hw]
  have hf1 : w.frozen? ⟨b, 1, none⟩ = false := by simp [World.frozen?, hw]
  have hf2 : w.frozen? ⟨b, 2, none⟩ = false := by simp [World.frozen?, hw]
  have hd : decide ((at_ : Int) < (n : Int)) = true := decide_eq_true (by omega)
  have hi0 : (0 : Int) ≤ (at_ : Int) := by omega
  have hi1 : (at_ : Int) < (n : Int) := by omega
  have hi2 : ((at_ : Int)).toNat = at_ := by omega
  have hx1 : wrap64 (x : Int) = (x : Int) := by unfold wrap64; omega
  refine calls_of_wp Try.func111 rfl ?_
  simp only [Try.ntmps111, List.size_toArray, List.length_cons, List.length_nil, Nat.reduceAdd, Nat.reduceSub, Array.replicate_succ, Array.replicate_zero, List.push_toArray, List.append_toArray, List.nil_append, List.cons_append]
  go_wp2
  go_quiet (fail)
  go_wp2
  go_quiet (fail)
  go_wp2
  go_quiet (fail)
  go_wp2
  go_ret
  exact ⟨rfl, two_set hw _ rfl⟩
def nxO (seed : Int) : Int := wrap64 (Go.bits BinOp.and IntKind.u64 (IntKind.u64.wrap (IntKind.u64.wrap (IntKind.u64.wrap (seed * 6364136223846793005)) + 1442695040888963407) / 1099511627776) 255)
theorem next_out (n at_ : Nat) (seed : Int) (hn : n ≤ 9223372036854775807) (hat : at_ < 9223372036854775807) (hlt : n ≤ at_) (w : World) (b : Nat) (e : TypeId) (ad : Option Addr) (cap : Nat)
    (hw : w.heap[b]? = some (.cells #[.slice ad n cap, .int .i64 at_, .int .u64 seed] e (0, 0))) :
    Calls Try.prog 111 #[.pointer (some ⟨b, 0, none⟩)] w fun ex w' => ex = .returned (.int .i64 (nxO seed)) ∧ w'.os = w.os ∧ w'.tape = w.tape ∧ w'.output = w.output ∧ w'.heap.size = w.heap.size ∧
      (∀ k, k ≠ b → w'.heap[k]? = w.heap[k]?) ∧ w'.heap[b]? = some (.cells #[.slice ad n cap, .int .i64 (at_ + 1 : Nat), .int .u64 (IntKind.u64.wrap (IntKind.u64.wrap (IntKind.u64.wrap (seed * 6364136223846793005)) + 1442695040888963407))] e (0, 0)) := by
  have h0 : w.cell? ⟨b, 0, none⟩ = some (.slice ad n cap) := by simp [World.cell?, hw]
  have h1 : w.cell? ⟨b, 1, none⟩ = some (.int .i64 at_) := by simp [World.cell?, hw]
  have h2 : w.cell? ⟨b, 2, none⟩ = some (.int .u64 seed) := by simp [World.cell?, hw]
  have hf1 : w.frozen? ⟨b, 1, none⟩ = false := by simp [World.frozen?, hw]
  have hf2 : w.frozen? ⟨b, 2, none⟩ = false := by simp [World.frozen?, hw]
  have hd : decide ((at_ : Int) < (n : Int)) = false := decide_eq_false (by omega)
  have hi0 : (0 : Int) ≤ (at_ : Int) := by omega
  have hi1 : ¬ (at_ : Int) < (n : Int) := by omega
  have hi3 : ¬ (at_ : Int) + 1 ≤ (n : Int) := by omega
  have hi2 : ((at_ : Int)).toNat = at_ := by omega
  refine calls_of_wp Try.func111 rfl ?_
  simp only [Try.ntmps111, List.size_toArray, List.length_cons, List.length_nil, Nat.reduceAdd, Nat.reduceSub, Array.replicate_succ, Array.replicate_zero, List.push_toArray, List.append_toArray, List.nil_append, List.cons_append]
  go_wp2
  go_quiet (fail)
  go_wp2
  go_quiet (fail)
  go_wp2
  go_ret
  exact ⟨rfl, two_set hw _ rfl⟩
def nxV (l : List Nat) (at_ : Nat) (seed : Int) : Int := if at_ < l.length then ((l.getD at_ 0 : Nat) : Int) else nxO seed
def nxS (l : List Nat) (at_ : Nat) (seed : Int) : Int := if at_ < l.length then IntKind.u64.wrap (IntKind.u64.wrap (IntKind.u64.wrap (seed * 6364136223846793005) + ((l.getD at_ 0 : Nat) : Int)) + 1442695040888963407) else IntKind.u64.wrap (IntKind.u64.wrap (IntKind.u64.wrap (seed * 6364136223846793005)) + 1442695040888963407)
theorem next_b (l : List Nat) (at_ : Nat) (seed : Int) (hl : l.length ≤ 9223372036854775807) (bl : ∀ i, i < l.length → l.getD i 0 < 256) (hat : at_ < 9223372036854775807) :
    PBox Try.prog 111 [] (.int .i64 (nxV l at_ seed)) (BY l) [.int .i64 at_, .int .u64 seed] [.int .i64 (at_ + 1 : Nat), .int .u64 (nxS l at_ seed)] := by
  refine ⟨⟨_, Try.func111, rfl, by kernel_rfl⟩, fun w b y0 e hw ht => ?_⟩
  obtain ⟨a, n, c, rfl, hn, hc, h⟩ := (TR_sl w _ (BY l) rfl y0).1 ht
  have hn' : n = l.length := by rw [hn]; exact by_len l
  subst hn'
  by_cases hlt : at_ < l.length
  · rcases h with h | ⟨bc, oc, rfl, hb, hok, hT⟩
    · omega
    · obtain ⟨x, hx, hr⟩ := (TRs_iff ..).1 hT at_ (bT (l.getD at_ 0)) (by simp [T.elems, List.getD_eq_getElem?_getD, hlt])
      rw [TR] at hr
      subst hr
      have := next_in l.length at_ (l.getD at_ 0) seed hl (bl _ hlt) hlt w b (.int .i64 0) e bc oc c hc hw hx
      unfold nxV nxS
      rw [if_pos hlt, if_pos hlt]
      exact this
  · have := next_out l.length at_ seed hl hat (by omega) w b e a c hw
    unfold nxV nxS
    rw [if_neg hlt, if_neg hlt]
    exact this
end Go.Proofs.Ytpdnjcblkjjegaa

set_option linter.unusedVariables false
set_option linter.unusedSimpArgs false
set_option maxRecDepth 100000
set_option maxHeartbeats 8000000
namespace Go.Proofs.Ytpdnjcblkjjegaa
open Go.Aw Go.RowKit

theorem pick_b (l : List Nat) (at_ : Nat) (seed n : Int) (hl : l.length ≤ 9223372036854775807) (bl : ∀ i, i < l.length → l.getD i 0 < 256) (hat : at_ < 9223372036854775807) (hn : 1 < n ∧ n ≤ 200) :
    PBox Try.prog 76 [.int .i64 n] (.int .i64 ((nxV l at_ seed).tmod n)) (BY l) [.int .i64 at_, .int .u64 seed] [.int .i64 (at_ + 1 : Nat), .int .u64 (nxS l at_ seed)] := by
  refine ⟨⟨_, Try.func76, rfl, by kernel_rfl⟩, fun w b y0 e hw ht => ?_⟩
  have h1 : ¬ n ≤ 1 := by omega
  have h2 : ¬ 200 < n := by omega
  have h3 : n ≠ 0 := by omega
  refine calls_of_wp Try.func76 rfl ?_
  simp only [Try.ntmps76, List.size_toArray, List.length_cons, List.length_nil, Nat.reduceAdd, Nat.reduceSub, Array.replicate_succ, Array.replicate_zero, List.push_toArray, List.append_toArray, List.nil_append, List.cons_append]
  go_wp2_with (fail)
  trace_state
  go_at_call 111
  refine ((next_b l at_ seed hl bl hat).2 w b y0 e hw ht).mono ?_
  rintro ex w' ⟨rfl, g1, g2, g3, g4, g5, g6⟩
  go_wp2
  trace_state
  go_ret
  exact ⟨rfl, g1, g2, g3, g4, g5, g6⟩
end Go.Proofs.Ytpdnjcblkjjegaa

set_option linter.unusedVariables false
set_option linter.unusedSimpArgs false
set_option maxRecDepth 100000
set_option maxHeartbeats 8000000
namespace Go.Proofs.Ytpdnjcblkjjegaa
open Go.Aw Go.RowKit

/-! ### the draws as plain functions -/
theorem and255 (x : Int) : 0 ≤ Go.bits BinOp.and IntKind.u64 x 255 ∧ Go.bits BinOp.and IntKind.u64 x 255 < 256 := by
  unfold Go.bits
  have h : (BitVec.ofInt IntKind.u64.bits x &&& BitVec.ofInt IntKind.u64.bits 255).toNat ≤ 255 := by
    rw [BitVec.toNat_and]
    have : (BitVec.ofInt IntKind.u64.bits 255).toNat = 255 := by decide
    rw [this]; exact Nat.and_le_right
  have key : ∀ m : Nat, m ≤ 255 → 0 ≤ IntKind.wrap .u64 (m : Int) ∧ IntKind.wrap .u64 (m : Int) < 256 := fun m hm => by
    unfold IntKind.wrap
    simp only [IntKind.signed, IntKind.bits, Bool.false_and, Bool.false_eq_true, if_false]
    omega
  exact key _ h
theorem nxO_rng (seed : Int) : 0 ≤ nxO seed ∧ nxO seed < 256 := by
  unfold nxO
  have := and255 (IntKind.u64.wrap (IntKind.u64.wrap (IntKind.u64.wrap (seed * 6364136223846793005)) + 1442695040888963407) / 1099511627776)
  generalize Go.bits BinOp.and IntKind.u64 (IntKind.u64.wrap (IntKind.u64.wrap (IntKind.u64.wrap (seed * 6364136223846793005)) + 1442695040888963407) / 1099511627776) 255 = v at *
  unfold wrap64; omega
def Byt (l : List Nat) : Prop := l.length ≤ 1048576 ∧ ∀ i, i < l.length → l.getD i 0 < 256
theorem nxV_rng {l : List Nat} (h : Byt l) (k : Nat) (seed : Int) : 0 ≤ nxV l k seed ∧ nxV l k seed < 256 := by
  unfold nxV
  split
  · have := h.2 k (by assumption); omega
  · exact nxO_rng seed
def sdD (l : List Nat) : Nat → Int
  | 0 => 0
  | k + 1 => nxS l k (sdD l k)
/-- the k-th draw, below n -/
def dvD (l : List Nat) (k : Nat) (n : Int) : Int := (nxV l k (sdD l k)).tmod n
theorem dvD_rng {l : List Nat} (h : Byt l) (k : Nat) {n : Int} (hn : 1 ≤ n) : 0 ≤ dvD l k n ∧ dvD l k n < n := by
  have h1 := nxV_rng h k (sdD l k)
  unfold dvD
  rw [Int.tmod_eq_emod_of_nonneg h1.1]
  exact ⟨Int.emod_nonneg _ (by omega), Int.emod_lt_of_pos _ (by omega)⟩
abbrev bxD (l : List Nat) (k : Nat) : List Value := [.int .i64 (k : Nat), .int .u64 (sdD l k)]
theorem pick_d {l : List Nat} (h : Byt l) (k : Nat) (n : Int) (hk : k ≤ 4000000) (hn : 1 < n ∧ n ≤ 200) : PBox Try.prog 76 [.int .i64 n] (.int .i64 (dvD l k n)) (BY l) (bxD l k) (bxD l (k + 1)) :=
  pick_b l k (sdD l k) n (by have := h.1; omega) h.2 (by omega) hn
theorem from_n : PNew Try.prog 30 89 [.int .i64 0, .int .u64 0] := by
  refine ⟨⟨_, Try.func30, rfl, by kernel_rfl⟩, fun w ad n c => ?_⟩
  refine calls_of_wp Try.func30 rfl ?_
  simp only [Try.ntmps30, List.size_toArray, List.length_cons, List.length_nil, Nat.reduceAdd, Nat.reduceSub, Array.replicate_succ, Array.replicate_zero, List.push_toArray, List.append_toArray, List.nil_append, List.cons_append]
  go_wp2
  go_ret
  exact ⟨w.heap.size, rfl, Nat.le_refl _, (Below.refl _ _).alloc (Nat.le_refl _) _, heap_alloc_new w _⟩
attribute [local irreducible] QRun LexD AWp TCall TMut fop fint fcmp fconv hw dvD sdD

/-! ### series of halves -/
end Go.Proofs.Ytpdnjcblkjjegaa

