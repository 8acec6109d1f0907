import Derived.Test.YtmnpdipiffmnhaaYT97
import Derived.Test.YtmnpdipiffmnhaaZAwI
import Derived.WalkKit
import Derived.Deep.QuietTactic
import Derived.BigQuiet
set_option linter.unusedVariables false
set_option linter.unusedSimpArgs false
set_option maxRecDepth 100000
set_option maxHeartbeats 8000000
namespace Go.Proofs.Ytmnpdipiffmnhaa
open Go.Aw Go.RowKit

/-! ### draws -/
theorem two_set {w : World} {b : Nat} {y0 x1 x2 v1 v2 : Value} {e : TypeId} {a c : Nat} (hw : w.heap[b]? = some (.cells #[y0, x1, x2] e (0, 0))) : ∀ w', w' = ((((w.drewN a).setCell ⟨b, 1, none⟩ v1).setCell ⟨b, 2, none⟩ v2).drewN c) → w'.os = w.os ∧ w'.tape = w.tape ∧ w'.output = w.output ∧ w'.heap.size = w.heap.size ∧
    (∀ k, k ≠ b → w'.heap[k]? = w.heap[k]?) ∧ w'.heap[b]? = some (.cells #[y0, v1, v2] e (0, 0)) := by
  rintro w' rfl
  have e1 := setCell_block (w := w.drewN a) (i := 1) hw v1
  have e2 := setCell_block (i := 2) e1 v2
  refine ⟨rfl, rfl, rfl, ?_, fun k hk => ?_, ?_⟩
  · simp [World.setCell, World.drewN]
  · exact (setCell_other hk _).trans (setCell_other hk _)
  · exact e2
theorem next_in (n at_ x : Nat) (seed : Int) (hn : n ≤ 9223372036854775807) (hx : x < 256) (hlt : at_ < n) (w : World) (b : Nat) (y0 : Value) (e : TypeId) (bc oc cap : Nat) (hc : n ≤ cap)
    (hw : w.heap[b]? = some (.cells #[.slice (some ⟨bc, oc, none⟩) n cap, .int .i64 at_, .int .u64 seed] e (0, 0))) (hcell : w.cell? ⟨bc, oc + at_, none⟩ = some (.int .u8 x)) :
    Calls Try.prog 173 #[.pointer (some ⟨b, 0, none⟩)] w fun ex w' => ex = .returned (.int .i64 x) ∧ w'.os = w.os ∧ w'.tape = w.tape ∧ w'.output = w.output ∧ w'.heap.size = w.heap.size ∧
      (∀ k, k ≠ b → w'.heap[k]? = w.heap[k]?) ∧ w'.heap[b]? = some (.cells #[.slice (some ⟨bc, oc, none⟩) n cap, .int .i64 (at_ + 1 : Nat), .int .u64 (IntKind.u64.wrap (IntKind.u64.wrap (IntKind.u64.wrap (seed * 6364136223846793005) + x) + 1442695040888963407))] e (0, 0)) := by
  have h0 : w.cell? ⟨b, 0, none⟩ = some (.slice (some ⟨bc, oc, none⟩) n cap) := by simp [World.cell?, hw]
  have h1 : w.cell? ⟨b, 1, none⟩ = some (.int .i64 at_) := by simp [World.cell?, hw]
  have h2 : w.cell? ⟨b, 2, none⟩ = some (.int .u64 seed) := by simp [World.cell?, hw]
  have hf1 : w.frozen? ⟨b, 1, none⟩ = false := by simp [World.frozen?, hw]
  have hf2 : w.frozen? ⟨b, 2, none⟩ = false := by simp [World.frozen?, hw]
  have hd : decide ((at_ : Int) < (n : Int)) = true := decide_eq_true (by omega)
  have hi0 : (0 : Int) ≤ (at_ : Int) := by omega
  have hi1 : (at_ : Int) < (n : Int) := by omega
  have hi2 : ((at_ : Int)).toNat = at_ := by omega
  have hx1 : wrap64 (x : Int) = (x : Int) := by unfold wrap64; omega
  refine calls_of_wp Try.func173 rfl ?_
  simp only [Try.ntmps173, List.size_toArray, List.length_cons, List.length_nil, Nat.reduceAdd, Nat.reduceSub, Array.replicate_succ, Array.replicate_zero, List.push_toArray, List.append_toArray, List.nil_append, List.cons_append]
  go_wp2
  go_quiet (fail)
  go_wp2
  go_quiet (fail)
  go_wp2
  go_quiet (fail)
  go_wp2
  go_ret
  exact ⟨rfl, two_set hw _ rfl⟩
def nxO (seed : Int) : Int := wrap64 (Go.bits BinOp.and IntKind.u64 (IntKind.u64.wrap (IntKind.u64.wrap (IntKind.u64.wrap (seed * 6364136223846793005)) + 1442695040888963407) / 1099511627776) 255)
theorem next_out (n at_ : Nat) (seed : Int) (hn : n ≤ 9223372036854775807) (hat : at_ < 9223372036854775807) (hlt : n ≤ at_) (w : World) (b : Nat) (e : TypeId) (ad : Option Addr) (cap : Nat)
    (hw : w.heap[b]? = some (.cells #[.slice ad n cap, .int .i64 at_, .int .u64 seed] e (0, 0))) :
    Calls Try.prog 173 #[.pointer (some ⟨b, 0, none⟩)] w fun ex w' => ex = .returned (.int .i64 (nxO seed)) ∧ w'.os = w.os ∧ w'.tape = w.tape ∧ w'.output = w.output ∧ w'.heap.size = w.heap.size ∧
      (∀ k, k ≠ b → w'.heap[k]? = w.heap[k]?) ∧ w'.heap[b]? = some (.cells #[.slice ad n cap, .int .i64 (at_ + 1 : Nat), .int .u64 (IntKind.u64.wrap (IntKind.u64.wrap (IntKind.u64.wrap (seed * 6364136223846793005)) + 1442695040888963407))] e (0, 0)) := by
  have h0 : w.cell? ⟨b, 0, none⟩ = some (.slice ad n cap) := by simp [World.cell?, hw]
  have h1 : w.cell? ⟨b, 1, none⟩ = some (.int .i64 at_) := by simp [World.cell?, hw]
  have h2 : w.cell? ⟨b, 2, none⟩ = some (.int .u64 seed) := by simp [World.cell?, hw]
  have hf1 : w.frozen? ⟨b, 1, none⟩ = false := by simp [World.frozen?, hw]
  have hf2 : w.frozen? ⟨b, 2, none⟩ = false := by simp [World.frozen?, hw]
  have hd : decide ((at_ : Int) < (n : Int)) = false := decide_eq_false (by omega)
  have hi0 : (0 : Int) ≤ (at_ : Int) := by omega
  have hi1 : ¬ (at_ : Int) < (n : Int) := by omega
  have hi3 : ¬ (at_ : Int) + 1 ≤ (n : Int) := by omega
  have hi2 : ((at_ : Int)).toNat = at_ := by omega
  refine calls_of_wp Try.func173 rfl ?_
  simp only [Try.ntmps173, List.size_toArray, List.length_cons, List.length_nil, Nat.reduceAdd, Nat.reduceSub, Array.replicate_succ, Array.replicate_zero, List.push_toArray, List.append_toArray, List.nil_append, List.cons_append]
  go_wp2
  go_quiet (fail)
  go_wp2
  go_quiet (fail)
  go_wp2
  go_ret
  exact ⟨rfl, two_set hw _ rfl⟩
def nxV (l : List Nat) (at_ : Nat) (seed : Int) : Int := if at_ < l.length then ((l.getD at_ 0 : Nat) : Int) else nxO seed
def nxS (l : List Nat) (at_ : Nat) (seed : Int) : Int := if at_ < l.length then IntKind.u64.wrap (IntKind.u64.wrap (IntKind.u64.wrap (seed * 6364136223846793005) + ((l.getD at_ 0 : Nat) : Int)) + 1442695040888963407) else IntKind.u64.wrap (IntKind.u64.wrap (IntKind.u64.wrap (seed * 6364136223846793005)) + 1442695040888963407)
theorem next_b (l : List Nat) (at_ : Nat) (seed : Int) (hl : l.length ≤ 9223372036854775807) (bl : ∀ i, i < l.length → l.getD i 0 < 256) (hat : at_ < 9223372036854775807) :
    PBox Try.prog 173 [] (.int .i64 (nxV l at_ seed)) (BY l) [.int .i64 at_, .int .u64 seed] [.int .i64 (at_ + 1 : Nat), .int .u64 (nxS l at_ seed)] := by
  refine ⟨⟨_, Try.func173, rfl, by kernel_rfl⟩, fun w b y0 e hw ht => ?_⟩
  obtain ⟨a, n, c, rfl, hn, hc, h⟩ := (TR_sl w _ (BY l) rfl y0).1 ht
  have hn' : n = l.length := by rw [hn]; exact by_len l
  subst hn'
  by_cases hlt : at_ < l.length
  · rcases h with h | ⟨bc, oc, rfl, hb, hok, hT⟩
    · omega
    · obtain ⟨x, hx, hr⟩ := (TRs_iff ..).1 hT at_ (bT (l.getD at_ 0)) (by simp [T.elems, List.getD_eq_getElem?_getD, hlt])
      rw [TR] at hr
      subst hr
      have := next_in l.length at_ (l.getD at_ 0) seed hl (bl _ hlt) hlt w b (.int .i64 0) e bc oc c hc hw hx
      unfold nxV nxS
      rw [if_pos hlt, if_pos hlt]
      exact this
  · have := next_out l.length at_ seed hl hat (by omega) w b e a c hw
    unfold nxV nxS
    rw [if_neg hlt, if_neg hlt]
    exact this
end Go.Proofs.Ytmnpdipiffmnhaa
