import Derived.Test.YtmnpdipiffmnhaaYT103
set_option linter.unusedVariables false
set_option linter.unusedSimpArgs false
set_option maxRecDepth 100000
set_option maxHeartbeats 8000000
namespace Go.Proofs.Ytmnpdipiffmnhaa
open Go.Aw Go.RowKit

theorem pick_b (l : List Nat) (at_ : Nat) (seed n : Int) (hl : l.length ≤ 9223372036854775807) (bl : ∀ i, i < l.length → l.getD i 0 < 256) (hat : at_ < 9223372036854775807) (hn : 1 < n ∧ n ≤ 200) :
    PBox Try.prog 104 [.int .i64 n] (.int .i64 ((nxV l at_ seed).tmod n)) (BY l) [.int .i64 at_, .int .u64 seed] [.int .i64 (at_ + 1 : Nat), .int .u64 (nxS l at_ seed)] := by
  refine ⟨⟨_, Try.func104, rfl, by kernel_rfl⟩, fun w b y0 e hw ht => ?_⟩
  have h1 : ¬ n ≤ 1 := by omega
  have h2 : ¬ 200 < n := by omega
  have h3 : n ≠ 0 := by omega
  refine calls_of_wp Try.func104 rfl ?_
  simp only [Try.ntmps104, List.size_toArray, List.length_cons, List.length_nil, Nat.reduceAdd, Nat.reduceSub, Array.replicate_succ, Array.replicate_zero, List.push_toArray, List.append_toArray, List.nil_append, List.cons_append]
  go_wp2_with (fail)
  trace_state
  go_at_call 173
  refine ((next_b l at_ seed hl bl hat).2 w b y0 e hw ht).mono ?_
  rintro ex w' ⟨rfl, g1, g2, g3, g4, g5, g6⟩
  go_wp2
  trace_state
  go_ret
  exact ⟨rfl, g1, g2, g3, g4, g5, g6⟩
end Go.Proofs.Ytmnpdipiffmnhaa
