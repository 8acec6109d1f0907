import Derived.Test.YtmnpdipiffmnhaaYT104
import Derived.Test.YtmnpdipiffmnhaaZAwI
import Derived.Test.YtmnpdipiffmnhaaZAwG
set_option linter.unusedVariables false
set_option linter.unusedSimpArgs false
set_option maxRecDepth 100000
set_option maxHeartbeats 8000000
namespace Go.Proofs.Ytmnpdipiffmnhaa
open Go.Aw Go.RowKit

/-! ### the draws as plain functions -/
theorem and255 (x : Int) : 0 ≤ Go.bits BinOp.and IntKind.u64 x 255 ∧ Go.bits BinOp.and IntKind.u64 x 255 < 256 := by
  unfold Go.bits
  have h : (BitVec.ofInt IntKind.u64.bits x &&& BitVec.ofInt IntKind.u64.bits 255).toNat ≤ 255 := by
    rw [BitVec.toNat_and]
    have : (BitVec.ofInt IntKind.u64.bits 255).toNat = 255 := by decide
    rw [this]; exact Nat.and_le_right
  have key : ∀ m : Nat, m ≤ 255 → 0 ≤ IntKind.wrap .u64 (m : Int) ∧ IntKind.wrap .u64 (m : Int) < 256 := fun m hm => by
    unfold IntKind.wrap
    simp only [IntKind.signed, IntKind.bits, Bool.false_and, Bool.false_eq_true, if_false]
    omega
  exact key _ h
theorem nxO_rng (seed : Int) : 0 ≤ nxO seed ∧ nxO seed < 256 := by
  unfold nxO
  have := and255 (IntKind.u64.wrap (IntKind.u64.wrap (IntKind.u64.wrap (seed * 6364136223846793005)) + 1442695040888963407) / 1099511627776)
  generalize Go.bits BinOp.and IntKind.u64 (IntKind.u64.wrap (IntKind.u64.wrap (IntKind.u64.wrap (seed * 6364136223846793005)) + 1442695040888963407) / 1099511627776) 255 = v at *
  unfold wrap64; omega
def Byt (l : List Nat) : Prop := l.length ≤ 1048576 ∧ ∀ i, i < l.length → l.getD i 0 < 256
theorem nxV_rng {l : List Nat} (h : Byt l) (k : Nat) (seed : Int) : 0 ≤ nxV l k seed ∧ nxV l k seed < 256 := by
  unfold nxV
  split
  · have := h.2 k (by assumption); omega
  · exact nxO_rng seed
def sdD (l : List Nat) : Nat → Int
  | 0 => 0
  | k + 1 => nxS l k (sdD l k)
/-- the k-th draw, below n -/
def dvD (l : List Nat) (k : Nat) (n : Int) : Int := (nxV l k (sdD l k)).tmod n
theorem dvD_rng {l : List Nat} (h : Byt l) (k : Nat) {n : Int} (hn : 1 ≤ n) : 0 ≤ dvD l k n ∧ dvD l k n < n := by
  have h1 := nxV_rng h k (sdD l k)
  unfold dvD
  rw [Int.tmod_eq_emod_of_nonneg h1.1]
  exact ⟨Int.emod_nonneg _ (by omega), Int.emod_lt_of_pos _ (by omega)⟩
abbrev bxD (l : List Nat) (k : Nat) : List Value := [.int .i64 (k : Nat), .int .u64 (sdD l k)]
theorem pick_d {l : List Nat} (h : Byt l) (k : Nat) (n : Int) (hk : k ≤ 4000000) (hn : 1 < n ∧ n ≤ 200) : PBox Try.prog 104 [.int .i64 n] (.int .i64 (dvD l k n)) (BY l) (bxD l k) (bxD l (k + 1)) :=
  pick_b l k (sdD l k) n (by have := h.1; omega) h.2 (by omega) hn
theorem from_n : PNew Try.prog 67 156 [.int .i64 0, .int .u64 0] := by
  refine ⟨⟨_, Try.func67, rfl, by kernel_rfl⟩, fun w ad n c => ?_⟩
  refine calls_of_wp Try.func67 rfl ?_
  simp only [Try.ntmps67, List.size_toArray, List.length_cons, List.length_nil, Nat.reduceAdd, Nat.reduceSub, Array.replicate_succ, Array.replicate_zero, List.push_toArray, List.append_toArray, List.nil_append, List.cons_append]
  go_wp2
  go_ret
  exact ⟨w.heap.size, rfl, Nat.le_refl _, (Below.refl _ _).alloc (Nat.le_refl _) _, heap_alloc_new w _⟩
attribute [local irreducible] QRun LexD AWp TCall TMut fop fint fcmp fconv hw dvD sdD

/-! ### series of halves -/
end Go.Proofs.Ytmnpdipiffmnhaa
