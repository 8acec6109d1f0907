import Derived.Test.YtpdnjcblkjjegaaVT84
import Derived.RangeFuncFrom
import Derived.RangeFuncNested
import Derived.RangeFuncBound
import Derived.RangeFuncBox
import Derived.RangeFuncCalls
import Derived.RangeFuncLeaves
import Derived.Shelf.Abstract
import Derived.Shelf.RegionOpen
import Derived.WalkKit
import Derived.OwnWalkIn
import Derived.TacticsInMore
import Derived.LoopNIn
import Derived.LoopIn
set_option linter.unusedVariables false
set_option linter.unusedSimpArgs false
set_option maxRecDepth 100000
set_option maxHeartbeats 8000000
namespace Go.Proofs.Ytpdnjcblkjjegaa
open Go.Aw Go.RowKit Go.Shelf
attribute [local go_sem] Oper.semAt_some

/-! ### slices.Chunk -/
theorem chunk_in (n : Nat) (a : Option Addr) (len cap : Nat) (m : Int) (hm : 1 ≤ m) (w : World) :
    CallsIn Fence.wide n Try.prog 50 #[.slice a len cap, .int .i64 m] w fun e w' =>
      e = .returned (.func (.func 92) #[] #[.pointer (some ⟨w.heap.size, 0, none⟩), .pointer (some ⟨w.heap.size + 1, 0, none⟩)]) ∧
      w' = (w.alloc (.cells #[.slice a len cap] 24)).alloc (.cells #[.int .i64 m] 3) := by
  refine callsIn_of_wp Try.func50 rfl trivial ?_ rfl
  simp only [Try.ntmps50, List.size_toArray, List.length_cons, List.length_nil, Nat.reduceAdd, Nat.reduceSub, Array.replicate_succ, Array.replicate_zero, List.push_toArray, List.append_toArray, List.nil_append, List.cons_append]
  gi_wp2
  go_ret
  exact ⟨rfl, rfl⟩
theorem chunk1_1_in (n : Nat) (hn : 1 ≤ n) (l Bs Bm n₀ b off cap : Nat) (hcap : 1 ≤ cap) (hBs : Bs < n₀) (hBm : Bm < n₀) (J Jx : List (Fin 1) → World → Prop) (hJd : ∀ pre W, J pre W → J pre W.drew)
    (hY : ∀ pre x W, J pre W → pre.length < 1 → YieldAt Fence.wide (n - 1) Try.prog l #[.slice (some ⟨b, off + x.1 * 1, none⟩) 1 1] W fun e W' =>
      (e = .returned (.bool true) ∧ J (pre ++ [x]) W' ∧ Below n₀ W W') ∨ (e = .returned (.bool false) ∧ Jx (pre ++ [x]) W'))
    (W : World) (hcs : W.cell? ⟨Bs, 0, none⟩ = some (.slice (some ⟨b, off, none⟩) 1 cap)) (hcm : W.cell? ⟨Bm, 0, none⟩ = some (.int .i64 1)) (h0 : J [] W) :
    CallsIn Fence.wide n Try.prog 92 #[.func (.yield l) #[] #[], .pointer (some ⟨Bs, 0, none⟩), .pointer (some ⟨Bm, 0, none⟩)] W fun e W' => (∃ v, e = .returned v) ∧
      ((∃ ys : List (Fin 1), (∀ k, k ∈ ys) ∧ J ys W') ∨ (∃ pre : List (Fin 1), True ∧ Jx pre W')) := by
  refine callsIn_of_wp Try.func92 rfl trivial ?_ rfl
  simp only [Try.ntmps92, List.size_toArray, List.length_cons, List.length_nil, Nat.reduceAdd, Nat.reduceSub, Array.replicate_succ, Array.replicate_zero, List.push_toArray, List.append_toArray, List.nil_append, List.cons_append]
  gi_wp2
  gi_loopw [4] (fun i wr => ∃ (k : Nat) (pre : List (Fin 1)), k ≤ 1 ∧ i = .int .i64 ((k * 1 : Nat) : Int) ∧ pre.length = k ∧ (∀ j : Fin 1, j.1 < k → j ∈ pre) ∧ J pre wr ∧ Below n₀ W wr)
    (fun i _ => 1 - (intOf i).toNat)
  case atStart => exact ⟨0, [], Nat.zero_le _, rfl, rfl, fun j hj => by omega, h0, Below.refl _ _⟩
  case round =>
    obtain ⟨k, pre, hk, hi, hpl, hin, hJs, hnx⟩ := hrel
    have hcs1 : wr.cell? ⟨Bs, 0, none⟩ = some (.slice (some ⟨b, off, none⟩) 1 cap) := (hnx.cell (p := ⟨Bs, 0, none⟩) hBs).trans hcs
    have hcm1 : wr.cell? ⟨Bm, 0, none⟩ = some (.int .i64 1) := (hnx.cell (p := ⟨Bm, 0, none⟩) hBm).trans hcm
    have hk' : k = 0 ∨ k = 1 := by omega
    rcases hk' with rfl | rfl
    · change _ = Value.int .i64 0 at hi
      subst hi
      obtain ⟨fn, tmps, assign, body, hy, hR⟩ := hY pre ⟨0, by omega⟩ wr.drew (hJd _ _ hJs) (by omega)
      have hnx' : Below n₀ W wr.drew := hnx.drew
      change (Instr.yield l #[Value.slice (some ⟨b, off + 0, none⟩) 1 1]).run _ wr.drew = _ at hy
      rw [Nat.add_zero] at hy
      have hcs2 : wr.drew.cell? ⟨Bs, 0, none⟩ = some (.slice (some ⟨b, off, none⟩) 1 cap) := hcs1
      have hcm2 : wr.drew.cell? ⟨Bm, 0, none⟩ = some (.int .i64 1) := hcm1
      gi_wp2
      gi_region
      gi_wp2
      refine hR.mono ?_
      rintro e W3 (⟨rfl, hJ3, hk3⟩ | ⟨rfl, hJx3⟩)
      · have hcm3 : W3.cell? ⟨Bm, 0, none⟩ = some (.int .i64 1) := (hk3.cell (p := ⟨Bm, 0, none⟩) hBm).trans hcm2
        gi_wp2
        go_roundw
        case rel => exact ⟨1, pre ++ [⟨0, by omega⟩], by omega, rfl, by simp [hpl], fun j hj => List.mem_append.2 ((Nat.lt_or_eq_of_le (Nat.le_of_lt_succ hj)).elim (fun h => .inl (hin j h)) (fun h => .inr (List.mem_singleton.2 (Fin.ext h)))), hJ3, hnx'.trans hk3⟩
        case measure => simp [intOf]
      · gi_wp2
        refine bodyPost_ret (results_none rfl _ _ _) rfl ?_
        exact ⟨⟨_, rfl⟩, .inr ⟨_, trivial, hJx3⟩⟩
    · change _ = Value.int .i64 1 at hi
      subst hi
      gi_wp2
      go_end0
      exact ⟨⟨_, rfl⟩, .inl ⟨pre, fun k => hin k k.2, hJs⟩⟩

theorem chunk1_2_in (n : Nat) (hn : 1 ≤ n) (l Bs Bm n₀ b off cap : Nat) (hcap : 4 ≤ cap) (hBs : Bs < n₀) (hBm : Bm < n₀) (J Jx : List (Fin 2) → World → Prop) (hJd : ∀ pre W, J pre W → J pre W.drew)
    (hY : ∀ pre x W, J pre W → pre.length < 2 → YieldAt Fence.wide (n - 1) Try.prog l #[.slice (some ⟨b, off + x.1 * 2, none⟩) 2 2] W fun e W' =>
      (e = .returned (.bool true) ∧ J (pre ++ [x]) W' ∧ Below n₀ W W') ∨ (e = .returned (.bool false) ∧ Jx (pre ++ [x]) W'))
    (W : World) (hcs : W.cell? ⟨Bs, 0, none⟩ = some (.slice (some ⟨b, off, none⟩) 4 cap)) (hcm : W.cell? ⟨Bm, 0, none⟩ = some (.int .i64 2)) (h0 : J [] W) :
    CallsIn Fence.wide n Try.prog 92 #[.func (.yield l) #[] #[], .pointer (some ⟨Bs, 0, none⟩), .pointer (some ⟨Bm, 0, none⟩)] W fun e W' => (∃ v, e = .returned v) ∧
      ((∃ ys : List (Fin 2), (∀ k, k ∈ ys) ∧ J ys W') ∨ (∃ pre : List (Fin 2), True ∧ Jx pre W')) := by
  refine callsIn_of_wp Try.func92 rfl trivial ?_ rfl
  simp only [Try.ntmps92, List.size_toArray, List.length_cons, List.length_nil, Nat.reduceAdd, Nat.reduceSub, Array.replicate_succ, Array.replicate_zero, List.push_toArray, List.append_toArray, List.nil_append, List.cons_append]
  gi_wp2
  gi_loopw [4] (fun i wr => ∃ (k : Nat) (pre : List (Fin 2)), k ≤ 2 ∧ i = .int .i64 ((k * 2 : Nat) : Int) ∧ pre.length = k ∧ (∀ j : Fin 2, j.1 < k → j ∈ pre) ∧ J pre wr ∧ Below n₀ W wr)
    (fun i _ => 4 - (intOf i).toNat)
  case atStart => exact ⟨0, [], Nat.zero_le _, rfl, rfl, fun j hj => by omega, h0, Below.refl _ _⟩
  case round =>
    obtain ⟨k, pre, hk, hi, hpl, hin, hJs, hnx⟩ := hrel
    have hcs1 : wr.cell? ⟨Bs, 0, none⟩ = some (.slice (some ⟨b, off, none⟩) 4 cap) := (hnx.cell (p := ⟨Bs, 0, none⟩) hBs).trans hcs
    have hcm1 : wr.cell? ⟨Bm, 0, none⟩ = some (.int .i64 2) := (hnx.cell (p := ⟨Bm, 0, none⟩) hBm).trans hcm
    have hk' : k = 0 ∨ k = 1 ∨ k = 2 := by omega
    rcases hk' with rfl | rfl | rfl
    · change _ = Value.int .i64 0 at hi
      subst hi
      obtain ⟨fn, tmps, assign, body, hy, hR⟩ := hY pre ⟨0, by omega⟩ wr.drew (hJd _ _ hJs) (by omega)
      have hnx' : Below n₀ W wr.drew := hnx.drew
      change (Instr.yield l #[Value.slice (some ⟨b, off + 0, none⟩) 2 2]).run _ wr.drew = _ at hy
      rw [Nat.add_zero] at hy
      have hcs2 : wr.drew.cell? ⟨Bs, 0, none⟩ = some (.slice (some ⟨b, off, none⟩) 4 cap) := hcs1
      have hcm2 : wr.drew.cell? ⟨Bm, 0, none⟩ = some (.int .i64 2) := hcm1
      gi_wp2
      gi_region
      gi_wp2
      refine hR.mono ?_
      rintro e W3 (⟨rfl, hJ3, hk3⟩ | ⟨rfl, hJx3⟩)
      · have hcm3 : W3.cell? ⟨Bm, 0, none⟩ = some (.int .i64 2) := (hk3.cell (p := ⟨Bm, 0, none⟩) hBm).trans hcm2
        gi_wp2
        go_roundw
        case rel => exact ⟨1, pre ++ [⟨0, by omega⟩], by omega, rfl, by simp [hpl], fun j hj => List.mem_append.2 ((Nat.lt_or_eq_of_le (Nat.le_of_lt_succ hj)).elim (fun h => .inl (hin j h)) (fun h => .inr (List.mem_singleton.2 (Fin.ext h)))), hJ3, hnx'.trans hk3⟩
        case measure => simp [intOf]
      · gi_wp2
        refine bodyPost_ret (results_none rfl _ _ _) rfl ?_
        exact ⟨⟨_, rfl⟩, .inr ⟨_, trivial, hJx3⟩⟩
    · change _ = Value.int .i64 2 at hi
      subst hi
      obtain ⟨fn, tmps, assign, body, hy, hR⟩ := hY pre ⟨1, by omega⟩ wr.drew (hJd _ _ hJs) (by omega)
      have hnx' : Below n₀ W wr.drew := hnx.drew
      change (Instr.yield l #[Value.slice (some ⟨b, off + 2, none⟩) 2 2]).run _ wr.drew = _ at hy
      skip
      have hcs2 : wr.drew.cell? ⟨Bs, 0, none⟩ = some (.slice (some ⟨b, off, none⟩) 4 cap) := hcs1
      have hcm2 : wr.drew.cell? ⟨Bm, 0, none⟩ = some (.int .i64 2) := hcm1
      gi_wp2
      gi_region
      gi_wp2
      refine hR.mono ?_
      rintro e W3 (⟨rfl, hJ3, hk3⟩ | ⟨rfl, hJx3⟩)
      · have hcm3 : W3.cell? ⟨Bm, 0, none⟩ = some (.int .i64 2) := (hk3.cell (p := ⟨Bm, 0, none⟩) hBm).trans hcm2
        gi_wp2
        go_roundw
        case rel => exact ⟨2, pre ++ [⟨1, by omega⟩], by omega, rfl, by simp [hpl], fun j hj => List.mem_append.2 ((Nat.lt_or_eq_of_le (Nat.le_of_lt_succ hj)).elim (fun h => .inl (hin j h)) (fun h => .inr (List.mem_singleton.2 (Fin.ext h)))), hJ3, hnx'.trans hk3⟩
        case measure => simp [intOf]
      · gi_wp2
        refine bodyPost_ret (results_none rfl _ _ _) rfl ?_
        exact ⟨⟨_, rfl⟩, .inr ⟨_, trivial, hJx3⟩⟩
    · change _ = Value.int .i64 4 at hi
      subst hi
      gi_wp2
      go_end0
      exact ⟨⟨_, rfl⟩, .inl ⟨pre, fun k => hin k k.2, hJs⟩⟩

theorem chunk1_3_in (n : Nat) (hn : 1 ≤ n) (l Bs Bm n₀ b off cap : Nat) (hcap : 9 ≤ cap) (hBs : Bs < n₀) (hBm : Bm < n₀) (J Jx : List (Fin 3) → World → Prop) (hJd : ∀ pre W, J pre W → J pre W.drew)
    (hY : ∀ pre x W, J pre W → pre.length < 3 → YieldAt Fence.wide (n - 1) Try.prog l #[.slice (some ⟨b, off + x.1 * 3, none⟩) 3 3] W fun e W' =>
      (e = .returned (.bool true) ∧ J (pre ++ [x]) W' ∧ Below n₀ W W') ∨ (e = .returned (.bool false) ∧ Jx (pre ++ [x]) W'))
    (W : World) (hcs : W.cell? ⟨Bs, 0, none⟩ = some (.slice (some ⟨b, off, none⟩) 9 cap)) (hcm : W.cell? ⟨Bm, 0, none⟩ = some (.int .i64 3)) (h0 : J [] W) :
    CallsIn Fence.wide n Try.prog 92 #[.func (.yield l) #[] #[], .pointer (some ⟨Bs, 0, none⟩), .pointer (some ⟨Bm, 0, none⟩)] W fun e W' => (∃ v, e = .returned v) ∧
      ((∃ ys : List (Fin 3), (∀ k, k ∈ ys) ∧ J ys W') ∨ (∃ pre : List (Fin 3), True ∧ Jx pre W')) := by
  refine callsIn_of_wp Try.func92 rfl trivial ?_ rfl
  simp only [Try.ntmps92, List.size_toArray, List.length_cons, List.length_nil, Nat.reduceAdd, Nat.reduceSub, Array.replicate_succ, Array.replicate_zero, List.push_toArray, List.append_toArray, List.nil_append, List.cons_append]
  gi_wp2
  gi_loopw [4] (fun i wr => ∃ (k : Nat) (pre : List (Fin 3)), k ≤ 3 ∧ i = .int .i64 ((k * 3 : Nat) : Int) ∧ pre.length = k ∧ (∀ j : Fin 3, j.1 < k → j ∈ pre) ∧ J pre wr ∧ Below n₀ W wr)
    (fun i _ => 9 - (intOf i).toNat)
  case atStart => exact ⟨0, [], Nat.zero_le _, rfl, rfl, fun j hj => by omega, h0, Below.refl _ _⟩
  case round =>
    obtain ⟨k, pre, hk, hi, hpl, hin, hJs, hnx⟩ := hrel
    have hcs1 : wr.cell? ⟨Bs, 0, none⟩ = some (.slice (some ⟨b, off, none⟩) 9 cap) := (hnx.cell (p := ⟨Bs, 0, none⟩) hBs).trans hcs
    have hcm1 : wr.cell? ⟨Bm, 0, none⟩ = some (.int .i64 3) := (hnx.cell (p := ⟨Bm, 0, none⟩) hBm).trans hcm
    have hk' : k = 0 ∨ k = 1 ∨ k = 2 ∨ k = 3 := by omega
    rcases hk' with rfl | rfl | rfl | rfl
    · change _ = Value.int .i64 0 at hi
      subst hi
      obtain ⟨fn, tmps, assign, body, hy, hR⟩ := hY pre ⟨0, by omega⟩ wr.drew (hJd _ _ hJs) (by omega)
      have hnx' : Below n₀ W wr.drew := hnx.drew
      change (Instr.yield l #[Value.slice (some ⟨b, off + 0, none⟩) 3 3]).run _ wr.drew = _ at hy
      rw [Nat.add_zero] at hy
      have hcs2 : wr.drew.cell? ⟨Bs, 0, none⟩ = some (.slice (some ⟨b, off, none⟩) 9 cap) := hcs1
      have hcm2 : wr.drew.cell? ⟨Bm, 0, none⟩ = some (.int .i64 3) := hcm1
      gi_wp2
      gi_region
      gi_wp2
      refine hR.mono ?_
      rintro e W3 (⟨rfl, hJ3, hk3⟩ | ⟨rfl, hJx3⟩)
      · have hcm3 : W3.cell? ⟨Bm, 0, none⟩ = some (.int .i64 3) := (hk3.cell (p := ⟨Bm, 0, none⟩) hBm).trans hcm2
        gi_wp2
        go_roundw
        case rel => exact ⟨1, pre ++ [⟨0, by omega⟩], by omega, rfl, by simp [hpl], fun j hj => List.mem_append.2 ((Nat.lt_or_eq_of_le (Nat.le_of_lt_succ hj)).elim (fun h => .inl (hin j h)) (fun h => .inr (List.mem_singleton.2 (Fin.ext h)))), hJ3, hnx'.trans hk3⟩
        case measure => simp [intOf]
      · gi_wp2
        refine bodyPost_ret (results_none rfl _ _ _) rfl ?_
        exact ⟨⟨_, rfl⟩, .inr ⟨_, trivial, hJx3⟩⟩
    · change _ = Value.int .i64 3 at hi
      subst hi
      obtain ⟨fn, tmps, assign, body, hy, hR⟩ := hY pre ⟨1, by omega⟩ wr.drew (hJd _ _ hJs) (by omega)
      have hnx' : Below n₀ W wr.drew := hnx.drew
      change (Instr.yield l #[Value.slice (some ⟨b, off + 3, none⟩) 3 3]).run _ wr.drew = _ at hy
      skip
      have hcs2 : wr.drew.cell? ⟨Bs, 0, none⟩ = some (.slice (some ⟨b, off, none⟩) 9 cap) := hcs1
      have hcm2 : wr.drew.cell? ⟨Bm, 0, none⟩ = some (.int .i64 3) := hcm1
      gi_wp2
      gi_region
      gi_wp2
      refine hR.mono ?_
      rintro e W3 (⟨rfl, hJ3, hk3⟩ | ⟨rfl, hJx3⟩)
      · have hcm3 : W3.cell? ⟨Bm, 0, none⟩ = some (.int .i64 3) := (hk3.cell (p := ⟨Bm, 0, none⟩) hBm).trans hcm2
        gi_wp2
        go_roundw
        case rel => exact ⟨2, pre ++ [⟨1, by omega⟩], by omega, rfl, by simp [hpl], fun j hj => List.mem_append.2 ((Nat.lt_or_eq_of_le (Nat.le_of_lt_succ hj)).elim (fun h => .inl (hin j h)) (fun h => .inr (List.mem_singleton.2 (Fin.ext h)))), hJ3, hnx'.trans hk3⟩
        case measure => simp [intOf]
      · gi_wp2
        refine bodyPost_ret (results_none rfl _ _ _) rfl ?_
        exact ⟨⟨_, rfl⟩, .inr ⟨_, trivial, hJx3⟩⟩
    · change _ = Value.int .i64 6 at hi
      subst hi
      obtain ⟨fn, tmps, assign, body, hy, hR⟩ := hY pre ⟨2, by omega⟩ wr.drew (hJd _ _ hJs) (by omega)
      have hnx' : Below n₀ W wr.drew := hnx.drew
      change (Instr.yield l #[Value.slice (some ⟨b, off + 6, none⟩) 3 3]).run _ wr.drew = _ at hy
      skip
      have hcs2 : wr.drew.cell? ⟨Bs, 0, none⟩ = some (.slice (some ⟨b, off, none⟩) 9 cap) := hcs1
      have hcm2 : wr.drew.cell? ⟨Bm, 0, none⟩ = some (.int .i64 3) := hcm1
      gi_wp2
      gi_region
      gi_wp2
      refine hR.mono ?_
      rintro e W3 (⟨rfl, hJ3, hk3⟩ | ⟨rfl, hJx3⟩)
      · have hcm3 : W3.cell? ⟨Bm, 0, none⟩ = some (.int .i64 3) := (hk3.cell (p := ⟨Bm, 0, none⟩) hBm).trans hcm2
        gi_wp2
        go_roundw
        case rel => exact ⟨3, pre ++ [⟨2, by omega⟩], by omega, rfl, by simp [hpl], fun j hj => List.mem_append.2 ((Nat.lt_or_eq_of_le (Nat.le_of_lt_succ hj)).elim (fun h => .inl (hin j h)) (fun h => .inr (List.mem_singleton.2 (Fin.ext h)))), hJ3, hnx'.trans hk3⟩
        case measure => simp [intOf]
      · gi_wp2
        refine bodyPost_ret (results_none rfl _ _ _) rfl ?_
        exact ⟨⟨_, rfl⟩, .inr ⟨_, trivial, hJx3⟩⟩
    · change _ = Value.int .i64 9 at hi
      subst hi
      gi_wp2
      go_end0
      exact ⟨⟨_, rfl⟩, .inl ⟨pre, fun k => hin k k.2, hJs⟩⟩

theorem chunk_stops (n : Nat) (hn : 1 ≤ n) (Bs Bm n₀ b off cap m : Nat) (hm : 1 ≤ m ∧ m ≤ 3) (hcap : m * m ≤ cap) (w : World) (hBs : Bs < n₀) (hBm : Bm < n₀) (hn₀ : n₀ ≤ w.heap.size)
    (hcs : w.cell? ⟨Bs, 0, none⟩ = some (.slice (some ⟨b, off, none⟩) (m * m) cap)) (hcm : w.cell? ⟨Bm, 0, none⟩ = some (.int .i64 (m : Nat))) :
    SeqStopsK Fence.wide n Try.prog 92 #[.pointer (some ⟨Bs, 0, none⟩), .pointer (some ⟨Bm, 0, none⟩)] (fun x : Fin m => #[Value.slice (some ⟨b, off + x.1 * m, none⟩) m m]) (Below n₀) (fun ys => ∀ k, k ∈ ys) (fun _ => True) m w := fun l J Jx W hW hJ hJx hY h0 => by
  have hcs' := (hW.cell (p := ⟨Bs, 0, none⟩) (Nat.lt_of_lt_of_le hBs hn₀)).trans hcs
  have hcm' := (hW.cell (p := ⟨Bm, 0, none⟩) (Nat.lt_of_lt_of_le hBm hn₀)).trans hcm
  have hJd : ∀ pre W', J pre W' → J pre W'.drew := fun pre W' hj => hJ pre W' W'.drew none hj ⟨rfl, rfl, rfl, Nat.le_refl _, fun _ _ _ => rfl⟩ (fun r e => by cases e)
  have hm' : m = 1 ∨ m = 2 ∨ m = 3 := by omega
  rcases hm' with rfl | rfl | rfl
  · exact chunk1_1_in n hn l Bs Bm n₀ b off cap hcap hBs hBm J Jx hJd hY W hcs' hcm' h0
  · exact chunk1_2_in n hn l Bs Bm n₀ b off cap hcap hBs hBm J Jx hJd hY W hcs' hcm' h0
  · exact chunk1_3_in n hn l Bs Bm n₀ b off cap hcap hBs hBm J Jx hJd hY W hcs' hcm' h0
end Go.Proofs.Ytpdnjcblkjjegaa

