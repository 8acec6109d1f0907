import Derived.Test.YtpdnjcblkjjegaaVT6
import Derived.Test.YtpdnjcblkjjegaaVAwD
import Derived.Test.YtpdnjcblkjjegaaVAwC
set_option linter.unusedVariables false
set_option linter.unusedSimpArgs false
set_option maxRecDepth 20000
set_option maxHeartbeats 4000000
namespace Go.Proofs.Ytpdnjcblkjjegaa
open Go.Aw
attribute [local irreducible] QRun LexD AWp TCall

theorem all_hit {p : Nat → Bool} {l : List Nat} {i : Nat} (hi : i < l.length) (h : p (l.getD i 0) = false) : l.all p = false := by
  have e1 : l.getD i 0 = l[i] := by simp [List.getD_eq_getElem?_getD, hi]
  refine List.all_eq_false.2 ⟨l[i], List.getElem_mem hi, by rw [← e1, h]; simp⟩
theorem all_none {p : Nat → Bool} {l : List Nat} (h0 : ∀ j, j < l.length → p (l.getD j 0) = true) : l.all p = true := by
  refine List.all_eq_true.2 fun c hc => ?_
  obtain ⟨j, hj, rfl⟩ := List.getElem_of_mem hc
  have := h0 j hj
  rwa [show l.getD j 0 = l[j] by simp [List.getD_eq_getElem?_getD, hj]] at this
theorem l02Finite_c (l : List Nat) (hl : l.length ≤ 9223372036854775807) : TCall Try.prog 57 [.fl l] (.t (.v (.bool (l.all fin)))) [] := by
  refine tcall_of Try.func57 rfl (by kernel_rfl) (Nat.le_of_ble_eq_true rfl) rfl ?_
  simp only [argsL, argAV, argCs, argS]
  refine V3 ?_
  refine awp_loop (X := Nat) (fun i => i ≤ l.length ∧ ∀ j, j < i → fin (l.getD j 0) = true) (fun i => [(0, .arg 0 (.fl l)), (3, .t (.v (.int .i64 i)))]) (fun _ => []) (fun i => l.length - i)
    0 ⟨⟨by omega, fun j hj => by omega⟩, fun i => i, ⟨rfl, rfl, trivial⟩, trivial, injOn_id _⟩ (fun i hi => ?_)
  refine V3 ?_
  refine awp_if rfl (fun h => ?_) (fun h => ?_)
  · simp only [icmp, decide_eq_true_eq] at h
    refine V3 ?_
    refine c_q (l01Finite_c _) (h := ?_)
    refine V3 ?_
    refine awp_if rfl (fun h1 => ?_) (fun h1 => ?_)
    · refine V3 ?_
      refine u_0 ?_
      repeat' (first | exact RetRelL.nil | refine RetRel.nil rfl ?_ | refine RetRelL.cons ?_ ?_ | refine rr_tup ?_ | refine rr_agg ?_ | refine rr_own rfl ?_ | exact RetRel.arg | exact RetRel.argc | refine rr_t ?_)
      rw [all_hit (i := i) (by omega) (by simpa using h1)]
    · refine V3 ?_
      exact ⟨i + 1, by omega, ⟨by omega, fun j hj => (Nat.lt_or_eq_of_le (Nat.le_of_lt_succ hj)).elim (fun hj' => hi.2 j hj') (fun hj' => by rw [hj']; simpa using h1)⟩, fun i => i, ⟨rfl, rfl, trivial⟩, trivial, injOn_id _⟩
  · simp only [icmp, decide_eq_false_iff_not] at h
    refine V3 ?_
    refine u_0 ?_
    repeat' (first | exact RetRelL.nil | refine RetRel.nil rfl ?_ | refine RetRelL.cons ?_ ?_ | refine rr_tup ?_ | refine rr_agg ?_ | refine rr_own rfl ?_ | exact RetRel.arg | exact RetRel.argc | refine rr_t ?_)
    rw [all_none (fun j hj => hi.2 j (by omega))]
theorem fin1_c (c : Nat) : TCall Try.prog 85 [.f .f32 c] (.t (.v (.bool (!fin c)))) [] := by
  refine tcall_of Try.func85 rfl (by kernel_rfl) (Nat.le_of_ble_eq_true rfl) rfl ?_
  simp only [argsL, argAV, argCs, argS]
  refine V3 ?_
  refine c_q (isFinite_c _) (h := ?_)
  refine V3 ?_
  refine u_0 ?_
  repeat' (first | exact RetRelL.nil | refine RetRel.nil rfl ?_ | refine RetRelL.cons ?_ ?_ | refine rr_tup ?_ | refine rr_agg ?_ | refine rr_own rfl ?_ | exact RetRel.arg | exact RetRel.argc | refine rr_t ?_)
  rfl
theorem areFinite_c (l : List Nat) (hl : l.length ≤ 9223372036854775807) : TCall Try.prog 40 [.fl l] (.t (.v (.bool (l.all fin)))) [] := by
  refine tcall_of Try.func40 rfl (by kernel_rfl) (Nat.le_of_ble_eq_true rfl) rfl ?_
  simp only [argsL, argAV, argCs, argS]
  refine V3 ?_
  refine c_q (containsFunc_c _ [] _ l hl fin1_c) (h := ?_)
  refine V3 ?_
  refine u_0 ?_
  repeat' (first | exact RetRelL.nil | refine RetRel.nil rfl ?_ | refine RetRelL.cons ?_ ?_ | refine rr_tup ?_ | refine rr_agg ?_ | refine rr_own rfl ?_ | exact RetRel.arg | exact RetRel.argc | refine rr_t ?_)
  simp [List.all_eq_not_any_not]

def isSer (l : List Nat) : Bool := decide (1 ≤ l.length) && decide (l.length ≤ 96) && l.all fin
theorem specSer_c (l : List Nat) (hl : l.length ≤ 9223372036854775807) : TCall Try.prog 34 [.fl l] (.t (.v (.bool (isSer l)))) [] := by
  refine tcall_of Try.func34 rfl (by kernel_rfl) (Nat.le_of_ble_eq_true rfl) rfl ?_
  simp only [argsL, argAV, argCs, argS]
  refine V3 ?_
  refine lex_if rfl rfl rfl (fun h1 => ?_) (fun h1 => ?_)
  · refine V3 ?_
    refine lex_if rfl rfl rfl (fun h2 => ?_) (fun h2 => ?_)
    · refine V3 ?_
      refine c_q (l02Finite_c _ hl) (h := ?_)
      refine V3 ?_
      refine u_0 ?_
      repeat' (first | exact RetRelL.nil | refine RetRel.nil rfl ?_ | refine RetRelL.cons ?_ ?_ | refine rr_tup ?_ | refine rr_agg ?_ | refine rr_own rfl ?_ | exact RetRel.arg | exact RetRel.argc | refine rr_t ?_)
      simp [icmp] at h1 h2
      have h1' : 1 ≤ l.length := by omega
      have h2' : l.length ≤ 96 := by omega
      simp [isSer, h1', h2']
    · refine V3 ?_
      refine u_0 ?_
      repeat' (first | exact RetRelL.nil | refine RetRel.nil rfl ?_ | refine RetRelL.cons ?_ ?_ | refine rr_tup ?_ | refine rr_agg ?_ | refine rr_own rfl ?_ | exact RetRel.arg | exact RetRel.argc | refine rr_t ?_)
      simp [icmp] at h1 h2
      have h2' : ¬ l.length ≤ 96 := by omega
      simp [isSer, h2']
  · refine V3 ?_
    refine u_0 ?_
    repeat' (first | exact RetRelL.nil | refine RetRel.nil rfl ?_ | refine RetRelL.cons ?_ ?_ | refine rr_tup ?_ | refine rr_agg ?_ | refine rr_own rfl ?_ | exact RetRel.arg | exact RetRel.argc | refine rr_t ?_)
    simp [icmp] at h1
    have h1' : ¬ 1 ≤ l.length := by omega
    simp [isSer, h1']
theorem implSer_c (l : List Nat) (hl : l.length ≤ 9223372036854775807) : TCall Try.prog 36 [.fl l] (.t (.v (.bool (isSer l)))) [] := by
  refine tcall_of Try.func36 rfl (by kernel_rfl) (Nat.le_of_ble_eq_true rfl) rfl ?_
  simp only [argsL, argAV, argCs, argS]
  refine V3 ?_
  refine lex_if rfl rfl rfl (fun h1 => ?_) (fun h1 => ?_)
  · refine V3 ?_
    refine lex_if rfl rfl rfl (fun h2 => ?_) (fun h2 => ?_)
    · refine V3 ?_
      refine c_q (areFinite_c _ hl) (h := ?_)
      refine V3 ?_
      refine u_0 ?_
      repeat' (first | exact RetRelL.nil | refine RetRel.nil rfl ?_ | refine RetRelL.cons ?_ ?_ | refine rr_tup ?_ | refine rr_agg ?_ | refine rr_own rfl ?_ | exact RetRel.arg | exact RetRel.argc | refine rr_t ?_)
      simp [icmp] at h1 h2
      have h1' : 1 ≤ l.length := by omega
      have h2' : l.length ≤ 96 := by omega
      simp [isSer, h1', h2']
    · refine V3 ?_
      refine u_0 ?_
      repeat' (first | exact RetRelL.nil | refine RetRel.nil rfl ?_ | refine RetRelL.cons ?_ ?_ | refine rr_tup ?_ | refine rr_agg ?_ | refine rr_own rfl ?_ | exact RetRel.arg | exact RetRel.argc | refine rr_t ?_)
      simp [icmp] at h1 h2
      have h2' : ¬ l.length ≤ 96 := by omega
      simp [isSer, h2']
  · refine V3 ?_
    refine u_0 ?_
    repeat' (first | exact RetRelL.nil | refine RetRel.nil rfl ?_ | refine RetRelL.cons ?_ ?_ | refine rr_tup ?_ | refine rr_agg ?_ | refine rr_own rfl ?_ | exact RetRel.arg | exact RetRel.argc | refine rr_t ?_)
    simp [icmp] at h1
    have h1' : ¬ 1 ≤ l.length := by omega
    simp [isSer, h1']
def two (a b : List Nat) : Bool := isSer a && isSer b && decide (a.length = b.length)
end Go.Proofs.Ytpdnjcblkjjegaa

set_option linter.unusedVariables false
set_option linter.unusedSimpArgs false
set_option maxRecDepth 20000
set_option maxHeartbeats 4000000
namespace Go.Proofs.Ytpdnjcblkjjegaa
open Go.Aw
attribute [local irreducible] QRun LexD AWp TCall
def zsub (a b : List Nat) : List Nat := (List.range a.length).map fun i => fop .sub .f32 (a.getD i 0) (b.getD i 0)
def sumF (l : List Nat) : Nat := l.foldl (fun s x => fop .add .f32 s x) 0
theorem getD_mapR {n i : Nat} (f : Nat → Nat) (h : i < n) : ((List.range n).map f).getD i 0 = f i := by simp [List.getD_eq_getElem?_getD, h]
theorem foldl_take {l : List Nat} {i : Nat} (h : i < l.length) (f : Nat → Nat → Nat) (z : Nat) : (l.take (i + 1)).foldl f z = f ((l.take i).foldl f z) (l.getD i 0) := by
  rw [List.take_succ_eq_append_getElem h, List.foldl_append]; simp [List.getD_eq_getElem?_getD, h]
def meanF (l : List Nat) : Nat := fop .quo .f32 (sumF l) (fint .f32 (l.length : Nat))
def numF (c : Nat) : Nat × Bool := if fin c then (c, true) else (0, false)
theorem zsub_len (a b : List Nat) : (zsub a b).length = a.length := by simp [zsub]
def miss (a b : List Nat) : Nat × Bool := if two a b then numF (meanF (zsub a b)) else (0, false)
end Go.Proofs.Ytpdnjcblkjjegaa

set_option linter.unusedVariables false
set_option linter.unusedSimpArgs false
set_option maxRecDepth 20000
set_option maxHeartbeats 4000000
namespace Go.Proofs.Ytpdnjcblkjjegaa
open Go.Aw
attribute [local irreducible] QRun LexD AWp TCall TMut

/-- the marks -/
def marks (k : Int) (n : Nat) : List Nat := (List.range n).map fun (i : Nat) => fint .f32 (k + (i : Int))
theorem marks_len (k : Int) (n : Nat) : (marks k n).length = n := by simp [marks]
end Go.Proofs.Ytpdnjcblkjjegaa

set_option linter.unusedVariables false
set_option linter.unusedSimpArgs false
set_option maxRecDepth 20000
set_option maxHeartbeats 4000000
namespace Go.Proofs.Ytpdnjcblkjjegaa
open Go.Aw
attribute [local irreducible] QRun LexD AWp TCall TMut

theorem absolute_c (c : Nat) : TCall Try.prog 127 [.f .f32 c] (.t (.f .f32 (absF c))) [] := by
  refine tcall_of Try.func127 rfl (by kernel_rfl) (Nat.le_of_ble_eq_true rfl) rfl ?_
  simp only [argsL, argAV, argCs, argS]
  refine V3 ?_
  refine u_0 ?_
  repeat' (first | exact RetRelL.nil | refine RetRel.nil rfl ?_ | refine RetRelL.cons ?_ ?_ | refine rr_tup ?_ | refine rr_agg ?_ | refine rr_own rfl ?_ | exact RetRel.arg | exact RetRel.argc | refine rr_t ?_)
  rfl
end Go.Proofs.Ytpdnjcblkjjegaa

set_option linter.unusedVariables false
set_option linter.unusedSimpArgs false
set_option maxRecDepth 20000
set_option maxHeartbeats 8000000
namespace Go.Proofs.Ytpdnjcblkjjegaa
open Go.Aw

theorem fin_R (c : Nat) : fin c = finR .f32 c := finB_eq .f32 c
/-! ### what terms tell -/
/-- a list if all of it is finite -/
def ifAllF (l : List Nat) : List Nat × Bool := if l.all fin then (l, true) else ([], false)
/-! ### what meets in the middle -/
end Go.Proofs.Ytpdnjcblkjjegaa

set_option linter.unusedVariables false
set_option linter.unusedSimpArgs false
set_option maxRecDepth 20000
set_option maxHeartbeats 8000000
namespace Go.Proofs.Ytpdnjcblkjjegaa
open Go.Aw
attribute [local irreducible] QRun LexD AWp TCall TMut

theorem getD_map {f : Nat → Nat} {l : List Nat} {i : Nat} (h : i < l.length) : (l.map f).getD i 0 = f (l.getD i 0) := by simp [List.getD_eq_getElem?_getD, h]
theorem addUp_c (l : List Nat) (hl : l.length ≤ 9223372036854775807) : TCall Try.prog 38 [.fl l] (.t (.f .f32 (sumF l))) [] := by
  refine tcall_of Try.func38 rfl (by kernel_rfl) (Nat.le_of_ble_eq_true rfl) rfl ?_
  simp only [argsL, argAV, argCs, argS]
  refine V3 ?_
  refine awp_loop (X := Nat) (fun i => i ≤ l.length) (fun i => [(3, .t (.f .f32 (sumF (l.take i)))), (6, .arg 0 (.fl l)), (7, .t (.v (.int .i64 l.length))), (8, .t (.v (.int .i64 i)))]) (fun _ => []) (fun i => l.length - i)
    0 ⟨by omega, fun i => i, ⟨rfl, rfl, rfl, rfl, trivial⟩, trivial, injOn_id _⟩ (fun i hi => ?_)
  refine V3 ?_
  refine awp_if rfl (fun h => ?_) (fun h => ?_)
  · simp only [icmp, decide_eq_true_eq] at h
    refine V3 ?_
    exact ⟨i + 1, by omega, by omega, fun i => i, ⟨by unfold sumF; rw [foldl_take (by omega)]; rfl, rfl, rfl, rfl, trivial⟩, trivial, injOn_id _⟩
  · simp only [icmp, decide_eq_false_iff_not] at h
    have : i = l.length := by omega
    subst this
    refine V3 ?_
    refine u_0 ?_
    repeat' (first | exact RetRelL.nil | refine RetRel.nil rfl ?_ | refine RetRelL.cons ?_ ?_ | refine rr_tup ?_ | refine rr_agg ?_ | refine rr_own rfl ?_ | exact RetRel.arg | exact RetRel.argc | refine rr_t ?_)
    rw [List.take_length]
end Go.Proofs.Ytpdnjcblkjjegaa

set_option linter.unusedVariables false
set_option linter.unusedSimpArgs false
set_option maxRecDepth 20000
set_option maxHeartbeats 8000000
namespace Go.Proofs.Ytpdnjcblkjjegaa
open Go.Aw
attribute [local irreducible] QRun LexD AWp TCall TMut

theorem ifAll_t (l : List Nat) (hl : l.length ≤ 9223372036854775807) (h : l.all fin = true) : TCall Try.prog 100 [.fl l] (.tup [.arg 0, .t (.v (.bool true))]) [] := by
  refine tcall_of Try.func100 rfl (by kernel_rfl) (Nat.le_of_ble_eq_true rfl) rfl ?_
  simp only [argsL, argAV, argCs, argS]
  refine V3 ?_
  refine c_q (areFinite_c _ hl) (h := ?_)
  refine V3 ?_
  refine awp_ifF rfl (by rw [h]; rfl) ?_
  refine V3 ?_
  refine u_0 ?_
  repeat' (first | exact RetRelL.nil | refine RetRel.nil rfl ?_ | refine RetRelL.cons ?_ ?_ | refine rr_tup ?_ | refine rr_agg ?_ | refine rr_own rfl ?_ | exact RetRel.arg | exact RetRel.argc | refine rr_t ?_)
  all_goals rfl
theorem ifAll_f (l : List Nat) (hl : l.length ≤ 9223372036854775807) (h : l.all fin = false) : TCall Try.prog 100 [.fl l] (.tup [.t (.v (.slice none 0 0)), .t (.v (.bool false))]) [] := by
  refine tcall_of Try.func100 rfl (by kernel_rfl) (Nat.le_of_ble_eq_true rfl) rfl ?_
  simp only [argsL, argAV, argCs, argS]
  refine V3 ?_
  refine c_q (areFinite_c _ hl) (h := ?_)
  refine V3 ?_
  refine awp_ifT rfl (by rw [h]; rfl) ?_
  refine V3 ?_
  refine u_0 ?_
  repeat' (first | exact RetRelL.nil | refine RetRel.nil rfl ?_ | refine RetRelL.cons ?_ ?_ | refine rr_tup ?_ | refine rr_agg ?_ | refine rr_own rfl ?_ | exact RetRel.arg | exact RetRel.argc | refine rr_t ?_)
  all_goals rfl
theorem l03Given_t (l : List Nat) (hl : l.length ≤ 9223372036854775807) (h : l.all fin = true) : TCall Try.prog 121 [.fl l] (.tup [.arg 0, .t (.v (.bool true))]) [] := by
  refine tcall_of Try.func121 rfl (by kernel_rfl) (Nat.le_of_ble_eq_true rfl) rfl ?_
  simp only [argsL, argAV, argCs, argS]
  refine V3 ?_
  refine c_q (l02Finite_c _ hl) (h := ?_)
  refine V3 ?_
  refine awp_ifF rfl (by rw [h]; rfl) ?_
  refine V3 ?_
  refine u_0 ?_
  repeat' (first | exact RetRelL.nil | refine RetRel.nil rfl ?_ | refine RetRelL.cons ?_ ?_ | refine rr_tup ?_ | refine rr_agg ?_ | refine rr_own rfl ?_ | exact RetRel.arg | exact RetRel.argc | refine rr_t ?_)
  all_goals rfl
theorem l03Given_f (l : List Nat) (hl : l.length ≤ 9223372036854775807) (h : l.all fin = false) : TCall Try.prog 121 [.fl l] (.tup [.t (.v (.slice none 0 0)), .t (.v (.bool false))]) [] := by
  refine tcall_of Try.func121 rfl (by kernel_rfl) (Nat.le_of_ble_eq_true rfl) rfl ?_
  simp only [argsL, argAV, argCs, argS]
  refine V3 ?_
  refine c_q (l02Finite_c _ hl) (h := ?_)
  refine V3 ?_
  refine awp_ifT rfl (by rw [h]; rfl) ?_
  refine V3 ?_
  refine u_0 ?_
  repeat' (first | exact RetRelL.nil | refine RetRel.nil rfl ?_ | refine RetRelL.cons ?_ ?_ | refine rr_tup ?_ | refine rr_agg ?_ | refine rr_own rfl ?_ | exact RetRel.arg | exact RetRel.argc | refine rr_t ?_)
  all_goals rfl

end Go.Proofs.Ytpdnjcblkjjegaa

set_option linter.unusedVariables false
set_option linter.unusedSimpArgs false
set_option maxRecDepth 20000
set_option maxHeartbeats 4000000
namespace Go.Proofs.Ytpdnjcblkjjegaa
open Go.Aw
attribute [local irreducible] QRun LexD AWp TCall TMut

theorem cloneF_c (l : List Nat) (hl : l.length ≤ 4194304) : TCall Try.prog 64 [.fl l] (.own 0 l.length) [(0, .sl 30 (.fl l))] := by
  refine tcall_of Try.func64 rfl (by kernel_rfl) (Nat.le_of_ble_eq_true rfl) rfl ?_
  simp only [argsL, argAV, argCs, argS]
  refine u_q ?_
  refine u_g ?_
  refine w_q ?_
  refine u_n ?_
  refine u_q ?_
  refine u_q ?_
  refine awp_isnil (c := .fl l) tyOk rfl rfl rfl rfl rfl rfl rfl rfl rfl rfl rfl rfl rfl (fun b hb => ?_)
  refine awp_if rfl (fun h => ?_) (fun h => ?_)
  · have h0 : l = [] := List.eq_nil_of_length_eq_zero (hb h)
    subst h0
    refine V3 ?_
    (refine u_1 ?_; (repeat' (first | exact RetRelL.nil | refine RetRel.nil rfl ?_ | refine RetRelL.cons ?_ ?_ | refine rr_tup ?_ | refine rr_agg ?_ | refine rr_own rfl ?_ | exact RetRel.arg | exact RetRel.argc | refine rr_t ?_)); all_goals rfl)
  · refine V3 ?_
    (first | refine a_s (hn := by exact rfl) (h := ?_) | refine b_s (hn := by exact rfl) (h := ?_))
    refine V3 ?_
    refine ret_ok tyOk (by first | exact .inr rfl | exact .inl rfl) (pi1 5) rfl (by repeat (first | exact .nil | (apply ResAl.cons; first | exact .tmp | exact .cell rfl rfl rfl rfl rfl rfl | exact .cell1 rfl rfl rfl rfl rfl))) ?_ ⟨rfl, trivial⟩ (injO_1 _ _ _)
    repeat' (first | exact RetRelL.nil | refine RetRel.nil rfl ?_ | refine RetRelL.cons ?_ ?_ | refine rr_tup ?_ | refine rr_agg ?_ | refine rr_own rfl ?_ | exact RetRel.arg | exact RetRel.argc | refine rr_t ?_)
    all_goals first | rfl | (simp [T.app, T.len]; done)
end Go.Proofs.Ytpdnjcblkjjegaa

set_option linter.unusedVariables false
set_option linter.unusedSimpArgs false
set_option maxRecDepth 20000
set_option maxHeartbeats 8000000
namespace Go.Proofs.Ytpdnjcblkjjegaa
open Go.Aw
attribute [local irreducible] QRun LexD AWp TCall TMut

theorem l01Narrow_c (c : Nat) (h : fconvOk .f64 .f32 c = true) : TCall Try.prog 96 [.f .f64 c] (.t (.f .f32 (fconv .f64 .f32 c))) [] := by
  refine tcall_of Try.func96 rfl (by kernel_rfl) (Nat.le_of_ble_eq_true rfl) rfl ?_
  simp only [argsL, argAV, argCs, argS]
  refine V3 ?_
  (first | (refine w_r (q_cv_ff tyOk rfl rfl rfl rfl rfl (by decide) rfl h) (h := ?_)) | (refine y_r (q_cv_ff tyOk rfl rfl rfl rfl rfl (by decide) rfl h) (h := ?_)))
  refine V3 ?_
  refine u_0 ?_
  repeat' (first | exact RetRelL.nil | refine RetRel.nil rfl ?_ | refine RetRelL.cons ?_ ?_ | refine rr_tup ?_ | refine rr_agg ?_ | refine rr_own rfl ?_ | exact RetRel.arg | exact RetRel.argc | refine rr_t ?_)
  rfl
end Go.Proofs.Ytpdnjcblkjjegaa

