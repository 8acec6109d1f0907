import Derived.Test.YtpdnjcblkjjegaaVT190
import Derived.Test.YtpdnjcblkjjegaaVT192f
import Derived.Test.YtpdnjcblkjjegaaVT28
set_option linter.unusedVariables false
set_option linter.unusedSimpArgs false
set_option maxRecDepth 100000
set_option maxHeartbeats 8000000
namespace Go.Proofs.Ytpdnjcblkjjegaa
open Go.Aw Go.RowKit Go.Shelf

/-! ### a list turned round -/
def rvL (l : List Int) (i : Nat) : List Int := (List.range l.length).map fun t => if t < i ∨ l.length ≤ t + i then l.getD (l.length - 1 - t) 0 else l.getD t 0
theorem rvL_len (l : List Int) (i : Nat) : (rvL l i).length = l.length := by simp [rvL]
theorem rvL_get {l : List Int} {i t : Nat} (h : t < l.length) : (rvL l i).getD t 0 = if t < i ∨ l.length ≤ t + i then l.getD (l.length - 1 - t) 0 else l.getD t 0 := by simp [rvL, List.getD_eq_getElem?_getD, h]
theorem rvL_0 (l : List Int) : l = rvL l 0 := by
  refine List.ext_getElem (by simp [rvL]) fun t h1 h2 => ?_
  simp only [rvL, List.getElem_map, List.getElem_range]
  rw [if_neg (by omega)]
  simp [List.getD_eq_getElem?_getD, h1]
theorem rvL_n {l : List Int} {i : Nat} (h : l.length ≤ 2 * i + 1) : rvL l i = l.reverse := by
  refine List.ext_getElem (by simp [rvL]) fun t h1 h2 => ?_
  rw [rvL_len] at h1
  rw [List.getElem_reverse]
  simp only [rvL, List.getElem_map, List.getElem_range]
  split
  · rw [List.getD_eq_getElem?_getD, List.getElem?_eq_getElem (by omega)]; rfl
  · have e : l.length - 1 - t = t := by omega
    simp only [e]
    rw [List.getD_eq_getElem?_getD, List.getElem?_eq_getElem h1]; rfl
theorem rvL_S {l : List Int} {i : Nat} (h : i < l.length - 1 - i) : ((rvL l i).set i ((rvL l i).getD (l.length - 1 - i) 0)).set (l.length - 1 - i) ((rvL l i).getD i 0) = rvL l (i + 1) := by
  rw [rvL_get (by omega), rvL_get (by omega), if_neg (by omega), if_neg (by omega)]
  refine List.ext_getElem (by simp [rvL]) fun t h1 h2 => ?_
  rw [rvL_len] at h2
  rw [List.getElem_set, List.getElem_set]
  simp only [rvL, List.getElem_map, List.getElem_range]
  by_cases e : l.length - 1 - i = t
  · rw [if_pos e, if_pos (by omega), show l.length - 1 - t = i by omega]
  · rw [if_neg e]
    by_cases e2 : i = t
    · rw [if_pos e2, if_pos (by omega)]; subst e2; rfl
    · rw [if_neg e2]
      by_cases e3 : t < i ∨ l.length ≤ t + i
      · rw [if_pos e3, if_pos (by omega)]
      · rw [if_neg e3, if_neg (by omega)]
attribute [local irreducible] QRun LexD AWp TCall TMut fop fint fcmp fconv
theorem iE7 {a b : Int} (h : a = b) : AV.t (.v (.int .i64 a)) = AV.t (.v (.int .i64 b)) := by rw [h]
theorem reverse_c (l : List Int) (h : 1 ≤ l.length ∧ l.length ≤ 1048576) :
    TMut Try.prog 46 [.argo 0 900 0 l.length] [(900, .sl 2 (.il l))] (.tup []) [(900, .sl 2 (.il l.reverse))] [] := by
  refine tmut_of Try.func46 rfl (by kernel_rfl) (Nat.le_of_ble_eq_true rfl) rfl ?_
  simp only [slotsL]
  repeat (first | refine w_q ?_ | refine w_s ?_ | refine w_t ?_ | refine w_k ?_ | refine y_q ?_ | refine y_s ?_ | refine y_t ?_ | refine y_k ?_ | refine u_n ?_ | refine u_q ?_ | refine u_g ?_ | refine u_d ?_ | refine u_b ?_ | refine u_x ?_ | refine u_r ?_ | refine u_s ?_)
  refine awp_loop (X := Nat) (fun i => 2 * i ≤ l.length) (fun i => [(0, .argo 0 900 0 l.length), (2, .t (.v (.int .i64 (i : Nat)))), (3, .t (.v (.int .i64 ((l.length : Int) - 1 - (i : Int)))))])
    (fun i => [(900, .sl 2 (.il (rvL l i)))]) (fun i => l.length - i)
    0 ⟨by omega, fun i => i, ⟨rfl, rfl, iE7 (by omega), trivial⟩, ⟨sl_eq (congrArg T.il (rvL_0 l)), trivial⟩, injOn_id _⟩ (fun i hi => ?_)
  have hl := rvL_len l i
  repeat (first | refine w_q ?_ | refine w_s ?_ | refine w_t ?_ | refine w_k ?_ | refine y_q ?_ | refine y_s ?_ | refine y_t ?_ | refine y_k ?_ | refine u_n ?_ | refine u_q ?_ | refine u_g ?_ | refine u_d ?_ | refine u_b ?_ | refine u_x ?_ | refine u_r ?_ | refine u_s ?_)
  refine awp_if rfl (fun g => ?_) (fun g => ?_)
  · simp only [icmp, decide_eq_true_eq] at g
    have hij : i < l.length - 1 - i := by omega
    have hst := rvL_S hij
    have hsl : ((rvL l i).set (0 + i) ((rvL l i).getD (0 + (l.length - 1 - i)) 0)).length = l.length := by rw [List.length_set, hl]
    repeat (first | refine w_q ?_ | refine w_s ?_ | refine w_t ?_ | refine w_k ?_ | refine y_q ?_ | refine y_s ?_ | refine y_t ?_ | refine y_k ?_ | refine u_n ?_ | refine u_q ?_ | refine u_g ?_ | refine u_d ?_ | refine u_b ?_ | refine u_x ?_ | refine u_r ?_ | refine u_s ?_ | (first | (refine w_r (q_idx_own (l.length - 1 - i) tyOk rfl rfl rfl rfl rfl rfl rfl (by omega) (by first | omega | (simp only [T.len]; omega) | assumption)) (h := ?_)) | (refine y_r (q_idx_own (l.length - 1 - i) tyOk rfl rfl rfl rfl rfl rfl rfl (by omega) (by first | omega | (simp only [T.len]; omega) | assumption)) (h := ?_))) | (first | (refine w_r (q_idx_own (i) tyOk rfl rfl rfl rfl rfl rfl rfl (by omega) (by first | omega | (simp only [T.len]; omega) | assumption)) (h := ?_)) | (refine y_r (q_idx_own (i) tyOk rfl rfl rfl rfl rfl rfl rfl (by omega) (by first | omega | (simp only [T.len]; omega) | assumption)) (h := ?_))))
    exact ⟨i + 1, by omega, by omega, fun i => i, ⟨rfl, iE7 (by omega), iE7 (by omega), trivial⟩, ⟨sl_eq (congrArg T.il (by simp only [Nat.zero_add]; exact hst)), trivial⟩, injOn_id _⟩
  simp only [icmp, decide_eq_false_iff_not] at g
  rw [rvL_n (by omega)]
  repeat (first | refine w_q ?_ | refine w_s ?_ | refine w_t ?_ | refine w_k ?_ | refine y_q ?_ | refine y_s ?_ | refine y_t ?_ | refine y_k ?_ | refine u_n ?_ | refine u_q ?_ | refine u_g ?_ | refine u_d ?_ | refine u_b ?_ | refine u_x ?_ | refine u_r ?_ | refine u_s ?_)
  refine mret_ok tyOk (by first | exact .inr rfl | exact .inl rfl) (piA 900 900) rfl .nil ?_ ⟨rfl, trivial⟩ (injO_1 _ _ _) (held1 0 0 900 0 _ 0 _ rfl rfl rfl)
  exact rr_tup .nil
theorem first_c (l : List Nat) (h : l.length ≤ 1048576) : TCall Try.prog 44 [.fl l] (.t (.v (.int .i64 (fsI l l.length : Nat)))) [] := by
  refine tcall_of Try.func44 rfl (by kernel_rfl) (Nat.le_of_ble_eq_true rfl) rfl ?_
  simp only [argsL, argAV, argCs, argS]
  repeat (first | refine w_q ?_ | refine w_s ?_ | refine w_t ?_ | refine w_k ?_ | refine y_q ?_ | refine y_s ?_ | refine y_t ?_ | refine y_k ?_ | refine u_n ?_ | refine u_q ?_ | refine u_g ?_ | refine u_d ?_ | refine u_b ?_ | refine u_x ?_ | refine u_r ?_ | refine u_s ?_)
  refine awp_loop (X := Nat) (fun k => k ≤ l.length) (fun k => [(0, .arg 0 (.fl l)), (3, .t (.v (.int .i64 (fsI l k : Nat)))), (6, .arg 0 (.fl l)), (7, .t (.v (.int .i64 l.length))), (8, .t (.v (.int .i64 (k : Nat))))])
    (fun k => []) (fun k => l.length - k)
    0 ⟨by omega, fun i => i, ⟨rfl, rfl, rfl, rfl, rfl, trivial⟩, trivial, injOn_id _⟩ (fun k hk => ?_)
  have hfl := fsI_le l k
  repeat (first | refine w_q ?_ | refine w_s ?_ | refine w_t ?_ | refine w_k ?_ | refine y_q ?_ | refine y_s ?_ | refine y_t ?_ | refine y_k ?_ | refine u_n ?_ | refine u_q ?_ | refine u_g ?_ | refine u_d ?_ | refine u_b ?_ | refine u_x ?_ | refine u_r ?_ | refine u_s ?_)
  refine awp_if rfl (fun g => ?_) (fun g => ?_)
  · simp only [icmp, decide_eq_true_eq] at g
    have hkn : k < l.length := by omega
    repeat (first | refine w_q ?_ | refine w_s ?_ | refine w_t ?_ | refine w_k ?_ | refine y_q ?_ | refine y_s ?_ | refine y_t ?_ | refine y_k ?_ | refine u_n ?_ | refine u_q ?_ | refine u_g ?_ | refine u_d ?_ | refine u_b ?_ | refine u_x ?_ | refine u_r ?_ | refine u_s ?_)
    try (first | (refine w_r (q_idx_tree (k) tyOk rfl rfl rfl rfl rfl rfl rfl rfl (by omega) (by first | omega | (simp only [T.len]; omega) | assumption)) (h := ?_)) | (refine y_r (q_idx_tree (k) tyOk rfl rfl rfl rfl rfl rfl rfl rfl (by omega) (by first | omega | (simp only [T.len]; omega) | assumption)) (h := ?_)))
    repeat (first | refine w_q ?_ | refine w_s ?_ | refine w_t ?_ | refine w_k ?_ | refine y_q ?_ | refine y_s ?_ | refine y_t ?_ | refine y_k ?_ | refine u_n ?_ | refine u_q ?_ | refine u_g ?_ | refine u_d ?_ | refine u_b ?_ | refine u_x ?_ | refine u_r ?_ | refine u_s ?_)
    try (first | (refine w_r (q_idx_tree (fsI l k) tyOk rfl rfl rfl rfl rfl rfl rfl rfl (by omega) (by first | omega | (simp only [T.len]; omega) | assumption)) (h := ?_)) | (refine y_r (q_idx_tree (fsI l k) tyOk rfl rfl rfl rfl rfl rfl rfl rfl (by omega) (by first | omega | (simp only [T.len]; omega) | assumption)) (h := ?_)))
    repeat (first | refine w_q ?_ | refine w_s ?_ | refine w_t ?_ | refine w_k ?_ | refine y_q ?_ | refine y_s ?_ | refine y_t ?_ | refine y_k ?_ | refine u_n ?_ | refine u_q ?_ | refine u_g ?_ | refine u_d ?_ | refine u_b ?_ | refine u_x ?_ | refine u_r ?_ | refine u_s ?_)
    refine awp_if rfl (fun g3 => ?_) (fun g3 => ?_)
    · repeat (first | refine w_q ?_ | refine w_s ?_ | refine w_t ?_ | refine w_k ?_ | refine y_q ?_ | refine y_s ?_ | refine y_t ?_ | refine y_k ?_ | refine u_n ?_ | refine u_q ?_ | refine u_g ?_ | refine u_d ?_ | refine u_b ?_ | refine u_x ?_ | refine u_r ?_ | refine u_s ?_)
      exact ⟨k + 1, by omega, by omega, fun i => i, ⟨rfl, iE7 (by rw [fsI_t g3]), rfl, rfl, rfl, trivial⟩, trivial, injOn_id _⟩
    · repeat (first | refine w_q ?_ | refine w_s ?_ | refine w_t ?_ | refine w_k ?_ | refine y_q ?_ | refine y_s ?_ | refine y_t ?_ | refine y_k ?_ | refine u_n ?_ | refine u_q ?_ | refine u_g ?_ | refine u_d ?_ | refine u_b ?_ | refine u_x ?_ | refine u_r ?_ | refine u_s ?_)
      exact ⟨k + 1, by omega, by omega, fun i => i, ⟨rfl, iE7 (by rw [fsI_f g3]), rfl, rfl, rfl, trivial⟩, trivial, injOn_id _⟩
  simp only [icmp, decide_eq_false_iff_not] at g
  obtain rfl : k = l.length := by omega
  repeat (first | refine w_q ?_ | refine w_s ?_ | refine w_t ?_ | refine w_k ?_ | refine y_q ?_ | refine y_s ?_ | refine y_t ?_ | refine y_k ?_ | refine u_n ?_ | refine u_q ?_ | refine u_g ?_ | refine u_d ?_ | refine u_b ?_ | refine u_x ?_ | refine u_r ?_ | refine u_s ?_)
  (refine u_0 ?_; (repeat' (first | exact RetRelL.nil | refine RetRel.nil rfl ?_ | refine RetRelL.cons ?_ ?_ | refine rr_tup ?_ | refine rr_agg ?_ | refine rr_own rfl ?_ | exact RetRel.arg | exact RetRel.argc | refine rr_t ?_)); all_goals rfl)
end Go.Proofs.Ytpdnjcblkjjegaa

set_option linter.unusedVariables false
set_option linter.unusedSimpArgs false
set_option maxRecDepth 100000
set_option maxHeartbeats 8000000
namespace Go.Proofs.Ytpdnjcblkjjegaa
open Go.Aw Go.RowKit Go.Shelf
attribute [local go_sem] Oper.semAt_some

/-! ### slices.Backward -/
theorem backward_in (n : Nat) (a : Option Addr) (len cap : Nat) (w : World) :
    CallsIn Fence.wide n Try.prog 45 #[.slice a len cap] w fun e w' =>
      e = .returned (.func (.func 88) #[] #[.pointer (some ⟨w.heap.size, 0, none⟩)]) ∧ w' = w.alloc (.cells #[.slice a len cap] 64) := by
  refine callsIn_of_wp Try.func45 rfl trivial ?_ rfl
  simp only [Try.ntmps45, List.size_toArray, List.length_cons, List.length_nil, Nat.reduceAdd, Nat.reduceSub, Array.replicate_succ, Array.replicate_zero, List.push_toArray, List.append_toArray, List.nil_append, List.cons_append]
  gi_wp2
  go_ret
  exact ⟨rfl, rfl⟩
def fall (m j : Nat) : List Nat := (List.range j).map (m - 1 - ·)
theorem fall_S (m j : Nat) : fall m (j + 1) = fall m j ++ [m - 1 - j] := by simp [fall, List.range_succ]
def KpB (Bs b : Nat) (W W' : World) : Prop := W'.heap[Bs]? = W.heap[Bs]? ∧ W'.heap[b]? = W.heap[b]?
theorem kpb_t {Bs b : Nat} {A B C : World} (h : KpB Bs b A B) (k : KpB Bs b B C) : KpB Bs b A C := ⟨k.1.trans h.1, k.2.trans h.2⟩
theorem kpb_cell {Bs b : Nat} {W W' : World} (h : KpB Bs b W W') (o : Nat) : W'.cell? ⟨Bs, o, none⟩ = W.cell? ⟨Bs, o, none⟩ ∧ W'.cell? ⟨b, o, none⟩ = W.cell? ⟨b, o, none⟩ := by
  constructor
  · simp [World.cell?, h.1]
  · simp [World.cell?, h.2]
theorem backward1_in (n : Nat) (hn : 1 ≤ n) (l Bs b off cap m : Nat) (hm : m ≤ 1000) (ad : Option Addr) (V : Fin m → Value) (hb : 0 < m → ad = some ⟨b, off, none⟩) (hcap : m ≤ cap) (J Jx : List (Fin m) → World → Prop) (hJd : ∀ pre W, J pre W → J pre W.drew)
    (hY : ∀ pre x W, J pre W → pre.length < m → YieldAt Fence.wide (n - 1) Try.prog l #[.int .i64 (x.1 : Nat), V x] W fun e W' =>
      (e = .returned (.bool true) ∧ J (pre ++ [x]) W' ∧ KpB Bs b W W') ∨ (e = .returned (.bool false) ∧ Jx (pre ++ [x]) W'))
    (W : World) (hcs : W.cell? ⟨Bs, 0, none⟩ = some (.slice ad m cap)) (hV : ∀ x : Fin m, W.cell? ⟨b, off + x.1, none⟩ = some (V x)) (h0 : J [] W) :
    CallsIn Fence.wide n Try.prog 88 #[.func (.yield l) #[] #[], .pointer (some ⟨Bs, 0, none⟩)] W fun e W' => (∃ v, e = .returned v) ∧
      ((∃ ys : List (Fin m), ys.map (·.1) = fall m m ∧ J ys W') ∨ (∃ pre : List (Fin m), True ∧ Jx pre W')) := by
  refine callsIn_of_wp Try.func88 rfl trivial ?_ rfl
  simp only [Try.ntmps88, List.size_toArray, List.length_cons, List.length_nil, Nat.reduceAdd, Nat.reduceSub, Array.replicate_succ, Array.replicate_zero, List.push_toArray, List.append_toArray, List.nil_append, List.cons_append]
  gi_wp2
  gi_loopw [3] (fun i wr => ∃ (k : Nat) (pre : List (Fin m)), k ≤ m ∧ i = .int .i64 ((m : Int) - 1 - (k : Int)) ∧ pre.length = k ∧ pre.map (·.1) = fall m k ∧ J pre wr ∧ KpB Bs b W wr)
    (fun i _ => ((intOf i) + 1).toNat)
  case atStart => exact ⟨0, [], Nat.zero_le _, by simp, rfl, rfl, h0, rfl, rfl⟩
  case round =>
    obtain ⟨k, pre, hk, hi, hpl, hin, hJs, hnx⟩ := hrel
    have hcs1 : wr.cell? ⟨Bs, 0, none⟩ = some (.slice ad m cap) := (kpb_cell hnx 0).1.trans hcs
    rcases Nat.lt_or_ge k m with hkm | hkm
    · obtain ⟨x, hxe⟩ : ∃ x : Fin m, m - 1 - k = x.1 := ⟨⟨m - 1 - k, by omega⟩, rfl⟩
      have hx : (m : Int) - 1 - (k : Int) = ((x.1 : Nat) : Int) := by omega
      rw [hx] at hi
      subst hi
      have had := hb (by omega)
      subst had
      have hVx : wr.cell? ⟨b, off + x.1, none⟩ = some (V x) := (kpb_cell hnx _).2.trans (hV x)
      have hlt := x.2
      have hge : decide ((0 : Int) ≤ ((x.1 : Nat) : Int)) = true := decide_eq_true (by omega)
      obtain ⟨fn, tmps, assign, body, hy, hR⟩ := hY pre x wr hJs (by omega)
      gi_wp2
      refine hR.mono ?_
      rintro e W3 (⟨rfl, hJ3, hk3⟩ | ⟨rfl, hJx3⟩)
      · gi_wp2
        go_roundw
        case rel => exact ⟨k + 1, pre ++ [x], by omega, by rw [← hx]; simp; omega, by simp [hpl], by rw [List.map_append, hin, fall_S, hxe]; rfl, hJ3, kpb_t hnx hk3⟩
        case measure => simp [intOf]
      · gi_wp2
        refine bodyPost_ret (results_none rfl _ _ _) rfl ?_
        exact ⟨⟨_, rfl⟩, .inr ⟨_, trivial, hJx3⟩⟩
    · obtain rfl : k = m := by omega
      have hx : (k : Int) - 1 - (k : Int) = -1 := by omega
      rw [hx] at hi
      subst hi
      gi_wp2
      go_end0
      exact ⟨⟨_, rfl⟩, .inl ⟨pre, hin, hJs⟩⟩
theorem backward_stops (n : Nat) (hn : 1 ≤ n) (Bs b off cap m : Nat) (hm : m ≤ 1000) (ad : Option Addr) (V : Fin m → Value) (hcap : m ≤ cap) (w : World) (hb : 0 < m → ad = some ⟨b, off, none⟩ ∧ b < w.heap.size) (hBs : Bs < w.heap.size)
    (hcs : w.cell? ⟨Bs, 0, none⟩ = some (.slice ad m cap)) (hV : ∀ x : Fin m, w.cell? ⟨b, off + x.1, none⟩ = some (V x)) :
    SeqStopsK Fence.wide n Try.prog 88 #[.pointer (some ⟨Bs, 0, none⟩)] (fun x : Fin m => #[.int .i64 (x.1 : Nat), V x]) (KpB Bs b) (fun ys => ys.map (·.1) = fall m m) (fun _ => True) m w := fun l J Jx W hW hJ hJx hY h0 => by
  have hcs' := (hW.cell (p := ⟨Bs, 0, none⟩) hBs).trans hcs
  have hJd : ∀ pre W', J pre W' → J pre W'.drew := fun pre W' hj => hJ pre W' W'.drew none hj ⟨rfl, rfl, rfl, Nat.le_refl _, fun _ _ _ => rfl⟩ (fun r e => by cases e)
  exact backward1_in n hn l Bs b off cap m hm ad V (fun h => (hb h).1) hcap J Jx hJd hY W hcs' (fun x => (hW.cell (p := ⟨b, off + x.1, none⟩) (hb (by have := x.2; omega)).2).trans (hV x)) h0
/-- a call of Backward: a function over a box that holds the slice -/
theorem q_back {o : Oper} {F : List Nat} {ρ : Fr} {η : Hp} {x : Operand} {tys : Array TypeId} {d id n : Nat} (hi : id ≠ d)
    (ho : o.op = .call { callee := .value (.func 45), args := #[x], argTypes := tys }) (hd : o.dst = some d) (hx : evA ρ x = .own id 0 n) :
    QRun Try.prog o F [d] ρ η (.fn 88 [.bp d 0]) (lkH [(d, .box 64 [.own id 0 n])]) := by
  intro vs w0 μ η' a w Q K h1 h2 h3 h4
  have hv := h3 x (by simp [ho, Op.operands, Call.operands])
  rw [hx] at hv
  have hv0 := hv
  rw [VR] at hv
  obtain ⟨ad, len, cap, hy⟩ : ∃ ad len cap, a.eval x = .slice ad len cap := by
    rcases hv with ⟨_, _, _, h⟩ | ⟨b, cap, e, m, _, h, _⟩
    · exact ⟨_, _, _, h⟩
    · exact ⟨_, _, _, h⟩
  have hcs := callsIn_wide.1 (backward_in 6 ad len cap w)
  rw [← hy] at hcs
  have hrun : (execOp a.eval o).run Try.prog w = .ok (.enter 45 #[a.eval x]) w := by
    simp [execOp, ho, resolve, Deferred.ofValue, invoke, Act.eval, invoke_run (P := Try.prog) (f := 45) Try.func45 rfl (by kernel_rfl)]
  unfold Oper.wp
  rw [hrun, Oper.upon_enter]
  refine hcs.mono ?_
  rintro ex w' ⟨rfl, rfl⟩
  simp only []
  have hbel : Below w.heap.size w (w.alloc (.cells #[a.eval x] 64)) := (Below.refl _ w).alloc (Nat.le_refl _) _
  have hw : (w.alloc (.cells #[a.eval x] 64)).heap[w.heap.size]? = some (.cells #[a.eval x] 64 (0, 0)) := World.alloc_heap_new w _
  obtain ⟨hc', hk⟩ := HC_new (i := d) (b := w.heap.size) (B := .box 64 [.own id 0 n]) h2 hbel (Nat.le_refl _) fun hk => by
    refine ⟨w.heap.size, _, by simp [updM], .inl h2.below.size, hw, ?_⟩
    rw [VRl]
    refine ⟨_, _, rfl, VR.mono hk _ _ (fun i hi' h => ?_) hv0, by rw [VRl]⟩
    simp only [AV.refs, List.mem_singleton] at hi' h
    omega
  exact h4 _ _ _ hc' hk (by rw [VR]; exact ⟨_, rfl, by rw [VRl]; exact ⟨_, _, rfl, by rw [VR]; exact ⟨_, by simp [updM], rfl⟩, by rw [VRl]⟩⟩)
end Go.Proofs.Ytpdnjcblkjjegaa

