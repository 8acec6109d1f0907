import Derived.Test.YtpdnjcblkjjegaaVT191
import Derived.Test.YtpdnjcblkjjegaaVT192e
set_option linter.unusedVariables false
set_option linter.unusedSimpArgs false
set_option maxRecDepth 100000
set_option maxHeartbeats 16000000
namespace Go.Proofs.Ytpdnjcblkjjegaa
open Go.Aw Go.RowKit Go.Shelf

/-! ### the likeliest way, the program's -/
theorem retQ_postG {P : Program} {n N : Nat} {fn : Func} {rv : RV} {hs : List (Nat × Blk)} {args : List Value} {w : World} (hbox : noBox hs = true) (e : Exit) (ρ : Fr) (η : Hp) (μ : Nat → Option Nat) (a' : Act) (w' : World) (hq : RetQ P fn rv hs e ρ η) (hst : StR ⟨args, w.heap.size, noLoan⟩ N w μ ρ η a' w') :
    bodyPostM Fence.wide n P fn (fun e w' => ∃ y μ, e = .returned y ∧ HC ⟨args, w.heap.size, noLoan⟩ w μ (lkH hs) w' ∧ RRel args w' μ (okF ⟨args, w.heap.size, noLoan⟩ (okOf μ (lkH hs))) rv y) e a' w' := by
  obtain ⟨he, v, π, hR, hrel, hwk, hinj⟩ := hq
  obtain ⟨y, hy, hv⟩ := hR _ _ _ _ _ _ hst
  have hok : ∀ b, okOf μ η b → okOf (fun j => (π j).bind μ) (lkH hs) b := fun b hb i hi => by
    obtain ⟨B, hB⟩ := Option.isSome_iff_exists.1 hi
    have := wkO_lk hwk i B hB
    cases hp : π i with
    | none => simp [hp]
    | some id => rw [hp] at this; simp only [hp, Option.bind_some]; exact hb id (by rw [this]; rfl)
  have fin : ∃ v, (results fn a'.tmps).run P w' = .ok v w' ∧ ∃ y μ, (Ending.returned v) = .returned y ∧ HC ⟨args, w.heap.size, noLoan⟩ w μ (lkH hs) w' ∧ RRel args w' μ (okF ⟨args, w.heap.size, noLoan⟩ (okOf μ (lkH hs))) rv y := by
    refine ⟨y, hy, y, fun j => (π j).bind μ, rfl, ⟨rfl, hst.hc.below, fun i B hB => ?_, fun i j b hi hj h1 h2 => ?_⟩, ?_⟩
    · have hw := wkO_lk hwk i B hB
      obtain ⟨e0, c0, rfl⟩ := noBox_lk hbox i B hB
      cases hp : π i with
      | none =>
        rw [hp] at hw
        obtain ⟨e, c, heq, h1, h2⟩ := hw
        cases heq
        exact ⟨h1, .inl ⟨by simp [hp], h2⟩⟩
      | some id =>
        rw [hp] at hw
        obtain ⟨g0, g⟩ := hst.hc.blk id _ hw
        refine ⟨g0, ?_⟩
        simp only [hp, Option.bind_some]
        refine Or.imp (fun x => x) ?_ g
        rintro ⟨b, cs, h1, h2, h3, h4, h5⟩
        exact ⟨b, cs, h1, h2, h3, h4, TRl.mono (fun b hb hk => ⟨hb, ⟨hok b hk.1, hk.2⟩, rfl⟩) _ _ h5⟩
    · obtain ⟨B, hB⟩ := Option.isSome_iff_exists.1 hi
      obtain ⟨B', hB'⟩ := Option.isSome_iff_exists.1 hj
      have hwi := wkO_lk hwk i B hB
      have hwj := wkO_lk hwk j B' hB'
      cases hpi : π i with
      | none => simp [hpi] at h1
      | some a =>
        cases hpj : π j with
        | none => simp [hpj] at h2
        | some a' =>
          rw [hpi] at hwi; rw [hpj] at hwj
          simp only [hpi, Option.bind_some] at h1
          simp only [hpj, Option.bind_some] at h2
          have := hst.hc.inj a a' b (by rw [hwi]; rfl) (by rw [hwj]; rfl) h1 h2
          subst this
          exact hinj i j a hi hj hpi hpj
    · exact retRel_RRel hok hrel hv
  have hd := hst.defers
  rcases he with rfl | rfl <;> (simp only [bodyPostM, hd, LeavesInM, LeavesIn]; exact fin)
theorem tcall_mk {P : Program} {f : FuncId} {ts : List T} {rv : RV} {hs : List (Nat × Blk)} (he : Go.Aw.Enters P f) (h : ∀ (w : World) (args : List Value), TRl w (fun _ => True) ts args → Calls P f args.toArray w fun e w' =>
    ∃ y μ, e = .returned y ∧ HC ⟨args, w.heap.size, noLoan⟩ w μ (lkH hs) w' ∧ RRel args w' μ (okF ⟨args, w.heap.size, noLoan⟩ (okOf μ (lkH hs))) rv y) : TCall P f ts rv hs := ⟨he, h⟩
theorem fE1' {a b : Nat} (h : a = b) : AV.t (.f .f32 a) = AV.t (.f .f32 b) := by rw [h]
theorem iE1' {a b : Int} (h : a = b) : AV.t (.v (.int .i64 a)) = AV.t (.v (.int .i64 b)) := by rw [h]
/-- where the ways came from, as they are found -/
def frI (d B : List Nat) (n k v : Nat) : List Int := (List.range n).map fun j => if j < k then ((wyI d B n j n : Nat) : Int) else if j = k then ((v : Nat) : Int) else 0
theorem frI_len (d B : List Nat) (n k v : Nat) : (frI d B n k v).length = n := by simp [frI]
theorem frI_0 (d B : List Nat) (n : Nat) : List.replicate n 0 = frI d B n 0 0 := by
  refine List.ext_getElem (by simp [frI]) fun j h1 h2 => ?_
  simp only [frI, List.getElem_map, List.getElem_range, List.getElem_replicate]
  rw [if_neg (by omega)]
  split <;> simp
theorem frI_set {d B : List Nat} {n k v i : Nat} (h : k < n) : (frI d B n k v).set k ((i : Nat) : Int) = frI d B n k i := by
  refine List.ext_getElem (by simp [frI]) fun j h1 h2 => ?_
  rw [List.getElem_set]
  simp only [frI, List.getElem_map, List.getElem_range]
  by_cases e : k = j
  · subst e; simp
  · have e' : ¬ j = k := fun h => e h.symm
    simp only [e, e', if_false]
theorem frI_next {d B : List Nat} {n k : Nat} : frI d B n k (wyI d B n k n) = frI d B n (k + 1) 0 := by
  unfold frI
  refine List.map_congr_left fun j hj => ?_
  by_cases h1 : j < k
  · rw [if_pos h1, if_pos (by omega)]
  · by_cases h2 : j = k
    · subst h2; rw [if_neg h1, if_pos rfl, if_pos (by omega)]
    · rw [if_neg h1, if_neg h2, if_neg (by omega)]
      split <;> simp
theorem frI_all {d B : List Nat} {n : Nat} : frI d B n n 0 = wyF d B n := by
  unfold frI wyF
  refine List.map_congr_left fun j hj => ?_
  rw [if_pos (List.mem_range.1 hj)]
theorem wyZ_mix (a b d B : List Nat) (x : Nat) : mxL (wyX a b d B x) (List.replicate a.length 0) a.length = wyZ a b d B x := by
  rw [mxL_all _ (by simp), List.length_replicate]; rfl
attribute [local irreducible] QRun LexD AWp TCall TMut fop fint fcmp fconv exN wgt
theorem implWay_c (a b c d s : List Nat) (fb : ∀ x ∈ b, F32 x) (h : a.length ≤ 9223372036854775807 ∧ b.length ≤ 9223372036854775807 ∧ c.length ≤ 9223372036854775807 ∧ d.length ≤ 9223372036854775807) (h_s : s.length ≤ 9223372036854775807) :
    TCall Try.prog 12 [R4 a b c d, .fl s] (wayRR (wayF a b c d s)) (wayHH (wayF a b c d s)) := by
  have hfm := famOk_no
  have bad := @wayF_not a b c d s
  refine tcall_mk ⟨_, Try.func12, rfl, by kernel_rfl⟩ fun w args hargs => (callsIn_wide (n := 6)).1 (callsIn_of_wp_marks Try.func12 rfl trivial (wpIn_wide.2 (awx_start hargs (Nat.le_of_ble_eq_true rfl) ?_)) rfl)
  simp only [argsL, argAV, argCs, argS]
  refine awx_seq (RetQ _ _ _ _) (fun e ρ' η' μ' a' w' _ q s => retQ_postG (by rfl) e ρ' η' μ' a' w' q s) ?_
  repeat (first | refine w_q ?_ | refine w_s ?_ | refine w_t ?_ | refine w_k ?_ | refine y_q ?_ | refine y_s ?_ | refine y_t ?_ | refine y_k ?_ | refine u_n ?_ | refine u_q ?_ | refine u_g ?_ | refine u_d ?_ | refine u_b ?_ | refine u_x ?_ | refine u_r ?_ | refine u_s ?_ | refine w_r (q_build tyOk rfl rfl rfl rfl rfl rfl rfl rfl) (h := ?_) | refine y_r (q_build tyOk rfl rfl rfl rfl rfl rfl rfl rfl) (h := ?_))
  refine awx_seq (RetQ _ _ _ _) (fun e ρ' η' μ' a' w' _ q s => retQ_postG (by rfl) e ρ' η' μ' a' w' q s) ?_
  repeat (first | refine w_q ?_ | refine w_s ?_ | refine w_t ?_ | refine w_k ?_ | refine y_q ?_ | refine y_s ?_ | refine y_t ?_ | refine y_k ?_ | refine u_n ?_ | refine u_q ?_ | refine u_g ?_ | refine u_d ?_ | refine u_b ?_ | refine u_x ?_ | refine u_r ?_ | refine u_s ?_ | refine w_r (q_build tyOk rfl rfl rfl rfl rfl rfl rfl rfl) (h := ?_) | refine y_r (q_build tyOk rfl rfl rfl rfl rfl rfl rfl rfl) (h := ?_))
  (first | refine c_q (implValR_c a b c d h) (h := ?_) | refine z_q (implValR_c a b c d h) (h := ?_))
  repeat (first | refine w_q ?_ | refine w_s ?_ | refine w_t ?_ | refine w_k ?_ | refine y_q ?_ | refine y_s ?_ | refine y_t ?_ | refine y_k ?_ | refine u_n ?_ | refine u_q ?_ | refine u_g ?_ | refine u_d ?_ | refine u_b ?_ | refine u_x ?_ | refine u_r ?_ | refine u_s ?_ | refine w_r (q_build tyOk rfl rfl rfl rfl rfl rfl rfl rfl) (h := ?_) | refine y_r (q_build tyOk rfl rfl rfl rfl rfl rfl rfl rfl) (h := ?_))
  refine lex_if rfl rfl rfl (fun h0 => ?_) (fun h0 => ?_)
  · simp only [Bool.not_eq_true'] at h0
    repeat (first | refine w_q ?_ | refine w_s ?_ | refine w_t ?_ | refine w_k ?_ | refine y_q ?_ | refine y_s ?_ | refine y_t ?_ | refine y_k ?_ | refine u_n ?_ | refine u_q ?_ | refine u_g ?_ | refine u_d ?_ | refine u_b ?_ | refine u_x ?_ | refine u_r ?_ | refine u_s ?_ | refine w_r (q_build tyOk rfl rfl rfl rfl rfl rfl rfl rfl) (h := ?_) | refine y_r (q_build tyOk rfl rfl rfl rfl rfl rfl rfl rfl) (h := ?_))
    refine awp_ifT rfl rfl ?_
    repeat (first | refine w_q ?_ | refine w_s ?_ | refine w_t ?_ | refine w_k ?_ | refine y_q ?_ | refine y_s ?_ | refine y_t ?_ | refine y_k ?_ | refine u_n ?_ | refine u_q ?_ | refine u_g ?_ | refine u_d ?_ | refine u_b ?_ | refine u_x ?_ | refine u_r ?_ | refine u_s ?_ | refine w_r (q_build tyOk rfl rfl rfl rfl rfl rfl rfl rfl) (h := ?_) | refine y_r (q_build tyOk rfl rfl rfl rfl rfl rfl rfl rfl) (h := ?_))
    rw [bad (fun hc => by rw [h0] at hc; cases hc.1)]
    (refine u_1 ?_; (repeat' (first | exact RetRelL.nil | refine RetRel.nil rfl ?_ | refine RetRelL.cons ?_ ?_ | refine rr_tup ?_ | refine rr_agg ?_ | refine rr_own rfl ?_ | exact RetRel.arg | exact RetRel.argc | refine rr_t ?_)); all_goals rfl)
  simp only [Bool.not_eq_false'] at h0
  repeat (first | refine w_q ?_ | refine w_s ?_ | refine w_t ?_ | refine w_k ?_ | refine y_q ?_ | refine y_s ?_ | refine y_t ?_ | refine y_k ?_ | refine u_n ?_ | refine u_q ?_ | refine u_g ?_ | refine u_d ?_ | refine u_b ?_ | refine u_x ?_ | refine u_r ?_ | refine u_s ?_ | refine w_r (q_build tyOk rfl rfl rfl rfl rfl rfl rfl rfl) (h := ?_) | refine y_r (q_build tyOk rfl rfl rfl rfl rfl rfl rfl rfl) (h := ?_))
  (first | refine c_q (implSer_c s h_s) (h := ?_) | refine z_q (implSer_c s h_s) (h := ?_))
  repeat (first | refine w_q ?_ | refine w_s ?_ | refine w_t ?_ | refine w_k ?_ | refine y_q ?_ | refine y_s ?_ | refine y_t ?_ | refine y_k ?_ | refine u_n ?_ | refine u_q ?_ | refine u_g ?_ | refine u_d ?_ | refine u_b ?_ | refine u_x ?_ | refine u_r ?_ | refine u_s ?_ | refine w_r (q_build tyOk rfl rfl rfl rfl rfl rfl rfl rfl) (h := ?_) | refine y_r (q_build tyOk rfl rfl rfl rfl rfl rfl rfl rfl) (h := ?_))
  refine awp_if rfl (fun h1 => ?_) (fun h1 => ?_)
  · simp only [Bool.not_eq_true'] at h1
    repeat (first | refine w_q ?_ | refine w_s ?_ | refine w_t ?_ | refine w_k ?_ | refine y_q ?_ | refine y_s ?_ | refine y_t ?_ | refine y_k ?_ | refine u_n ?_ | refine u_q ?_ | refine u_g ?_ | refine u_d ?_ | refine u_b ?_ | refine u_x ?_ | refine u_r ?_ | refine u_s ?_ | refine w_r (q_build tyOk rfl rfl rfl rfl rfl rfl rfl rfl) (h := ?_) | refine y_r (q_build tyOk rfl rfl rfl rfl rfl rfl rfl rfl) (h := ?_))
    rw [bad (fun hc => by rw [h1] at hc; cases hc.2.1)]
    (refine u_1 ?_; (repeat' (first | exact RetRelL.nil | refine RetRel.nil rfl ?_ | refine RetRelL.cons ?_ ?_ | refine rr_tup ?_ | refine rr_agg ?_ | refine rr_own rfl ?_ | exact RetRel.arg | exact RetRel.argc | refine rr_t ?_)); all_goals rfl)
  simp only [Bool.not_eq_false'] at h1
  obtain ⟨hn1, hn3, hb0, hc0, hd0, haf, hab, hcc, hrr⟩ := valR4_of h0
  have hs := isSer_len h1
  have h9 : a.length * a.length ≤ 9 := Nat.mul_le_mul hn3 hn3
  repeat (first | refine w_q ?_ | refine w_s ?_ | refine w_t ?_ | refine w_k ?_ | refine y_q ?_ | refine y_s ?_ | refine y_t ?_ | refine y_k ?_ | refine u_n ?_ | refine u_q ?_ | refine u_g ?_ | refine u_d ?_ | refine u_b ?_ | refine u_x ?_ | refine u_r ?_ | refine u_s ?_ | refine w_r (q_build tyOk rfl rfl rfl rfl rfl rfl rfl rfl) (h := ?_) | refine y_r (q_build tyOk rfl rfl rfl rfl rfl rfl rfl rfl) (h := ?_))
  refine awx_seq (RetQ _ _ _ _) (fun e ρ' η' μ' a' w' _ q s => retQ_postG (by rfl) e ρ' η' μ' a' w' q s) ?_
  repeat (first | refine w_q ?_ | refine w_s ?_ | refine w_t ?_ | refine w_k ?_ | refine y_q ?_ | refine y_s ?_ | refine y_t ?_ | refine y_k ?_ | refine u_n ?_ | refine u_q ?_ | refine u_g ?_ | refine u_d ?_ | refine u_b ?_ | refine u_x ?_ | refine u_r ?_ | refine u_s ?_ | refine w_r (q_build tyOk rfl rfl rfl rfl rfl rfl rfl rfl) (h := ?_) | refine y_r (q_build tyOk rfl rfl rfl rfl rfl rfl rfl rfl) (h := ?_))
  refine awx_seq (RetQ _ _ _ _) (fun e ρ' η' μ' a' w' _ q s => retQ_postG (by rfl) e ρ' η' μ' a' w' q s) ?_
  repeat (first | refine w_q ?_ | refine w_s ?_ | refine w_t ?_ | refine w_k ?_ | refine y_q ?_ | refine y_s ?_ | refine y_t ?_ | refine y_k ?_ | refine u_n ?_ | refine u_q ?_ | refine u_g ?_ | refine u_d ?_ | refine u_b ?_ | refine u_x ?_ | refine u_r ?_ | refine u_s ?_ | refine w_r (q_build tyOk rfl rfl rfl rfl rfl rfl rfl rfl) (h := ?_) | refine y_r (q_build tyOk rfl rfl rfl rfl rfl rfl rfl rfl) (h := ?_))
  refine awx_seq (RetQ _ _ _ _) (fun e ρ' η' μ' a' w' _ q s => retQ_postG (by rfl) e ρ' η' μ' a' w' q s) ?_
  repeat (first | refine w_q ?_ | refine w_s ?_ | refine w_t ?_ | refine w_k ?_ | refine y_q ?_ | refine y_s ?_ | refine y_t ?_ | refine y_k ?_ | refine u_n ?_ | refine u_q ?_ | refine u_g ?_ | refine u_d ?_ | refine u_b ?_ | refine u_x ?_ | refine u_r ?_ | refine u_s ?_ | refine w_r (q_build tyOk rfl rfl rfl rfl rfl rfl rfl rfl) (h := ?_) | refine y_r (q_build tyOk rfl rfl rfl rfl rfl rfl rfl rfl) (h := ?_))
  refine awp_loop (X := Nat) (fun k => k ≤ a.length) (fun k => [(1, .arg 1 (.fl s)), (2, .bp 2 0), (6, .t (.v (.int .i64 a.length))), (7, .own 37 0 k), (39, .argc 0 2 (.fl c)), (40, .t (.v (.int .i64 a.length))), (41, .t (.v (.int .i64 (k : Nat))))]) (fun k => [(2, .box 26 [.argc 0 0 (.fl a), .argc 0 1 (.fl b), .argc 0 2 (.fl c), .argc 0 3 (.fl d)]), (37, .sl 30 (.fl ((rzL a b c (s.getD 0 0)).take k)))]) (fun k => a.length - k)
    0 ⟨by omega, fun i => i, ⟨rfl, rfl, rfl, rfl, rfl, iE1' (by omega), rfl, trivial⟩, ⟨rfl, rfl, trivial⟩, injOn_id _⟩ (fun k hk => ?_)
  have hz2 : ((rzL a b c (s.getD 0 0)).take k).length = k := by simp [rzL_len]; omega
  repeat (first | refine w_q ?_ | refine w_s ?_ | refine w_t ?_ | refine w_k ?_ | refine y_q ?_ | refine y_s ?_ | refine y_t ?_ | refine y_k ?_ | refine u_n ?_ | refine u_q ?_ | refine u_g ?_ | refine u_d ?_ | refine u_b ?_ | refine u_x ?_ | refine u_r ?_ | refine u_s ?_ | refine w_r (q_build tyOk rfl rfl rfl rfl rfl rfl rfl rfl) (h := ?_) | refine y_r (q_build tyOk rfl rfl rfl rfl rfl rfl rfl rfl) (h := ?_))
  refine awp_if rfl (fun g2 => ?_) (fun g2 => ?_)
  · simp only [icmp, decide_eq_true_eq] at g2
    have hkn : k < a.length := by omega
    have hget : (rzL a b c (s.getD 0 0)).getD k 0 = fop .mul .f32 (c.getD k 0) (wgt a b (s.getD 0 0) k) := rzL_get hkn
    repeat (first | refine w_q ?_ | refine w_s ?_ | refine w_t ?_ | refine w_k ?_ | refine y_q ?_ | refine y_s ?_ | refine y_t ?_ | refine y_k ?_ | refine u_n ?_ | refine u_q ?_ | refine u_g ?_ | refine u_d ?_ | refine u_b ?_ | refine u_x ?_ | refine u_r ?_ | refine u_s ?_ | refine w_r (q_build tyOk rfl rfl rfl rfl rfl rfl rfl rfl) (h := ?_) | refine y_r (q_build tyOk rfl rfl rfl rfl rfl rfl rfl rfl) (h := ?_))
    try (first | (refine w_r (q_idx_tree (k) tyOk rfl rfl rfl rfl rfl rfl rfl rfl (by omega) (by first | omega | (simp only [T.len]; omega) | assumption)) (h := ?_)) | (refine y_r (q_idx_tree (k) tyOk rfl rfl rfl rfl rfl rfl rfl rfl (by omega) (by first | omega | (simp only [T.len]; omega) | assumption)) (h := ?_)))
    repeat (first | refine w_q ?_ | refine w_s ?_ | refine w_t ?_ | refine w_k ?_ | refine y_q ?_ | refine y_s ?_ | refine y_t ?_ | refine y_k ?_ | refine u_n ?_ | refine u_q ?_ | refine u_g ?_ | refine u_d ?_ | refine u_b ?_ | refine u_x ?_ | refine u_r ?_ | refine u_s ?_ | refine w_r (q_build tyOk rfl rfl rfl rfl rfl rfl rfl rfl) (h := ?_) | refine y_r (q_build tyOk rfl rfl rfl rfl rfl rfl rfl rfl) (h := ?_))
    try (first | (refine w_r (q_idx_tree (0) tyOk rfl rfl rfl rfl rfl rfl rfl rfl (by omega) (by first | omega | (simp only [T.len]; omega) | assumption)) (h := ?_)) | (refine y_r (q_idx_tree (0) tyOk rfl rfl rfl rfl rfl rfl rfl rfl (by omega) (by first | omega | (simp only [T.len]; omega) | assumption)) (h := ?_)))
    repeat (first | refine w_q ?_ | refine w_s ?_ | refine w_t ?_ | refine w_k ?_ | refine y_q ?_ | refine y_s ?_ | refine y_t ?_ | refine y_k ?_ | refine u_n ?_ | refine u_q ?_ | refine u_g ?_ | refine u_d ?_ | refine u_b ?_ | refine u_x ?_ | refine u_r ?_ | refine u_s ?_ | refine w_r (q_build tyOk rfl rfl rfl rfl rfl rfl rfl rfl) (h := ?_) | refine y_r (q_build tyOk rfl rfl rfl rfl rfl rfl rfl rfl) (h := ?_))
    (first | (refine c_q (weight_c a b c d (s.getD 0 0) k fb hab hkn (by omega) (by omega) (by omega)) (h := ?_)) | (refine z_q (weight_c a b c d (s.getD 0 0) k fb hab hkn (by omega) (by omega) (by omega)) (h := ?_)))
    repeat (first | refine w_q ?_ | refine w_s ?_ | refine w_t ?_ | refine w_k ?_ | refine y_q ?_ | refine y_s ?_ | refine y_t ?_ | refine y_k ?_ | refine u_n ?_ | refine u_q ?_ | refine u_g ?_ | refine u_d ?_ | refine u_b ?_ | refine u_x ?_ | refine u_r ?_ | refine u_s ?_ | refine w_r (q_build tyOk rfl rfl rfl rfl rfl rfl rfl rfl) (h := ?_) | refine y_r (q_build tyOk rfl rfl rfl rfl rfl rfl rfl rfl) (h := ?_))
    (first | refine a_s (hn := by exact hz2) (h := ?_) | refine b_s (hn := by exact hz2) (h := ?_))
    repeat (first | refine w_q ?_ | refine w_s ?_ | refine w_t ?_ | refine w_k ?_ | refine y_q ?_ | refine y_s ?_ | refine y_t ?_ | refine y_k ?_ | refine u_n ?_ | refine u_q ?_ | refine u_g ?_ | refine u_d ?_ | refine u_b ?_ | refine u_x ?_ | refine u_r ?_ | refine u_s ?_ | refine w_r (q_build tyOk rfl rfl rfl rfl rfl rfl rfl rfl) (h := ?_) | refine y_r (q_build tyOk rfl rfl rfl rfl rfl rfl rfl rfl) (h := ?_))
    exact ⟨k + 1, by omega, by omega, fun i => i, ⟨rfl, rfl, rfl, own_eq (by simp only [T.app, T.len, List.length_append, hz2]; rfl), rfl, rfl, iE1' (by omega), trivial⟩, ⟨rfl, sl_eq (congrArg T.fl (take_snoc (by rw [rzL_len]; omega) hget)), trivial⟩, injOn_id _⟩
  simp only [icmp, decide_eq_false_iff_not] at g2
  obtain rfl : k = a.length := by omega
  have hzl := rzL_len a b c (s.getD 0 0)
  rw [List.take_of_length_le (by omega)]
  refine u_x ?_
  refine awx_seq (RetQ _ _ _ _) (fun e ρ' η' μ' a' w' _ q s => retQ_postG (by rfl) e ρ' η' μ' a' w' q s) ?_
  repeat (first | refine w_q ?_ | refine w_s ?_ | refine w_t ?_ | refine w_k ?_ | refine y_q ?_ | refine y_s ?_ | refine y_t ?_ | refine y_k ?_ | refine u_n ?_ | refine u_q ?_ | refine u_g ?_ | refine u_d ?_ | refine u_b ?_ | refine u_x ?_ | refine u_r ?_ | refine u_s ?_ | refine w_r (q_build tyOk rfl rfl rfl rfl rfl rfl rfl rfl) (h := ?_) | refine y_r (q_build tyOk rfl rfl rfl rfl rfl rfl rfl rfl) (h := ?_))
  (first | (refine c_q (first_c (rzL a b c (s.getD 0 0)) (by omega)) (h := ?_)) | (refine z_q (first_c (rzL a b c (s.getD 0 0)) (by omega)) (h := ?_)))
  have hfl := fsI_lt (rzL a b c (s.getD 0 0)) (i := (rzL a b c (s.getD 0 0)).length) (by omega)
  repeat (first | refine w_q ?_ | refine w_s ?_ | refine w_t ?_ | refine w_k ?_ | refine y_q ?_ | refine y_s ?_ | refine y_t ?_ | refine y_k ?_ | refine u_n ?_ | refine u_q ?_ | refine u_g ?_ | refine u_d ?_ | refine u_b ?_ | refine u_x ?_ | refine u_r ?_ | refine u_s ?_ | refine w_r (q_build tyOk rfl rfl rfl rfl rfl rfl rfl rfl) (h := ?_) | refine y_r (q_build tyOk rfl rfl rfl rfl rfl rfl rfl rfl) (h := ?_))
  try (first | (refine w_r (q_idx_own (fsI (rzL a b c (s.getD 0 0)) (rzL a b c (s.getD 0 0)).length) tyOk rfl rfl rfl rfl rfl rfl rfl (by omega) (by first | omega | (simp only [T.len]; omega) | assumption)) (h := ?_)) | (refine y_r (q_idx_own (fsI (rzL a b c (s.getD 0 0)) (rzL a b c (s.getD 0 0)).length) tyOk rfl rfl rfl rfl rfl rfl rfl (by omega) (by first | omega | (simp only [T.len]; omega) | assumption)) (h := ?_)))
  repeat (first | refine w_q ?_ | refine w_s ?_ | refine w_t ?_ | refine w_k ?_ | refine y_q ?_ | refine y_s ?_ | refine y_t ?_ | refine y_k ?_ | refine u_n ?_ | refine u_q ?_ | refine u_g ?_ | refine u_d ?_ | refine u_b ?_ | refine u_x ?_ | refine u_r ?_ | refine u_s ?_ | refine w_r (q_build tyOk rfl rfl rfl rfl rfl rfl rfl rfl) (h := ?_) | refine y_r (q_build tyOk rfl rfl rfl rfl rfl rfl rfl rfl) (h := ?_))
  rw [Nat.zero_add, show (rzL a b c (s.getD 0 0)).getD (fsI (rzL a b c (s.getD 0 0)) (rzL a b c (s.getD 0 0)).length) 0 = wyG (wyT a b c d s 0) from rfl]
  repeat (first | refine w_q ?_ | refine w_s ?_ | refine w_t ?_ | refine w_k ?_ | refine y_q ?_ | refine y_s ?_ | refine y_t ?_ | refine y_k ?_ | refine u_n ?_ | refine u_q ?_ | refine u_g ?_ | refine u_d ?_ | refine u_b ?_ | refine u_x ?_ | refine u_r ?_ | refine u_s ?_ | refine w_r (q_build tyOk rfl rfl rfl rfl rfl rfl rfl rfl) (h := ?_) | refine y_r (q_build tyOk rfl rfl rfl rfl rfl rfl rfl rfl) (h := ?_))
  refine awp_if rfl (fun g0 => ?_) (fun g0 => ?_)
  · simp only [Bool.not_eq_true'] at g0
    repeat (first | refine w_q ?_ | refine w_s ?_ | refine w_t ?_ | refine w_k ?_ | refine y_q ?_ | refine y_s ?_ | refine y_t ?_ | refine y_k ?_ | refine u_n ?_ | refine u_q ?_ | refine u_g ?_ | refine u_d ?_ | refine u_b ?_ | refine u_x ?_ | refine u_r ?_ | refine u_s ?_ | refine w_r (q_build tyOk rfl rfl rfl rfl rfl rfl rfl rfl) (h := ?_) | refine y_r (q_build tyOk rfl rfl rfl rfl rfl rfl rfl rfl) (h := ?_))
    rw [bad (fun hc => by have := hc.2.2 0 (by omega); unfold wyO at this; rw [g0] at this; cases this)]
    (refine u_1 ?_; (repeat' (first | exact RetRelL.nil | refine RetRel.nil rfl ?_ | refine RetRelL.cons ?_ ?_ | refine rr_tup ?_ | refine rr_agg ?_ | refine rr_own rfl ?_ | exact RetRel.arg | exact RetRel.argc | refine rr_t ?_)); all_goals rfl)
  simp only [Bool.not_eq_false'] at g0
  refine u_s ?_
  refine awx_seq (RetQ _ _ _ _) (fun e ρ' η' μ' a' w' _ q s => retQ_postG (by rfl) e ρ' η' μ' a' w' q s) ?_
  repeat (first | refine w_q ?_ | refine w_s ?_ | refine w_t ?_ | refine w_k ?_ | refine y_q ?_ | refine y_s ?_ | refine y_t ?_ | refine y_k ?_ | refine u_n ?_ | refine u_q ?_ | refine u_g ?_ | refine u_d ?_ | refine u_b ?_ | refine u_x ?_ | refine u_r ?_ | refine u_s ?_ | refine w_r (q_build tyOk rfl rfl rfl rfl rfl rfl rfl rfl) (h := ?_) | refine y_r (q_build tyOk rfl rfl rfl rfl rfl rfl rfl rfl) (h := ?_))
  refine awx_seq (RetQ _ _ _ _) (fun e ρ' η' μ' a' w' _ q s => retQ_postG (by rfl) e ρ' η' μ' a' w' q s) ?_
  repeat (first | refine w_q ?_ | refine w_s ?_ | refine w_t ?_ | refine w_k ?_ | refine y_q ?_ | refine y_s ?_ | refine y_t ?_ | refine y_k ?_ | refine u_n ?_ | refine u_q ?_ | refine u_g ?_ | refine u_d ?_ | refine u_b ?_ | refine u_x ?_ | refine u_r ?_ | refine u_s ?_ | refine w_r (q_build tyOk rfl rfl rfl rfl rfl rfl rfl rfl) (h := ?_) | refine y_r (q_build tyOk rfl rfl rfl rfl rfl rfl rfl rfl) (h := ?_))
  (first | (refine w_r (q_slice_tree 1 s.length tyOk rfl rfl rfl rfl rfl rfl rfl (by exact ⟨_, _, rfl, rfl⟩) (by exact rfl) (by omega) (by simp only [T.len]; omega)) (h := ?_)) | (refine y_r (q_slice_tree 1 s.length tyOk rfl rfl rfl rfl rfl rfl rfl (by exact ⟨_, _, rfl, rfl⟩) (by exact rfl) (by omega) (by simp only [T.len]; omega)) (h := ?_)))
  have hcl : ((s.take s.length).drop 1).length = s.length - 1 := by simp
  have hcg : ∀ j, ((s.take s.length).drop 1).getD j 0 = s.getD (j + 1) 0 := fun j => by simp [List.getD_eq_getElem?_getD, Nat.add_comm]
  repeat (first | refine w_q ?_ | refine w_s ?_ | refine w_t ?_ | refine w_k ?_ | refine y_q ?_ | refine y_s ?_ | refine y_t ?_ | refine y_k ?_ | refine u_n ?_ | refine u_q ?_ | refine u_g ?_ | refine u_d ?_ | refine u_b ?_ | refine u_x ?_ | refine u_r ?_ | refine u_s ?_ | refine w_r (q_build tyOk rfl rfl rfl rfl rfl rfl rfl rfl) (h := ?_) | refine y_r (q_build tyOk rfl rfl rfl rfl rfl rfl rfl rfl) (h := ?_))
  -- HERE
  refine awp_loopN (X := Nat) (fun j => j ≤ s.length - 1 ∧ ∀ t, t < j + 1 → wyO a b c d s t = true) (fun j => [(1, .arg 1 (.fl s)), (2, .bp 2 0), (6, .t (.v (.int .i64 a.length))), (7, .own 37 0 a.length), (10, .own 65 0 j), (67, .old (.fl ((s.take s.length).drop 1))), (68, .t (.v (.int .i64 ((s.length - 1 : Nat) : Int)))), (69, .t (.v (.int .i64 (j : Nat))))]) (fun j => ovH (lkH [(2, .box 26 [.argc 0 0 (.fl a), .argc 0 1 (.fl b), .argc 0 2 (.fl c), .argc 0 3 (.fl d)]), (37, .sl 30 (.fl (wyB a b c d s j))), (65, .nest 65 (NI (wyRows a b c d s j)) [] noRem)]) noFam) (fun j => s.length - 1 - j)
    0 (famN_0 (H := fun j => [(2, .box 26 [.argc 0 0 (.fl a), .argc 0 1 (.fl b), .argc 0 2 (.fl c), .argc 0 3 (.fl d)]), (37, .sl 30 (.fl (wyB a b c d s j))), (65, .nest 65 (NI (wyRows a b c d s j)) [] noRem)]) 0 ⟨by omega, fun t ht => (show 0 = t by omega) ▸ g0⟩ ⟨rfl, rfl, rfl, rfl, rfl, rfl, iE1' (by omega), rfl, trivial⟩ ⟨rfl, .inl rfl, NI_nil rfl rfl, trivial⟩) (fun j hj => ?_)
  obtain ⟨hj, hO⟩ := hj
  have hBl := wyB_len a b c d s j
  repeat (first | refine kx_q ?_ | refine kxd_q ?_ | refine kw_s ?_ | refine kw_t ?_ | refine kw_k ?_ | refine ky_s ?_ | refine ky_t ?_ | refine ky_k ?_ | refine u_n ?_ | refine u_q ?_ | refine u_g ?_ | refine u_d ?_ | refine u_b ?_ | refine u_x ?_ | refine u_r ?_ | refine u_s ?_)
  refine awp_cond (b := _) rfl (fun g1 => ?_) (fun g1 => ?_)
  · simp only [icmp, decide_eq_true_eq] at g1
    have hjs : j + 1 < s.length := by omega
    repeat (first | refine kx_q ?_ | refine kxd_q ?_ | refine kw_s ?_ | refine kw_t ?_ | refine kw_k ?_ | refine ky_s ?_ | refine ky_t ?_ | refine ky_k ?_ | refine u_n ?_ | refine u_q ?_ | refine u_g ?_ | refine u_d ?_ | refine u_b ?_ | refine u_x ?_ | refine u_r ?_ | refine u_s ?_)
    try (first | (refine kw_r (q_idx_tree (j) tyOk rfl rfl rfl rfl rfl rfl rfl rfl (by omega) (by first | omega | (simp only [T.len]; omega) | assumption)) (h := ?_)) | (refine ky_r (q_idx_tree (j) tyOk rfl rfl rfl rfl rfl rfl rfl rfl (by omega) (by first | omega | (simp only [T.len]; omega) | assumption)) (h := ?_)))
    repeat (first | refine kx_q ?_ | refine kxd_q ?_ | refine kw_s ?_ | refine kw_t ?_ | refine kw_k ?_ | refine ky_s ?_ | refine ky_t ?_ | refine ky_k ?_ | refine u_n ?_ | refine u_q ?_ | refine u_g ?_ | refine u_d ?_ | refine u_b ?_ | refine u_x ?_ | refine u_r ?_ | refine u_s ?_)
    rw [hcg j]
    repeat (first | refine kx_q ?_ | refine kxd_q ?_ | refine kw_s ?_ | refine kw_t ?_ | refine kw_k ?_ | refine ky_s ?_ | refine ky_t ?_ | refine ky_k ?_ | refine u_n ?_ | refine u_q ?_ | refine u_g ?_ | refine u_d ?_ | refine u_b ?_ | refine u_x ?_ | refine u_r ?_ | refine u_s ?_)
    refine ky_rs (q_make a.length tyOk rfl rfl rfl rfl rfl rfl rfl rfl rfl rfl rfl (by simp only []; omega) (by omega)) (h := ?_)
    repeat (first | refine kx_q ?_ | refine kxd_q ?_ | refine kw_s ?_ | refine kw_t ?_ | refine kw_k ?_ | refine ky_s ?_ | refine ky_t ?_ | refine ky_k ?_ | refine u_n ?_ | refine u_q ?_ | refine u_g ?_ | refine u_d ?_ | refine u_b ?_ | refine u_x ?_ | refine u_r ?_ | refine u_s ?_)
    refine ky_rs (q_make a.length tyOk rfl rfl rfl rfl rfl rfl rfl rfl rfl rfl rfl (by simp only []; omega) (by omega)) (h := ?_)
    repeat (first | refine kx_q ?_ | refine kxd_q ?_ | refine kw_s ?_ | refine kw_t ?_ | refine kw_k ?_ | refine ky_s ?_ | refine ky_t ?_ | refine ky_k ?_ | refine u_n ?_ | refine u_q ?_ | refine u_g ?_ | refine u_d ?_ | refine u_b ?_ | refine u_x ?_ | refine u_r ?_ | refine u_s ?_)
    rw [frI_0 d (wyB a b c d s j)]
    refine awp_loopN (X := Nat) (fun k => k ≤ a.length) (fun k => [(1, .arg 1 (.fl s)), (2, .bp 2 0), (6, .t (.v (.int .i64 a.length))), (7, .own 37 0 a.length), (10, .own 65 0 j), (12, .t (.f .f32 (s.getD (j + 1) 0))), (13, .own 74 0 a.length), (14, .own 76 0 a.length), (77, .own 74 0 a.length), (78, .t (.v (.int .i64 a.length))), (79, .t (.v (.int .i64 (k : Nat)))), (67, .old (.fl ((s.take s.length).drop 1))), (68, .t (.v (.int .i64 ((s.length - 1 : Nat) : Int)))), (69, .t (.v (.int .i64 (j : Nat))))]) (fun k => ovH (lkH [(2, .box 26 [.argc 0 0 (.fl a), .argc 0 1 (.fl b), .argc 0 2 (.fl c), .argc 0 3 (.fl d)]), (37, .sl 30 (.fl (wyB a b c d s j))), (65, .nest 65 (NI (wyRows a b c d s j)) [] noRem), (74, .sl 30 (.fl (mxL (wyX a b d (wyB a b c d s j) (s.getD (j + 1) 0)) (List.replicate a.length 0) k))), (76, .sl 3 (.il (frI d (wyB a b c d s j) a.length k 0)))]) noFam) (fun k => a.length - k)
      0 (famN_0 (H := fun k => [(2, .box 26 [.argc 0 0 (.fl a), .argc 0 1 (.fl b), .argc 0 2 (.fl c), .argc 0 3 (.fl d)]), (37, .sl 30 (.fl (wyB a b c d s j))), (65, .nest 65 (NI (wyRows a b c d s j)) [] noRem), (74, .sl 30 (.fl (mxL (wyX a b d (wyB a b c d s j) (s.getD (j + 1) 0)) (List.replicate a.length 0) k))), (76, .sl 3 (.il (frI d (wyB a b c d s j) a.length k 0)))]) 0 (by omega) ⟨rfl, rfl, rfl, rfl, rfl, rfl, rfl, rfl, rfl, rfl, rfl, rfl, rfl, rfl, trivial⟩ ⟨rfl, .inl rfl, NI_sameP rfl, .inl (sl_eq (congrArg T.fl (mxL_0 _ _))), .inl rfl, trivial⟩) (fun k hk => ?_)
    have hNl : (mxL (wyX a b d (wyB a b c d s j) (s.getD (j + 1) 0)) (List.replicate a.length 0) k).length = a.length := by rw [mxL_len, List.length_replicate]
    have hFl := frI_len d (wyB a b c d s j) a.length k
    repeat (first | refine kx_q ?_ | refine kxd_q ?_ | refine kw_s ?_ | refine kw_t ?_ | refine kw_k ?_ | refine ky_s ?_ | refine ky_t ?_ | refine ky_k ?_ | refine u_n ?_ | refine u_q ?_ | refine u_g ?_ | refine u_d ?_ | refine u_b ?_ | refine u_x ?_ | refine u_r ?_ | refine u_s ?_)
    refine awp_cond (b := _) rfl (fun g2 => ?_) (fun g2 => ?_)
    · simp only [icmp, decide_eq_true_eq] at g2
      have hkn : k < a.length := by omega
      repeat (first | refine kx_q ?_ | refine kxd_q ?_ | refine kw_s ?_ | refine kw_t ?_ | refine kw_k ?_ | refine ky_s ?_ | refine ky_t ?_ | refine ky_k ?_ | refine u_n ?_ | refine u_q ?_ | refine u_g ?_ | refine u_d ?_ | refine u_b ?_ | refine u_x ?_ | refine u_r ?_ | refine u_s ?_)
      refine awp_loopN (X := Nat) (fun i => i ≤ a.length) (fun i => [(1, .arg 1 (.fl s)), (2, .bp 2 0), (6, .t (.v (.int .i64 a.length))), (7, .own 37 0 a.length), (10, .own 65 0 j), (12, .t (.f .f32 (s.getD (j + 1) 0))), (13, .own 74 0 a.length), (14, .own 76 0 a.length), (15, .t (.v (.int .i64 (k : Nat)))), (16, .t (.f .f32 (wyM d (wyB a b c d s j) a.length k i))), (77, .own 74 0 a.length), (78, .t (.v (.int .i64 a.length))), (79, .t (.v (.int .i64 (k : Nat)))), (67, .old (.fl ((s.take s.length).drop 1))), (68, .t (.v (.int .i64 ((s.length - 1 : Nat) : Int)))), (69, .t (.v (.int .i64 (j : Nat)))), (82, .own 37 0 a.length), (83, .t (.v (.int .i64 a.length))), (84, .t (.v (.int .i64 (i : Nat))))]) (fun i => ovH (lkH [(2, .box 26 [.argc 0 0 (.fl a), .argc 0 1 (.fl b), .argc 0 2 (.fl c), .argc 0 3 (.fl d)]), (37, .sl 30 (.fl (wyB a b c d s j))), (65, .nest 65 (NI (wyRows a b c d s j)) [] noRem), (74, .sl 30 (.fl (mxL (wyX a b d (wyB a b c d s j) (s.getD (j + 1) 0)) (List.replicate a.length 0) k))), (76, .sl 3 (.il (frI d (wyB a b c d s j) a.length k (wyI d (wyB a b c d s j) a.length k i))))]) noFam) (fun i => a.length - i)
        0 (famN_0 (H := fun i => [(2, .box 26 [.argc 0 0 (.fl a), .argc 0 1 (.fl b), .argc 0 2 (.fl c), .argc 0 3 (.fl d)]), (37, .sl 30 (.fl (wyB a b c d s j))), (65, .nest 65 (NI (wyRows a b c d s j)) [] noRem), (74, .sl 30 (.fl (mxL (wyX a b d (wyB a b c d s j) (s.getD (j + 1) 0)) (List.replicate a.length 0) k))), (76, .sl 3 (.il (frI d (wyB a b c d s j) a.length k (wyI d (wyB a b c d s j) a.length k i))))]) 0 (by omega) ⟨rfl, rfl, rfl, rfl, rfl, rfl, rfl, rfl, rfl, rfl, rfl, rfl, rfl, rfl, rfl, rfl, rfl, rfl, rfl, trivial⟩ ⟨rfl, .inl rfl, NI_sameP rfl, .inl rfl, .inl rfl, trivial⟩) (fun i hi => ?_)
      have hFi := hFl (wyI d (wyB a b c d s j) a.length k i)
      repeat (first | refine kx_q ?_ | refine kxd_q ?_ | refine kw_s ?_ | refine kw_t ?_ | refine kw_k ?_ | refine ky_s ?_ | refine ky_t ?_ | refine ky_k ?_ | refine u_n ?_ | refine u_q ?_ | refine u_g ?_ | refine u_d ?_ | refine u_b ?_ | refine u_x ?_ | refine u_r ?_ | refine u_s ?_)
      refine awp_cond (b := _) rfl (fun g3 => ?_) (fun g3 => ?_)
      · simp only [icmp, decide_eq_true_eq] at g3
        have g3' : i < a.length := by omega
        have m1 := mul9 (i := i) (n := a.length) (by omega) hn3
        have m3 : (i + 1) * a.length ≤ a.length * a.length := Nat.mul_le_mul_right _ g3'
        have m4 : (i + 1) * a.length = i * a.length + a.length := by rw [Nat.add_mul, Nat.one_mul]
        repeat (first | refine kx_q ?_ | refine kxd_q ?_ | refine kw_s ?_ | refine kw_t ?_ | refine kw_k ?_ | refine ky_s ?_ | refine ky_t ?_ | refine ky_k ?_ | refine u_n ?_ | refine u_q ?_ | refine u_g ?_ | refine u_d ?_ | refine u_b ?_ | refine u_x ?_ | refine u_r ?_ | refine u_s ?_)
        try (first | (refine kw_r (q_idx_own (i) tyOk rfl rfl rfl rfl rfl rfl rfl (by omega) (by first | omega | (simp only [T.len]; omega) | assumption)) (h := ?_)) | (refine ky_r (q_idx_own (i) tyOk rfl rfl rfl rfl rfl rfl rfl (by omega) (by first | omega | (simp only [T.len]; omega) | assumption)) (h := ?_)))
        repeat (first | refine kx_q ?_ | refine kxd_q ?_ | refine kw_s ?_ | refine kw_t ?_ | refine kw_k ?_ | refine ky_s ?_ | refine ky_t ?_ | refine ky_k ?_ | refine u_n ?_ | refine u_q ?_ | refine u_g ?_ | refine u_d ?_ | refine u_b ?_ | refine u_x ?_ | refine u_r ?_ | refine u_s ?_)
        (first | (refine kw_r (q_mul rfl rfl rfl (by omega)) (h := ?_)) | (refine ky_r (q_mul rfl rfl rfl (by omega)) (h := ?_)))
        repeat (first | refine kx_q ?_ | refine kxd_q ?_ | refine kw_s ?_ | refine kw_t ?_ | refine kw_k ?_ | refine ky_s ?_ | refine ky_t ?_ | refine ky_k ?_ | refine u_n ?_ | refine u_q ?_ | refine u_g ?_ | refine u_d ?_ | refine u_b ?_ | refine u_x ?_ | refine u_r ?_ | refine u_s ?_)
        have hcast : ((i : Int) * (a.length : Int) + (k : Int)) = ((i * a.length + k : Nat) : Int) := by rw [Int.natCast_add, Int.natCast_mul]
        try (first | (refine kw_r (q_idx_tree (i * a.length + k) tyOk rfl rfl rfl rfl rfl rfl rfl rfl (by omega) (by first | omega | (simp only [T.len]; omega) | assumption)) (h := ?_)) | (refine ky_r (q_idx_tree (i * a.length + k) tyOk rfl rfl rfl rfl rfl rfl rfl rfl (by omega) (by first | omega | (simp only [T.len]; omega) | assumption)) (h := ?_)))
        repeat (first | refine kx_q ?_ | refine kxd_q ?_ | refine kw_s ?_ | refine kw_t ?_ | refine kw_k ?_ | refine ky_s ?_ | refine ky_t ?_ | refine ky_k ?_ | refine u_n ?_ | refine u_q ?_ | refine u_g ?_ | refine u_d ?_ | refine u_b ?_ | refine u_x ?_ | refine u_r ?_ | refine u_s ?_)
        rw [Nat.zero_add, show fop .mul .f32 ((wyB a b c d s j).getD i 0) (d.getD (i * a.length + k) 0) = wyY d (wyB a b c d s j) a.length k i from rfl]
        repeat (first | refine kx_q ?_ | refine kxd_q ?_ | refine kw_s ?_ | refine kw_t ?_ | refine kw_k ?_ | refine ky_s ?_ | refine ky_t ?_ | refine ky_k ?_ | refine u_n ?_ | refine u_q ?_ | refine u_g ?_ | refine u_d ?_ | refine u_b ?_ | refine u_x ?_ | refine u_r ?_ | refine u_s ?_)
        by_cases g6 : i = 0
        · subst g6
          have HY : (0 : Nat) = 0 ∨ fcmp .gtr .f32 (wyY d (wyB a b c d s j) a.length k 0) (wyM d (wyB a b c d s j) a.length k 0) = true := .inl rfl
          refine nlex_if rfl rfl rfl (fun g7 => ?_) (fun g7 => ?_)
          rotate_left
          · simp [icmp] at g7
          repeat (first | refine kx_q ?_ | refine kxd_q ?_ | refine kw_s ?_ | refine kw_t ?_ | refine kw_k ?_ | refine ky_s ?_ | refine ky_t ?_ | refine ky_k ?_ | refine u_n ?_ | refine u_q ?_ | refine u_g ?_ | refine u_d ?_ | refine u_b ?_ | refine u_x ?_ | refine u_r ?_ | refine u_s ?_)
          refine awp_ifT rfl rfl ?_
          repeat (first | refine kx_q ?_ | refine kxd_q ?_ | refine kw_s ?_ | refine kw_t ?_ | refine kw_k ?_ | refine ky_s ?_ | refine ky_t ?_ | refine ky_k ?_ | refine u_n ?_ | refine u_q ?_ | refine u_g ?_ | refine u_d ?_ | refine u_b ?_ | refine u_x ?_ | refine u_r ?_ | refine u_s ?_)
          try (first | (refine kw_r (q_idx_own (k) tyOk rfl rfl rfl rfl rfl rfl rfl (by omega) (by first | omega | (simp only [T.len]; omega) | assumption)) (h := ?_)) | (refine ky_r (q_idx_own (k) tyOk rfl rfl rfl rfl rfl rfl rfl (by omega) (by first | omega | (simp only [T.len]; omega) | assumption)) (h := ?_)))
          repeat (first | refine kx_q ?_ | refine kxd_q ?_ | refine kw_s ?_ | refine kw_t ?_ | refine kw_k ?_ | refine ky_s ?_ | refine ky_t ?_ | refine ky_k ?_ | refine u_n ?_ | refine u_q ?_ | refine u_g ?_ | refine u_d ?_ | refine u_b ?_ | refine u_x ?_ | refine u_r ?_ | refine u_s ?_)
          exact ⟨0 + 1, by omega, famN_0 (H := fun i => [(2, .box 26 [.argc 0 0 (.fl a), .argc 0 1 (.fl b), .argc 0 2 (.fl c), .argc 0 3 (.fl d)]), (37, .sl 30 (.fl (wyB a b c d s j))), (65, .nest 65 (NI (wyRows a b c d s j)) [] noRem), (74, .sl 30 (.fl (mxL (wyX a b d (wyB a b c d s j) (s.getD (j + 1) 0)) (List.replicate a.length 0) k))), (76, .sl 3 (.il (frI d (wyB a b c d s j) a.length k (wyI d (wyB a b c d s j) a.length k i))))]) (0 + 1) (by omega) ⟨rfl, rfl, rfl, rfl, rfl, rfl, rfl, rfl, rfl, fE1' (by rw [wyM_t HY]), rfl, rfl, rfl, rfl, rfl, rfl, rfl, rfl, iE1' (by omega), trivial⟩ ⟨rfl, .inl rfl, NI_sameP rfl, .inl rfl, .inl (sl_eq (congrArg T.il (by rw [Nat.zero_add, wyI_t HY]; exact frI_set hkn))), trivial⟩⟩
        refine nlex_if rfl rfl rfl (fun g7 => ?_) (fun g7 => ?_)
        · first | (simp [icmp] at g7; done) | (simp [icmp] at g7; omega)
        repeat (first | refine kx_q ?_ | refine kxd_q ?_ | refine kw_s ?_ | refine kw_t ?_ | refine kw_k ?_ | refine ky_s ?_ | refine ky_t ?_ | refine ky_k ?_ | refine u_n ?_ | refine u_q ?_ | refine u_g ?_ | refine u_d ?_ | refine u_b ?_ | refine u_x ?_ | refine u_r ?_ | refine u_s ?_)
        refine awp_cond (b := _) rfl (fun g7 => ?_) (fun g7 => ?_)
        · have HY : i = 0 ∨ fcmp .gtr .f32 (wyY d (wyB a b c d s j) a.length k i) (wyM d (wyB a b c d s j) a.length k i) = true := .inr g7
          repeat (first | refine kx_q ?_ | refine kxd_q ?_ | refine kw_s ?_ | refine kw_t ?_ | refine kw_k ?_ | refine ky_s ?_ | refine ky_t ?_ | refine ky_k ?_ | refine u_n ?_ | refine u_q ?_ | refine u_g ?_ | refine u_d ?_ | refine u_b ?_ | refine u_x ?_ | refine u_r ?_ | refine u_s ?_)
          try (first | (refine kw_r (q_idx_own (k) tyOk rfl rfl rfl rfl rfl rfl rfl (by omega) (by first | omega | (simp only [T.len]; omega) | assumption)) (h := ?_)) | (refine ky_r (q_idx_own (k) tyOk rfl rfl rfl rfl rfl rfl rfl (by omega) (by first | omega | (simp only [T.len]; omega) | assumption)) (h := ?_)))
          repeat (first | refine kx_q ?_ | refine kxd_q ?_ | refine kw_s ?_ | refine kw_t ?_ | refine kw_k ?_ | refine ky_s ?_ | refine ky_t ?_ | refine ky_k ?_ | refine u_n ?_ | refine u_q ?_ | refine u_g ?_ | refine u_d ?_ | refine u_b ?_ | refine u_x ?_ | refine u_r ?_ | refine u_s ?_)
          exact ⟨i + 1, by omega, famN_0 (H := fun i => [(2, .box 26 [.argc 0 0 (.fl a), .argc 0 1 (.fl b), .argc 0 2 (.fl c), .argc 0 3 (.fl d)]), (37, .sl 30 (.fl (wyB a b c d s j))), (65, .nest 65 (NI (wyRows a b c d s j)) [] noRem), (74, .sl 30 (.fl (mxL (wyX a b d (wyB a b c d s j) (s.getD (j + 1) 0)) (List.replicate a.length 0) k))), (76, .sl 3 (.il (frI d (wyB a b c d s j) a.length k (wyI d (wyB a b c d s j) a.length k i))))]) (i + 1) (by omega) ⟨rfl, rfl, rfl, rfl, rfl, rfl, rfl, rfl, rfl, fE1' (by rw [wyM_t HY]), rfl, rfl, rfl, rfl, rfl, rfl, rfl, rfl, iE1' (by omega), trivial⟩ ⟨rfl, .inl rfl, NI_sameP rfl, .inl rfl, .inl (sl_eq (congrArg T.il (by rw [Nat.zero_add, wyI_t HY]; exact frI_set hkn))), trivial⟩⟩
        · refine u_s ?_
          repeat (first | refine kx_q ?_ | refine kxd_q ?_ | refine kw_s ?_ | refine kw_t ?_ | refine kw_k ?_ | refine ky_s ?_ | refine ky_t ?_ | refine ky_k ?_ | refine u_n ?_ | refine u_q ?_ | refine u_g ?_ | refine u_d ?_ | refine u_b ?_ | refine u_x ?_ | refine u_r ?_ | refine u_s ?_)
          exact ⟨i + 1, by omega, famN_0 (H := fun i => [(2, .box 26 [.argc 0 0 (.fl a), .argc 0 1 (.fl b), .argc 0 2 (.fl c), .argc 0 3 (.fl d)]), (37, .sl 30 (.fl (wyB a b c d s j))), (65, .nest 65 (NI (wyRows a b c d s j)) [] noRem), (74, .sl 30 (.fl (mxL (wyX a b d (wyB a b c d s j) (s.getD (j + 1) 0)) (List.replicate a.length 0) k))), (76, .sl 3 (.il (frI d (wyB a b c d s j) a.length k (wyI d (wyB a b c d s j) a.length k i))))]) (i + 1) (by omega) ⟨rfl, rfl, rfl, rfl, rfl, rfl, rfl, rfl, rfl, fE1' (by rw [wyM_f g6 g7]), rfl, rfl, rfl, rfl, rfl, rfl, rfl, rfl, iE1' (by omega), trivial⟩ ⟨rfl, .inl rfl, NI_sameP rfl, .inl rfl, .inl (sl_eq (congrArg T.il (by rw [wyI_f g6 g7]))), trivial⟩⟩
      simp only [icmp, decide_eq_false_iff_not] at g3
      obtain rfl : i = a.length := by omega
      rw [frI_next]
      have hFn := frI_len d (wyB a b c d s j) a.length (k + 1) 0
      repeat (first | refine kx_q ?_ | refine kxd_q ?_ | refine kw_s ?_ | refine kw_t ?_ | refine kw_k ?_ | refine ky_s ?_ | refine ky_t ?_ | refine ky_k ?_ | refine u_n ?_ | refine u_q ?_ | refine u_g ?_ | refine u_d ?_ | refine u_b ?_ | refine u_x ?_ | refine u_r ?_ | refine u_s ?_)
      (first | (refine kc_q (weight_c a b c d (s.getD (j + 1) 0) k fb hab hkn (by omega) (by omega) (by omega)) (h := ?_)) | (refine kz_q (weight_c a b c d (s.getD (j + 1) 0) k fb hab hkn (by omega) (by omega) (by omega)) (h := ?_)))
      repeat (first | refine kx_q ?_ | refine kxd_q ?_ | refine kw_s ?_ | refine kw_t ?_ | refine kw_k ?_ | refine ky_s ?_ | refine ky_t ?_ | refine ky_k ?_ | refine u_n ?_ | refine u_q ?_ | refine u_g ?_ | refine u_d ?_ | refine u_b ?_ | refine u_x ?_ | refine u_r ?_ | refine u_s ?_)
      try (first | (refine kw_r (q_idx_own (k) tyOk rfl rfl rfl rfl rfl rfl rfl (by omega) (by first | omega | (simp only [T.len]; omega) | assumption)) (h := ?_)) | (refine ky_r (q_idx_own (k) tyOk rfl rfl rfl rfl rfl rfl rfl (by omega) (by first | omega | (simp only [T.len]; omega) | assumption)) (h := ?_)))
      repeat (first | refine kx_q ?_ | refine kxd_q ?_ | refine kw_s ?_ | refine kw_t ?_ | refine kw_k ?_ | refine ky_s ?_ | refine ky_t ?_ | refine ky_k ?_ | refine u_n ?_ | refine u_q ?_ | refine u_g ?_ | refine u_d ?_ | refine u_b ?_ | refine u_x ?_ | refine u_r ?_ | refine u_s ?_)
      exact ⟨k + 1, by omega, famN_0 (H := fun k => [(2, .box 26 [.argc 0 0 (.fl a), .argc 0 1 (.fl b), .argc 0 2 (.fl c), .argc 0 3 (.fl d)]), (37, .sl 30 (.fl (wyB a b c d s j))), (65, .nest 65 (NI (wyRows a b c d s j)) [] noRem), (74, .sl 30 (.fl (mxL (wyX a b d (wyB a b c d s j) (s.getD (j + 1) 0)) (List.replicate a.length 0) k))), (76, .sl 3 (.il (frI d (wyB a b c d s j) a.length k 0)))]) (k + 1) (by omega) ⟨rfl, rfl, rfl, rfl, rfl, rfl, rfl, rfl, rfl, rfl, iE1' (by omega), rfl, rfl, rfl, trivial⟩ ⟨rfl, .inl rfl, NI_sameP rfl, .inl (sl_eq (congrArg T.fl (by rw [Nat.zero_add]; exact mxL_set (by rw [List.length_replicate]; exact hkn)))), .inl rfl, trivial⟩⟩
    simp only [icmp, decide_eq_false_iff_not] at g2
    obtain rfl : k = a.length := by omega
    rw [wyZ_mix, frI_all, ← wyT_S]
    have hTl := wyT_len a b c d s (j + 1)
    have hfl := fsI_lt (wyT a b c d s (j + 1)) (i := (wyT a b c d s (j + 1)).length) (by omega)
    have hFw := wyF_len d (wyB a b c d s j) a.length
    repeat (first | refine kx_q ?_ | refine kxd_q ?_ | refine kw_s ?_ | refine kw_t ?_ | refine kw_k ?_ | refine ky_s ?_ | refine ky_t ?_ | refine ky_k ?_ | refine u_n ?_ | refine u_q ?_ | refine u_g ?_ | refine u_d ?_ | refine u_b ?_ | refine u_x ?_ | refine u_r ?_ | refine u_s ?_)
    (first | (refine kc_q (first_c (wyT a b c d s (j + 1)) (by omega)) (h := ?_)) | (refine kz_q (first_c (wyT a b c d s (j + 1)) (by omega)) (h := ?_)))
    repeat (first | refine kx_q ?_ | refine kxd_q ?_ | refine kw_s ?_ | refine kw_t ?_ | refine kw_k ?_ | refine ky_s ?_ | refine ky_t ?_ | refine ky_k ?_ | refine u_n ?_ | refine u_q ?_ | refine u_g ?_ | refine u_d ?_ | refine u_b ?_ | refine u_x ?_ | refine u_r ?_ | refine u_s ?_)
    try (first | (refine kw_r (q_idx_own (fsI (wyT a b c d s (j + 1)) (wyT a b c d s (j + 1)).length) tyOk rfl rfl rfl rfl rfl rfl rfl (by omega) (by first | omega | (simp only [T.len]; omega) | assumption)) (h := ?_)) | (refine ky_r (q_idx_own (fsI (wyT a b c d s (j + 1)) (wyT a b c d s (j + 1)).length) tyOk rfl rfl rfl rfl rfl rfl rfl (by omega) (by first | omega | (simp only [T.len]; omega) | assumption)) (h := ?_)))
    repeat (first | refine kx_q ?_ | refine kxd_q ?_ | refine kw_s ?_ | refine kw_t ?_ | refine kw_k ?_ | refine ky_s ?_ | refine ky_t ?_ | refine ky_k ?_ | refine u_n ?_ | refine u_q ?_ | refine u_g ?_ | refine u_d ?_ | refine u_b ?_ | refine u_x ?_ | refine u_r ?_ | refine u_s ?_)
    rw [Nat.zero_add, show (wyT a b c d s (j + 1)).getD (fsI (wyT a b c d s (j + 1)) (wyT a b c d s (j + 1)).length) 0 = wyG (wyT a b c d s (j + 1)) from rfl]
    repeat (first | refine kx_q ?_ | refine kxd_q ?_ | refine kw_s ?_ | refine kw_t ?_ | refine kw_k ?_ | refine ky_s ?_ | refine ky_t ?_ | refine ky_k ?_ | refine u_n ?_ | refine u_q ?_ | refine u_g ?_ | refine u_d ?_ | refine u_b ?_ | refine u_x ?_ | refine u_r ?_ | refine u_s ?_)
    refine awp_cond (b := _) rfl (fun g3 => ?_) (fun g3 => ?_)
    · simp only [Bool.not_eq_true'] at g3
      repeat (first | refine kx_q ?_ | refine kxd_q ?_ | refine kw_s ?_ | refine kw_t ?_ | refine kw_k ?_ | refine ky_s ?_ | refine ky_t ?_ | refine ky_k ?_ | refine u_n ?_ | refine u_q ?_ | refine u_g ?_ | refine u_d ?_ | refine u_b ?_ | refine u_x ?_ | refine u_r ?_ | refine u_s ?_)
      rw [bad (fun hc => by have := hc.2.2 (j + 1) (by omega); unfold wyO at this; rw [g3] at this; cases this)]
      (refine u_1 ?_; (repeat' (first | exact RetRelL.nil | refine RetRel.nil rfl ?_ | refine RetRelL.cons ?_ ?_ | refine rr_tup ?_ | refine rr_agg ?_ | refine rr_own rfl ?_ | exact RetRel.arg | exact RetRel.argc | refine rr_t ?_)); all_goals rfl)
    simp only [Bool.not_eq_false'] at g3
    refine u_s ?_
    repeat (first | refine kx_q ?_ | refine kxd_q ?_ | refine kw_s ?_ | refine kw_t ?_ | refine kw_k ?_ | refine ky_s ?_ | refine ky_t ?_ | refine ky_k ?_ | refine u_n ?_ | refine u_q ?_ | refine u_g ?_ | refine u_d ?_ | refine u_b ?_ | refine u_x ?_ | refine u_r ?_ | refine u_s ?_)
    refine awp_loopN (X := Nat) (fun k => k ≤ a.length) (fun k => [(1, .arg 1 (.fl s)), (2, .bp 2 0), (6, .t (.v (.int .i64 a.length))), (10, .own 65 0 j), (13, .own 74 0 a.length), (14, .own 76 0 a.length), (20, .t (.f .f32 (wyG (wyT a b c d s (j + 1))))), (131, .own 74 0 a.length), (132, .t (.v (.int .i64 a.length))), (133, .t (.v (.int .i64 (k : Nat)))), (67, .old (.fl ((s.take s.length).drop 1))), (68, .t (.v (.int .i64 ((s.length - 1 : Nat) : Int)))), (69, .t (.v (.int .i64 (j : Nat))))]) (fun k => ovH (lkH [(2, .box 26 [.argc 0 0 (.fl a), .argc 0 1 (.fl b), .argc 0 2 (.fl c), .argc 0 3 (.fl d)]), (65, .nest 65 (NI (wyRows a b c d s j)) [] noRem), (74, .sl 30 (.fl (mxL (wyD (wyT a b c d s (j + 1))) (wyT a b c d s (j + 1)) k))), (76, .sl 3 (.il (wyF d (wyB a b c d s j) a.length)))]) noFam) (fun k => a.length - k)
      0 (famN_0 (H := fun k => [(2, .box 26 [.argc 0 0 (.fl a), .argc 0 1 (.fl b), .argc 0 2 (.fl c), .argc 0 3 (.fl d)]), (65, .nest 65 (NI (wyRows a b c d s j)) [] noRem), (74, .sl 30 (.fl (mxL (wyD (wyT a b c d s (j + 1))) (wyT a b c d s (j + 1)) k))), (76, .sl 3 (.il (wyF d (wyB a b c d s j) a.length)))]) 0 (by omega) ⟨rfl, rfl, rfl, rfl, rfl, rfl, rfl, rfl, rfl, rfl, rfl, rfl, rfl, trivial⟩ ⟨rfl, NI_sameP rfl, .inl (sl_eq (congrArg T.fl (mxL_0 _ _))), .inl rfl, trivial⟩) (fun k hk => ?_)
    have hml : (mxL (wyD (wyT a b c d s (j + 1))) (wyT a b c d s (j + 1)) k).length = a.length := by rw [mxL_len, hTl]
    repeat (first | refine kx_q ?_ | refine kxd_q ?_ | refine kw_s ?_ | refine kw_t ?_ | refine kw_k ?_ | refine ky_s ?_ | refine ky_t ?_ | refine ky_k ?_ | refine u_n ?_ | refine u_q ?_ | refine u_g ?_ | refine u_d ?_ | refine u_b ?_ | refine u_x ?_ | refine u_r ?_ | refine u_s ?_)
    refine awp_cond (b := _) rfl (fun g4 => ?_) (fun g4 => ?_)
    · simp only [icmp, decide_eq_true_eq] at g4
      have g4' : k < a.length := by omega
      have hg : (mxL (wyD (wyT a b c d s (j + 1))) (wyT a b c d s (j + 1)) k).getD (0 + k) 0 = (wyT a b c d s (j + 1)).getD k 0 := by rw [Nat.zero_add, mxL_get (by omega), if_neg (by omega)]
      repeat (first | refine kx_q ?_ | refine kxd_q ?_ | refine kw_s ?_ | refine kw_t ?_ | refine kw_k ?_ | refine ky_s ?_ | refine ky_t ?_ | refine ky_k ?_ | refine u_n ?_ | refine u_q ?_ | refine u_g ?_ | refine u_d ?_ | refine u_b ?_ | refine u_x ?_ | refine u_r ?_ | refine u_s ?_)
      try (first | (refine kw_r (q_idx_own (k) tyOk rfl rfl rfl rfl rfl rfl rfl (by omega) (by first | omega | (simp only [T.len]; omega) | assumption)) (h := ?_)) | (refine ky_r (q_idx_own (k) tyOk rfl rfl rfl rfl rfl rfl rfl (by omega) (by first | omega | (simp only [T.len]; omega) | assumption)) (h := ?_)))
      repeat (first | refine kx_q ?_ | refine kxd_q ?_ | refine kw_s ?_ | refine kw_t ?_ | refine kw_k ?_ | refine ky_s ?_ | refine ky_t ?_ | refine ky_k ?_ | refine u_n ?_ | refine u_q ?_ | refine u_g ?_ | refine u_d ?_ | refine u_b ?_ | refine u_x ?_ | refine u_r ?_ | refine u_s ?_)
      try (first | (refine kw_r (q_idx_own (k) tyOk rfl rfl rfl rfl rfl rfl rfl (by omega) (by first | omega | (simp only [T.len]; omega) | assumption)) (h := ?_)) | (refine ky_r (q_idx_own (k) tyOk rfl rfl rfl rfl rfl rfl rfl (by omega) (by first | omega | (simp only [T.len]; omega) | assumption)) (h := ?_)))
      repeat (first | refine kx_q ?_ | refine kxd_q ?_ | refine kw_s ?_ | refine kw_t ?_ | refine kw_k ?_ | refine ky_s ?_ | refine ky_t ?_ | refine ky_k ?_ | refine u_n ?_ | refine u_q ?_ | refine u_g ?_ | refine u_d ?_ | refine u_b ?_ | refine u_x ?_ | refine u_r ?_ | refine u_s ?_)
      exact ⟨k + 1, by omega, famN_0 (H := fun k => [(2, .box 26 [.argc 0 0 (.fl a), .argc 0 1 (.fl b), .argc 0 2 (.fl c), .argc 0 3 (.fl d)]), (65, .nest 65 (NI (wyRows a b c d s j)) [] noRem), (74, .sl 30 (.fl (mxL (wyD (wyT a b c d s (j + 1))) (wyT a b c d s (j + 1)) k))), (76, .sl 3 (.il (wyF d (wyB a b c d s j) a.length)))]) (k + 1) (by omega) ⟨rfl, rfl, rfl, rfl, rfl, rfl, rfl, rfl, rfl, iE1' (by omega), rfl, rfl, rfl, trivial⟩ ⟨rfl, NI_sameP rfl, .inl (sl_eq (congrArg T.fl (by rw [hg, Nat.zero_add]; exact mxL_set (by omega)))), .inl rfl, trivial⟩⟩
    simp only [icmp, decide_eq_false_iff_not] at g4
    obtain rfl : k = a.length := by omega
    have hNn : mxL (wyD (wyT a b c d s (j + 1))) (wyT a b c d s (j + 1)) a.length = wyB a b c d s (j + 1) := by rw [wyB_S, ← wyN_mix, hTl]
    rw [hNn]
    repeat (first | refine kx_q ?_ | refine kxd_q ?_ | refine kw_s ?_ | refine kw_t ?_ | refine kw_k ?_ | refine ky_s ?_ | refine ky_t ?_ | refine ky_k ?_ | refine u_n ?_ | refine u_q ?_ | refine u_g ?_ | refine u_d ?_ | refine u_b ?_ | refine u_x ?_ | refine u_r ?_ | refine u_s ?_)
    (refine kw_rs (q_bslice_nest (L := [.own 76 0 a.length]) [76] tyOk rfl rfl rfl rfl rfl rfl rfl rfl rfl rfl rfl rfl rfl) (h := ?_))
    repeat (first | refine kx_q ?_ | refine kxd_q ?_ | refine kw_s ?_ | refine kw_t ?_ | refine kw_k ?_ | refine ky_s ?_ | refine ky_t ?_ | refine ky_k ?_ | refine u_n ?_ | refine u_q ?_ | refine u_g ?_ | refine u_d ?_ | refine u_b ?_ | refine u_x ?_ | refine u_r ?_ | refine u_s ?_)
    (refine kw_rs (q_app_nest (m := 1) (NI_good _) (ownI_good _ _) (by rw [NI_len, wyRows_len]) rfl tyOk rfl rfl rfl rfl rfl rfl rfl rfl rfl rfl rfl rfl rfl rfl rfl (by simp only []; omega) (by omega)) (h := ?_))
    repeat (first | refine kx_q ?_ | refine kxd_q ?_ | refine kw_s ?_ | refine kw_t ?_ | refine kw_k ?_ | refine ky_s ?_ | refine ky_t ?_ | refine ky_k ?_ | refine u_n ?_ | refine u_q ?_ | refine u_g ?_ | refine u_d ?_ | refine u_b ?_ | refine u_x ?_ | refine u_r ?_ | refine u_s ?_)
    exact ⟨j + 1, by omega, famN_p (H := fun j => [(2, .box 26 [.argc 0 0 (.fl a), .argc 0 1 (.fl b), .argc 0 2 (.fl c), .argc 0 3 (.fl d)]), (37, .sl 30 (.fl (wyB a b c d s j))), (65, .nest 65 (NI (wyRows a b c d s j)) [] noRem)]) (fun i => bif Nat.beq i 37 then 74 else i) (j + 1) ⟨by omega, fun t ht => (Nat.lt_or_eq_of_le (Nat.le_of_lt_succ ht)).elim (fun h => hO t h) (fun h => by rw [h]; exact g3)⟩
      ⟨rfl, rfl, rfl, rfl, rfl, rfl, rfl, iE1' (by omega), trivial⟩ ⟨rfl, .inl rfl, by rw [wyRows_S a b c d s j]; refine NI_bto (R := wyRows a b c d s j) (r := wyF d (wyB a b c d s j) a.length) (id := 76) (ef := 3) (vis := [76]) (len := a.length) ?_ ?_ ?_ ?_ ?_; (· exact rfl); (· exact rfl); (· exact rfl); (· exact (wyF_len _ _ _).symm); (· exact awayN_ok rfl), trivial⟩ rfl⟩
  simp only [icmp, decide_eq_false_iff_not] at g1
  obtain rfl : j = s.length - 1 := by omega
  refine u_x ?_
  refine awx_seq (RetQ _ _ _ _) (fun e ρ' η' μ' a' w' _ q s => retQ_postG (by rfl) e ρ' η' μ' a' w' q s) ?_
  repeat (first | refine kx_q ?_ | refine kxd_q ?_ | refine kw_s ?_ | refine kw_t ?_ | refine kw_k ?_ | refine ky_s ?_ | refine ky_t ?_ | refine ky_k ?_ | refine u_n ?_ | refine u_q ?_ | refine u_g ?_ | refine u_d ?_ | refine u_b ?_ | refine u_x ?_ | refine u_r ?_ | refine u_s ?_)
  (first | (refine kc_q (first_c (wyB a b c d s (s.length - 1)) (by omega)) (h := ?_)) | (refine kz_q (first_c (wyB a b c d s (s.length - 1)) (by omega)) (h := ?_)))
  rw [hBl, show fsI (wyB a b c d s (s.length - 1)) a.length = wyA a b c d s s.length 0 from rfl]
  repeat (first | refine kx_q ?_ | refine kxd_q ?_ | refine kw_s ?_ | refine kw_t ?_ | refine kw_k ?_ | refine ky_s ?_ | refine ky_t ?_ | refine ky_k ?_ | refine u_n ?_ | refine u_q ?_ | refine u_g ?_ | refine u_d ?_ | refine u_b ?_ | refine u_x ?_ | refine u_r ?_ | refine u_s ?_)
  refine awx_seq (RetQ _ _ _ _) (fun e ρ' η' μ' a' w' _ q s => retQ_postG (by rfl) e ρ' η' μ' a' w' q s) ?_
  repeat (first | refine kx_q ?_ | refine kxd_q ?_ | refine kw_s ?_ | refine kw_t ?_ | refine kw_k ?_ | refine ky_s ?_ | refine ky_t ?_ | refine ky_k ?_ | refine u_n ?_ | refine u_q ?_ | refine u_g ?_ | refine u_d ?_ | refine u_b ?_ | refine u_x ?_ | refine u_r ?_ | refine u_s ?_)
  rw [wayF_yes h0 h1 (fun t ht => hO t (by omega))]
  intro μ act wA hst
  refine range_w hn1 hn3 hs.2 hs.1 _ act wA (StR_weakN (fun i => i) (α := [(10, .own 65 0 (s.length - 1)), (22, .bp 22 0), (23, .bp 23 0)]) hst ⟨rfl, rfl, rfl, trivial⟩ (wkB_ov (l := hp3 (wyA a b c d s s.length 0 : Nat) [((wyA a b c d s s.length 0 : Nat) : Int)] ++ [(65, .nest 65 (NI (wyRows a b c d s (s.length - 1))) [] noRem)]) ?_ (fun i B _ h => by cases h)) (fun _ _ _ _ h => h))
  unfold hp3
  exact ⟨rfl, rfl, .inl rfl, NI_sameP rfl, trivial⟩
end Go.Proofs.Ytpdnjcblkjjegaa

