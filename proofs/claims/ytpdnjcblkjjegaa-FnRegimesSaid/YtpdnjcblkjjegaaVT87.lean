import Derived.Test.YtpdnjcblkjjegaaVT85
set_option linter.unusedVariables false
set_option linter.unusedSimpArgs false
set_option maxRecDepth 100000
set_option maxHeartbeats 8000000
namespace Go.Proofs.Ytpdnjcblkjjegaa
open Go.Aw Go.RowKit Go.Shelf
attribute [local go_sem] Oper.semAt_some

/-! ### a walk that ends in a world of the model's own -/
def AWx (P : Program) (N : Nat) (c : Code) (R : Exit → Act → World → Prop) (vs : Env) (w0 : World) (ρ : Fr) (η : Hp) : Prop :=
  ∀ μ a w, StR vs N w0 μ ρ η a w → c.wp P R a w
section
variable {P : Program} {N : Nat} {R : Exit → Act → World → Prop} {vs : Env} {w0 : World} {ρ : Fr} {η : Hp}
theorem awx_seq {x y : Code} (Q : Exit → Fr → Hp → Prop) (hQ : ∀ e ρ' η' μ' a' w', e ≠ .normal → Q e ρ' η' → StR vs N w0 μ' ρ' η' a' w' → R e a' w') (h : AWp P N x (thenA (fun ρ η => AWx P N y R vs w0 ρ η) Q) ρ η) : AWx P N (.seq x y) R vs w0 ρ η := by
  intro μ a w hs
  refine wp_seq (wp_mono (h vs w0 μ a w hs) ?_)
  rintro e a' w' ⟨ρ', η', μ', q, s⟩
  cases e <;> first | exact q μ' a' w' s | exact hQ _ ρ' η' μ' a' w' (by simp) q s
theorem awx_start {w : World} {ts : List T} {args : List Value} {c : Code} (hargs : TRl w (fun _ => True) ts args) (hN : ts.length ≤ N) (h : AWx P N c R ⟨args, w.heap.size, noLoan⟩ w (lkF (argsL 0 ts)) (lkH [])) :
    c.wp P R { tmps := args.toArray ++ Array.replicate (N - args.toArray.size) undef, defers := [] } w := h _ _ _ (start_StR hargs hN)
end
theorem retQ_post {P : Program} {n N : Nat} {fn : Func} {x : Value} {args : List Value} {w : World} (e : Exit) (ρ : Fr) (η : Hp) (μ : Nat → Option Nat) (a' : Act) (w' : World) (hq : RetQ P fn (.t (.v x)) [] e ρ η) (hst : StR ⟨args, w.heap.size, noLoan⟩ N w μ ρ η a' w') :
    bodyPostM Fence.wide n P fn (fun e w' => e = .returned x ∧ Below w.heap.size w w') e a' w' := by
  obtain ⟨he, v, π, hR, hrel, _, _⟩ := hq
  obtain ⟨y, hy, hv⟩ := hR _ _ _ _ _ _ hst
  have hyx : y = x := by
    have := retRel_RRel (ok' := okOf (fun j => (π j).bind μ) (lkH [])) (fun b _ i hi => by simp [lkH] at hi) hrel hv
    rw [RRel, TR] at this; exact this
  subst hyx
  have hb := hst.hc.below.below (fun _ h => h)
  have hd := hst.defers
  rcases he with rfl | rfl <;> (simp only [bodyPostM, hd, LeavesInM, LeavesIn]; exact ⟨y, hy, rfl, hb⟩)
theorem tcall_val {P : Program} {f : FuncId} {ts : List T} {x : Value} (he : Go.Aw.Enters P f) (h : ∀ w args, TRl w (fun _ => True) ts args → Calls P f args.toArray w fun e w' => e = .returned x ∧ Below w.heap.size w w') : TCall P f ts (.t (.v x)) [] := by
  refine ⟨he, fun w args hargs => (h w args hargs).mono fun e w' ⟨he, hb⟩ => ?_⟩
  refine ⟨x, fun _ => none, he, ⟨rfl, (Bel.refl _ _).grow hb, fun i B hB => by simp [lkH] at hB, fun i j b hi => by simp [lkH] at hi⟩, ?_⟩
  rw [RRel, TR]
theorem calls_val {P : Program} {f : FuncId} {ts : List T} {x : Value} (hc : TCall P f ts (.t (.v x)) []) {w : World} {args : Array Value} (ha : TRl w (fun _ => True) ts args.toList) :
    Calls P f args w fun e w' => e = .returned x ∧ Below w.heap.size w w' := by
  refine (hc.2 w args.toList ha).mono fun e w' h => ?_
  obtain ⟨y, μ, rfl, hh, hr⟩ := h
  rw [RRel, TR] at hr
  subst hr
  exact ⟨rfl, hh.below.below (fun _ h => h)⟩
theorem arr_all {n : Nat} {a : Array Value} (h : a.size = n) : a = ((List.range n).map fun i => a.getD i undef).toArray := by
  apply Array.ext
  · simp [h]
  · intro i h1 h2
    simp [Array.getD, h1]

attribute [local irreducible] QRun LexD AWp TCall TMut fop fint fcmp fconv
theorem implValR_c (a b c d : List Nat) (h : a.length ≤ 9223372036854775807 ∧ b.length ≤ 9223372036854775807 ∧ c.length ≤ 9223372036854775807 ∧ d.length ≤ 9223372036854775807) :
    TCall Try.prog 14 [R4 a b c d] (.t (.v (.bool (valR4 a b c d)))) [] := by
  obtain ⟨ka, kb, kc, kd⟩ := h
  have bad := @valR4_not a b c d
  refine tcall_val ⟨_, Try.func14, rfl, by kernel_rfl⟩ fun w args hargs => (callsIn_wide (n := 6)).1 (callsIn_of_wp_marks Try.func14 rfl trivial (wpIn_wide.2 (awx_start hargs (Nat.le_of_ble_eq_true rfl) ?_)) rfl)
  simp only [argsL, argAV, argCs, argS]
  refine awx_seq (RetQ _ _ _ _) (fun e ρ' η' μ' a' w' _ q s => retQ_post e ρ' η' μ' a' w' q s) ?_
  repeat (first | refine w_q ?_ | refine w_s ?_ | refine w_t ?_ | refine w_k ?_ | refine u_n ?_ | refine u_q ?_ | refine u_g ?_ | refine u_d ?_ | refine u_b ?_ | refine u_x ?_ | refine u_r ?_ | refine u_s ?_)
  refine awx_seq (RetQ _ _ _ _) (fun e ρ' η' μ' a' w' _ q s => retQ_post e ρ' η' μ' a' w' q s) ?_
  repeat (first | refine w_q ?_ | refine w_s ?_ | refine w_t ?_ | refine w_k ?_ | refine u_n ?_ | refine u_q ?_ | refine u_g ?_ | refine u_d ?_ | refine u_b ?_ | refine u_x ?_ | refine u_r ?_ | refine u_s ?_)
  refine awx_seq (RetQ _ _ _ _) (fun e ρ' η' μ' a' w' _ q s => retQ_post e ρ' η' μ' a' w' q s) ?_
  repeat (first | refine w_q ?_ | refine w_s ?_ | refine w_t ?_ | refine w_k ?_ | refine y_q ?_ | refine y_s ?_ | refine y_t ?_ | refine y_k ?_ | refine u_n ?_ | refine u_q ?_ | refine u_g ?_ | refine u_d ?_ | refine u_b ?_ | refine u_x ?_ | refine u_r ?_ | refine u_s ?_)
  refine lex_if rfl rfl rfl (fun h1 => ?_) (fun h1 => ?_)
  · simp only [icmp, decide_eq_true_eq] at h1
    repeat (first | refine w_q ?_ | refine w_s ?_ | refine w_t ?_ | refine w_k ?_ | refine y_q ?_ | refine y_s ?_ | refine y_t ?_ | refine y_k ?_ | refine u_n ?_ | refine u_q ?_ | refine u_g ?_ | refine u_d ?_ | refine u_b ?_ | refine u_x ?_ | refine u_r ?_ | refine u_s ?_)
    refine awp_ifT rfl rfl ?_
    repeat (first | refine w_q ?_ | refine w_s ?_ | refine w_t ?_ | refine w_k ?_ | refine y_q ?_ | refine y_s ?_ | refine y_t ?_ | refine y_k ?_ | refine u_n ?_ | refine u_q ?_ | refine u_g ?_ | refine u_d ?_ | refine u_b ?_ | refine u_x ?_ | refine u_r ?_ | refine u_s ?_)
    rw [bad (fun hc => by omega)]
    (refine u_0 ?_; (repeat' (first | exact RetRelL.nil | refine RetRel.nil rfl ?_ | refine RetRelL.cons ?_ ?_ | refine rr_tup ?_ | refine rr_agg ?_ | refine rr_own rfl ?_ | exact RetRel.arg | exact RetRel.argc | refine rr_t ?_)); all_goals rfl)
  simp only [icmp, decide_eq_false_iff_not] at h1
  repeat (first | refine w_q ?_ | refine w_s ?_ | refine w_t ?_ | refine w_k ?_ | refine y_q ?_ | refine y_s ?_ | refine y_t ?_ | refine y_k ?_ | refine u_n ?_ | refine u_q ?_ | refine u_g ?_ | refine u_d ?_ | refine u_b ?_ | refine u_x ?_ | refine u_r ?_ | refine u_s ?_)
  refine lex_if rfl rfl rfl (fun h2 => ?_) (fun h2 => ?_)
  · simp only [icmp, decide_eq_true_eq] at h2
    repeat (first | refine w_q ?_ | refine w_s ?_ | refine w_t ?_ | refine w_k ?_ | refine y_q ?_ | refine y_s ?_ | refine y_t ?_ | refine y_k ?_ | refine u_n ?_ | refine u_q ?_ | refine u_g ?_ | refine u_d ?_ | refine u_b ?_ | refine u_x ?_ | refine u_r ?_ | refine u_s ?_)
    refine awp_ifT rfl rfl ?_
    repeat (first | refine w_q ?_ | refine w_s ?_ | refine w_t ?_ | refine w_k ?_ | refine y_q ?_ | refine y_s ?_ | refine y_t ?_ | refine y_k ?_ | refine u_n ?_ | refine u_q ?_ | refine u_g ?_ | refine u_d ?_ | refine u_b ?_ | refine u_x ?_ | refine u_r ?_ | refine u_s ?_)
    rw [bad (fun hc => by omega)]
    (refine u_0 ?_; (repeat' (first | exact RetRelL.nil | refine RetRel.nil rfl ?_ | refine RetRelL.cons ?_ ?_ | refine rr_tup ?_ | refine rr_agg ?_ | refine rr_own rfl ?_ | exact RetRel.arg | exact RetRel.argc | refine rr_t ?_)); all_goals rfl)
  simp only [icmp, decide_eq_false_iff_not] at h2
  have hn : a.length ≤ 3 := by omega
  have h9 := mul9 hn hn
  have e9 : ((d.length : Int) = (a.length : Int) * (a.length : Int)) ↔ d.length = a.length * a.length := by rw [← Int.natCast_mul]; omega
  have h9n : a.length * a.length ≤ 9 := Nat.mul_le_mul hn hn
  repeat (first | refine w_q ?_ | refine w_s ?_ | refine w_t ?_ | refine w_k ?_ | refine y_q ?_ | refine y_s ?_ | refine y_t ?_ | refine y_k ?_ | refine u_n ?_ | refine u_q ?_ | refine u_g ?_ | refine u_d ?_ | refine u_b ?_ | refine u_x ?_ | refine u_r ?_ | refine u_s ?_)
  refine lex_if rfl rfl rfl (fun h3 => ?_) (fun h3 => ?_)
  · simp [icmp] at h3
    repeat (first | refine w_q ?_ | refine w_s ?_ | refine w_t ?_ | refine w_k ?_ | refine y_q ?_ | refine y_s ?_ | refine y_t ?_ | refine y_k ?_ | refine u_n ?_ | refine u_q ?_ | refine u_g ?_ | refine u_d ?_ | refine u_b ?_ | refine u_x ?_ | refine u_r ?_ | refine u_s ?_)
    refine awp_ifT rfl rfl ?_
    repeat (first | refine w_q ?_ | refine w_s ?_ | refine w_t ?_ | refine w_k ?_ | refine y_q ?_ | refine y_s ?_ | refine y_t ?_ | refine y_k ?_ | refine u_n ?_ | refine u_q ?_ | refine u_g ?_ | refine u_d ?_ | refine u_b ?_ | refine u_x ?_ | refine u_r ?_ | refine u_s ?_)
    rw [bad (fun hc => by omega)]
    (refine u_0 ?_; (repeat' (first | exact RetRelL.nil | refine RetRel.nil rfl ?_ | refine RetRelL.cons ?_ ?_ | refine rr_tup ?_ | refine rr_agg ?_ | refine rr_own rfl ?_ | exact RetRel.arg | exact RetRel.argc | refine rr_t ?_)); all_goals rfl)
  simp [icmp] at h3
  have hb : b.length = a.length := by omega
  repeat (first | refine w_q ?_ | refine w_s ?_ | refine w_t ?_ | refine w_k ?_ | refine y_q ?_ | refine y_s ?_ | refine y_t ?_ | refine y_k ?_ | refine u_n ?_ | refine u_q ?_ | refine u_g ?_ | refine u_d ?_ | refine u_b ?_ | refine u_x ?_ | refine u_r ?_ | refine u_s ?_)
  refine lex_if rfl rfl rfl (fun h4 => ?_) (fun h4 => ?_)
  · simp [icmp] at h4
    repeat (first | refine w_q ?_ | refine w_s ?_ | refine w_t ?_ | refine w_k ?_ | refine y_q ?_ | refine y_s ?_ | refine y_t ?_ | refine y_k ?_ | refine u_n ?_ | refine u_q ?_ | refine u_g ?_ | refine u_d ?_ | refine u_b ?_ | refine u_x ?_ | refine u_r ?_ | refine u_s ?_)
    refine awp_ifT rfl rfl ?_
    repeat (first | refine w_q ?_ | refine w_s ?_ | refine w_t ?_ | refine w_k ?_ | refine y_q ?_ | refine y_s ?_ | refine y_t ?_ | refine y_k ?_ | refine u_n ?_ | refine u_q ?_ | refine u_g ?_ | refine u_d ?_ | refine u_b ?_ | refine u_x ?_ | refine u_r ?_ | refine u_s ?_)
    rw [bad (fun hc => by omega)]
    (refine u_0 ?_; (repeat' (first | exact RetRelL.nil | refine RetRel.nil rfl ?_ | refine RetRelL.cons ?_ ?_ | refine rr_tup ?_ | refine rr_agg ?_ | refine rr_own rfl ?_ | exact RetRel.arg | exact RetRel.argc | refine rr_t ?_)); all_goals rfl)
  simp [icmp] at h4
  have hc' : c.length = a.length := by omega
  repeat (first | refine w_q ?_ | refine w_s ?_ | refine w_t ?_ | refine w_k ?_ | refine y_q ?_ | refine y_s ?_ | refine y_t ?_ | refine y_k ?_ | refine u_n ?_ | refine u_q ?_ | refine u_g ?_ | refine u_d ?_ | refine u_b ?_ | refine u_x ?_ | refine u_r ?_ | refine u_s ?_)
  (first | (refine w_r (q_mul rfl rfl rfl (by omega)) (h := ?_)) | (refine y_r (q_mul rfl rfl rfl (by omega)) (h := ?_)))
  repeat (first | refine w_q ?_ | refine w_s ?_ | refine w_t ?_ | refine w_k ?_ | refine y_q ?_ | refine y_s ?_ | refine y_t ?_ | refine y_k ?_ | refine u_n ?_ | refine u_q ?_ | refine u_g ?_ | refine u_d ?_ | refine u_b ?_ | refine u_x ?_ | refine u_r ?_ | refine u_s ?_)
  refine lex_if rfl rfl rfl (fun h5 => ?_) (fun h5 => ?_)
  · have h5' : ¬ d.length = a.length * a.length := fun he => by have := e9.2 he; simp [icmp, this] at h5
    repeat (first | refine w_q ?_ | refine w_s ?_ | refine w_t ?_ | refine w_k ?_ | refine y_q ?_ | refine y_s ?_ | refine y_t ?_ | refine y_k ?_ | refine u_n ?_ | refine u_q ?_ | refine u_g ?_ | refine u_d ?_ | refine u_b ?_ | refine u_x ?_ | refine u_r ?_ | refine u_s ?_)
    refine awp_ifT rfl rfl ?_
    repeat (first | refine w_q ?_ | refine w_s ?_ | refine w_t ?_ | refine w_k ?_ | refine y_q ?_ | refine y_s ?_ | refine y_t ?_ | refine y_k ?_ | refine u_n ?_ | refine u_q ?_ | refine u_g ?_ | refine u_d ?_ | refine u_b ?_ | refine u_x ?_ | refine u_r ?_ | refine u_s ?_)
    rw [bad (fun hc => h5' hc.2.2.2.2.1)]
    (refine u_0 ?_; (repeat' (first | exact RetRelL.nil | refine RetRel.nil rfl ?_ | refine RetRelL.cons ?_ ?_ | refine rr_tup ?_ | refine rr_agg ?_ | refine rr_own rfl ?_ | exact RetRel.arg | exact RetRel.argc | refine rr_t ?_)); all_goals rfl)
  have hd : d.length = a.length * a.length := e9.1 (by simpa [icmp] using h5)
  repeat (first | refine w_q ?_ | refine w_s ?_ | refine w_t ?_ | refine w_k ?_ | refine y_q ?_ | refine y_s ?_ | refine y_t ?_ | refine y_k ?_ | refine u_n ?_ | refine u_q ?_ | refine u_g ?_ | refine u_d ?_ | refine u_b ?_ | refine u_x ?_ | refine u_r ?_ | refine u_s ?_)
  (first | refine c_q (areFinite_c a ka) (h := ?_) | refine z_q (areFinite_c a ka) (h := ?_))
  repeat (first | refine w_q ?_ | refine w_s ?_ | refine w_t ?_ | refine w_k ?_ | refine y_q ?_ | refine y_s ?_ | refine y_t ?_ | refine y_k ?_ | refine u_n ?_ | refine u_q ?_ | refine u_g ?_ | refine u_d ?_ | refine u_b ?_ | refine u_x ?_ | refine u_r ?_ | refine u_s ?_)
  refine lex_if rfl rfl rfl (fun h6 => ?_) (fun h6 => ?_)
  · simp only [Bool.not_eq_true'] at h6
    repeat (first | refine w_q ?_ | refine w_s ?_ | refine w_t ?_ | refine w_k ?_ | refine y_q ?_ | refine y_s ?_ | refine y_t ?_ | refine y_k ?_ | refine u_n ?_ | refine u_q ?_ | refine u_g ?_ | refine u_d ?_ | refine u_b ?_ | refine u_x ?_ | refine u_r ?_ | refine u_s ?_)
    refine awp_ifT rfl rfl ?_
    repeat (first | refine w_q ?_ | refine w_s ?_ | refine w_t ?_ | refine w_k ?_ | refine y_q ?_ | refine y_s ?_ | refine y_t ?_ | refine y_k ?_ | refine u_n ?_ | refine u_q ?_ | refine u_g ?_ | refine u_d ?_ | refine u_b ?_ | refine u_x ?_ | refine u_r ?_ | refine u_s ?_)
    rw [bad (fun hc => by rw [h6] at hc; cases hc.2.2.2.2.2.1)]
    (refine u_0 ?_; (repeat' (first | exact RetRelL.nil | refine RetRel.nil rfl ?_ | refine RetRelL.cons ?_ ?_ | refine rr_tup ?_ | refine rr_agg ?_ | refine rr_own rfl ?_ | exact RetRel.arg | exact RetRel.argc | refine rr_t ?_)); all_goals rfl)
  simp only [Bool.not_eq_false'] at h6
  repeat (first | refine w_q ?_ | refine w_s ?_ | refine w_t ?_ | refine w_k ?_ | refine y_q ?_ | refine y_s ?_ | refine y_t ?_ | refine y_k ?_ | refine u_n ?_ | refine u_q ?_ | refine u_g ?_ | refine u_d ?_ | refine u_b ?_ | refine u_x ?_ | refine u_r ?_ | refine u_s ?_)
  (first | refine c_q (areMore_c b kb) (h := ?_) | refine z_q (areMore_c b kb) (h := ?_))
  repeat (first | refine w_q ?_ | refine w_s ?_ | refine w_t ?_ | refine w_k ?_ | refine y_q ?_ | refine y_s ?_ | refine y_t ?_ | refine y_k ?_ | refine u_n ?_ | refine u_q ?_ | refine u_g ?_ | refine u_d ?_ | refine u_b ?_ | refine u_x ?_ | refine u_r ?_ | refine u_s ?_)
  refine lex_if rfl rfl rfl (fun h7 => ?_) (fun h7 => ?_)
  · simp only [Bool.not_eq_true'] at h7
    repeat (first | refine w_q ?_ | refine w_s ?_ | refine w_t ?_ | refine w_k ?_ | refine y_q ?_ | refine y_s ?_ | refine y_t ?_ | refine y_k ?_ | refine u_n ?_ | refine u_q ?_ | refine u_g ?_ | refine u_d ?_ | refine u_b ?_ | refine u_x ?_ | refine u_r ?_ | refine u_s ?_)
    refine awp_ifT rfl rfl ?_
    repeat (first | refine w_q ?_ | refine w_s ?_ | refine w_t ?_ | refine w_k ?_ | refine y_q ?_ | refine y_s ?_ | refine y_t ?_ | refine y_k ?_ | refine u_n ?_ | refine u_q ?_ | refine u_g ?_ | refine u_d ?_ | refine u_b ?_ | refine u_x ?_ | refine u_r ?_ | refine u_s ?_)
    rw [bad (fun hc => by rw [h7] at hc; cases hc.2.2.2.2.2.2.1)]
    (refine u_0 ?_; (repeat' (first | exact RetRelL.nil | refine RetRel.nil rfl ?_ | refine RetRelL.cons ?_ ?_ | refine rr_tup ?_ | refine rr_agg ?_ | refine rr_own rfl ?_ | exact RetRel.arg | exact RetRel.argc | refine rr_t ?_)); all_goals rfl)
  simp only [Bool.not_eq_false'] at h7
  repeat (first | refine w_q ?_ | refine w_s ?_ | refine w_t ?_ | refine w_k ?_ | refine y_q ?_ | refine y_s ?_ | refine y_t ?_ | refine y_k ?_ | refine u_n ?_ | refine u_q ?_ | refine u_g ?_ | refine u_d ?_ | refine u_b ?_ | refine u_x ?_ | refine u_r ?_ | refine u_s ?_)
  (first | refine c_q (areChances_c c kc) (h := ?_) | refine z_q (areChances_c c kc) (h := ?_))
  repeat (first | refine w_q ?_ | refine w_s ?_ | refine w_t ?_ | refine w_k ?_ | refine y_q ?_ | refine y_s ?_ | refine y_t ?_ | refine y_k ?_ | refine u_n ?_ | refine u_q ?_ | refine u_g ?_ | refine u_d ?_ | refine u_b ?_ | refine u_x ?_ | refine u_r ?_ | refine u_s ?_)
  refine awp_if rfl (fun h8 => ?_) (fun h8 => ?_)
  · simp only [Bool.not_eq_true'] at h8
    repeat (first | refine w_q ?_ | refine w_s ?_ | refine w_t ?_ | refine w_k ?_ | refine y_q ?_ | refine y_s ?_ | refine y_t ?_ | refine y_k ?_ | refine u_n ?_ | refine u_q ?_ | refine u_g ?_ | refine u_d ?_ | refine u_b ?_ | refine u_x ?_ | refine u_r ?_ | refine u_s ?_)
    rw [bad (fun hc => by rw [h8] at hc; cases hc.2.2.2.2.2.2.2.1)]
    (refine u_0 ?_; (repeat' (first | exact RetRelL.nil | refine RetRel.nil rfl ?_ | refine RetRelL.cons ?_ ?_ | refine rr_tup ?_ | refine rr_agg ?_ | refine rr_own rfl ?_ | exact RetRel.arg | exact RetRel.argc | refine rr_t ?_)); all_goals rfl)
  simp only [Bool.not_eq_false'] at h8
  repeat (first | refine w_q ?_ | refine w_s ?_ | refine w_t ?_ | refine w_k ?_ | refine y_q ?_ | refine y_s ?_ | refine y_t ?_ | refine y_k ?_ | refine u_n ?_ | refine u_q ?_ | refine u_g ?_ | refine u_d ?_ | refine u_b ?_ | refine u_x ?_ | refine u_r ?_ | refine u_s ?_)
  show AWx _ _ _ _ _ _ _ _
  intro μ act wA hst
  have hV : (∀ k : Fin a.length, chOk (rowR d a.length k.1) = true) → valR4 a b c d = true := fun hk => by
    simp only [valR4, Bool.and_eq_true, decide_eq_true_eq, and_assoc]
    exact ⟨by omega, by omega, hb, hc', hd, h6, h7, h8, List.all_eq_true.2 fun j hj => hk ⟨j, List.mem_range.1 hj⟩⟩
  have hnV : (∃ k : Fin a.length, chOk (rowR d a.length k.1) = false) → valR4 a b c d = false := fun ⟨k, hk⟩ => bad fun hc => by
    have := List.all_eq_true.1 hc.2.2.2.2.2.2.2.2 k.1 (List.mem_range.2 k.2)
    rw [hk] at this; cases this
  have s1 := hst.slots 1
  have s2 := hst.slots 2
  have s3 := hst.slots 3
  have hB1 := hst.hc.blk 1 _ rfl
  have hB2 := hst.hc.blk 2 _ rfl
  have hBel : Below w.heap.size w wA := hst.hc.below.below (fun _ h => h)
  have hdf := hst.defers
  have hsz := hst.size
  clear hst
  replace s1 : ∃ b1, μ 1 = some b1 ∧ act.tmps.getD 1 undef = .pointer (some ⟨b1, 0, none⟩) := by
    have s1' : VR _ _ _ _ (.bp 1 0) _ := s1
    rwa [VR] at s1'
  replace s2 : ∃ b2, μ 2 = some b2 ∧ act.tmps.getD 2 undef = .pointer (some ⟨b2, 0, none⟩) := by
    have s2' : VR _ _ _ _ (.bp 2 0) _ := s2
    rwa [VR] at s2'
  replace s3 : act.tmps.getD 3 undef = .int .i64 (a.length : Nat) := by
    have s3' : VR _ _ _ _ (.t (.v (.int .i64 (a.length : Nat)))) _ := s3
    rwa [VR, TR] at s3'
  obtain ⟨b1, m1, s1⟩ := s1
  obtain ⟨b2, m2, s2⟩ := s2
  -- the argument's last field
  have hargs0 := hargs
  rw [TRl] at hargs
  obtain ⟨y0, ys, rfl, hy0, hys⟩ := hargs
  rw [TRl] at hys
  subst hys
  rw [TR] at hy0
  obtain ⟨xsA, rfl, hxs⟩ := hy0
  simp only [TRl] at hxs
  obtain ⟨va, r0, e0, hva, vb, r1, e1, hvb, vc, r2, e2, hvc, vd, r3, e3, hvd, e4⟩ := hxs
  subst e4; subst e3; subst e2; subst e1
  have hxsA : xsA = #[va, vb, vc, vd] := by rw [← Array.toList_inj]; exact e0
  subst hxsA
  rw [TR] at hvd
  obtain ⟨ad, nd, cap, rfl, hnd, hcap, hcells⟩ := hvd
  have hpos : 1 ≤ a.length * a.length := Nat.mul_le_mul (by omega : 1 ≤ a.length) (by omega : 1 ≤ a.length)
  rcases hcells with h0 | ⟨bb, off, rfl, hbb, _, hcells⟩
  · omega
  rw [hd] at hnd
  subst hnd
  -- the two boxes
  rw [BlkR] at hB1 hB2
  obtain ⟨b1', cs1, m1', g1, q1, v1⟩ := hB1
  obtain ⟨b2', cs2, m2', g2, q2, v2⟩ := hB2
  rw [m1] at m1'; rw [m2] at m2'
  cases m1'; cases m2'
  have g1' : w.heap.size ≤ b1 := g1.resolve_right (fun h => h)
  have g2' : w.heap.size ≤ b2 := g2.resolve_right (fun h => h)
  simp only [VRl, VR] at v1
  obtain ⟨u0, _, f0, _, u1, _, f1, _, u2, _, f2, _, u3, _, f3, ⟨⟨xz, hz1, hz2⟩, _⟩, f4⟩ := v1
  subst f4; subst f3; subst f2; subst f1
  simp only [List.getElem?_cons_zero, Option.some.injEq, Value.agg.injEq] at hz1
  subst hz1
  simp only [List.getElem?_toArray, List.getElem?_cons_succ, List.getElem?_cons_zero, Option.some.injEq] at hz2
  subst hz2
  have hcs1 : cs1 = #[u0, u1, u2, .slice (some ⟨bb, off, none⟩) (a.length * a.length) cap] := by rw [← Array.toList_inj]; exact f0
  subst hcs1
  have hcs2 : cs2 = #[.bool false] := by
    rw [← Array.toList_inj]
    have v2' : VRl _ _ _ _ [.t (.v (.bool false))] cs2.toList := v2
    simp only [VRl, VR, TR] at v2'
    obtain ⟨x, ys, h1, h2, h3⟩ := v2'
    rw [h1, h2, h3]
  subst hcs2
  have c3 : wA.cell? ⟨b1, 3, none⟩ = some (.slice (some ⟨bb, off, none⟩) (a.length * a.length) cap) := by simp [World.cell?, q1]
  have c2 : wA.cell? ⟨b2, 0, none⟩ = some (.bool false) := by simp [World.cell?, q2]
  have z2 : wA.frozen? ⟨b2, 0, none⟩ = false := by simp [World.frozen?, q2]
  have hl2 : b2 < wA.heap.size := (Array.getElem?_eq_some_iff.1 q2).1
  have hrow : ∀ (k : Fin a.length) (W : World), Below w.heap.size w W → TRl W (fun _ => True) [.fl (rowR d a.length k.1)] [.slice (some ⟨bb, off + k.1 * a.length, none⟩) a.length a.length] := fun k W hW => by
    have hlen := rowR_len hd k.2
    simp only [TRl, TR]
    refine ⟨_, _, rfl, ⟨_, _, _, rfl, hlen.symm, Nat.le_refl _, .inr ⟨bb, off + k.1 * a.length, rfl, Nat.lt_of_lt_of_le hbb hW.size, trivial, fun i hi => ?_⟩⟩, rfl⟩
    have hmul : (k.1 + 1) * a.length ≤ a.length * a.length := Nat.mul_le_mul_right _ k.2
    have hmul2 : (k.1 + 1) * a.length = k.1 * a.length + a.length := by rw [Nat.add_mul, Nat.one_mul]
    obtain ⟨x, hx, hf⟩ := hcells (k.1 * a.length + i) (by omega)
    refine ⟨x, ?_, ?_⟩
    · rw [Nat.add_assoc]
      exact (hW.cell (p := ⟨bb, off + (k.1 * a.length + i), none⟩) hbb).trans hx
    · rw [show (rowR d a.length k.1).getD i 0 = d.getD (k.1 * a.length + i) 0 by
        simp only [rowR, List.getD_eq_getElem?_getD, List.getElem?_drop]
        rw [List.getElem?_take_of_lt (by omega)]]
      exact hf
  obtain ⟨tm, df⟩ := act
  simp only at s1 s2 s3 hdf hsz
  subst hdf
  obtain ⟨x0, x1, x2, x3, x4, x5, x6, x7, x8, x9, x10, x11, x12, x13, x14, x15, x16, x17, x18, x19, x20, x21, x22, x23, x24, x25, x26, x27, x28, x29, x30, x31, x32, x33, x34, x35, x36, x37, x38, x39, x40, x41, x42, x43, x44, x45, x46, x47, x48, x49, x50, x51, x52, x53, x54, x55, x56, x57, x58, x59, x60, x61, x62, rfl⟩ : ∃ x0 x1 x2 x3 x4 x5 x6 x7 x8 x9 x10 x11 x12 x13 x14 x15 x16 x17 x18 x19 x20 x21 x22 x23 x24 x25 x26 x27 x28 x29 x30 x31 x32 x33 x34 x35 x36 x37 x38 x39 x40 x41 x42 x43 x44 x45 x46 x47 x48 x49 x50 x51 x52 x53 x54 x55 x56 x57 x58 x59 x60 x61 x62, tm = #[x0, x1, x2, x3, x4, x5, x6, x7, x8, x9, x10, x11, x12, x13, x14, x15, x16, x17, x18, x19, x20, x21, x22, x23, x24, x25, x26, x27, x28, x29, x30, x31, x32, x33, x34, x35, x36, x37, x38, x39, x40, x41, x42, x43, x44, x45, x46, x47, x48, x49, x50, x51, x52, x53, x54, x55, x56, x57, x58, x59, x60, x61, x62] := ⟨_, _, _, _, _, _, _, _, _, _, _, _, _, _, _, _, _, _, _, _, _, _, _, _, _, _, _, _, _, _, _, _, _, _, _, _, _, _, _, _, _, _, _, _, _, _, _, _, _, _, _, _, _, _, _, _, _, _, _, _, _, _, _, arr_all hsz⟩
  have s1' : x1 = .pointer (some ⟨b1, 0, none⟩) := s1
  have s2' : x2 = .pointer (some ⟨b2, 0, none⟩) := s2
  have s3' : x3 = .int .i64 (a.length : Nat) := s3
  subst s1'; subst s2'; subst s3'
  clear s1 s2 s3 hsz q1 q2 v2 m1 m2 g1 g2
  have hm : 1 ≤ a.length ∧ a.length ≤ 3 := by omega
  refine (wpIn_wide (n := 6)).1 ?_
  gi_wp2_with (refine ⟨trivial, ?_⟩; gi_at_call 50; refine (chunk_in _ _ _ _ _ (by omega) _).mono ?_; rintro e w' ⟨rfl, rfl⟩)
  have bN := Boxed.new wA 24 (.slice (some ⟨bb, off, none⟩) (a.length * a.length) cap)
  have bM := Boxed.new (wA.alloc (.cells #[.slice (some ⟨bb, off, none⟩) (a.length * a.length) cap] 24)) 3 (.int .i64 (a.length : Nat))
  rw [World.size_alloc] at bM
  have hB0 : Below wA.heap.size wA ((wA.alloc (.cells #[.slice (some ⟨bb, off, none⟩) (a.length * a.length) cap] 24)).alloc (.cells #[.int .i64 (a.length : Nat)] 3)) := ((Below.refl _ wA).alloc (Nat.le_refl _) _).alloc (by simp) _
  obtain ⟨w1, hw1⟩ : ∃ w1, ((wA.alloc (.cells #[.slice (some ⟨bb, off, none⟩) (a.length * a.length) cap] 24)).alloc (.cells #[.int .i64 (a.length : Nat)] 3)) = w1 := ⟨_, rfl⟩
  have hs1 : w1.heap.size = wA.heap.size + 2 := by rw [← hw1]; simp
  have cN : w1.cell? ⟨wA.heap.size, 0, none⟩ = some (.slice (some ⟨bb, off, none⟩) (a.length * a.length) cap) := by rw [← hw1]; exact (bN.alloc _).cell
  have cM : w1.cell? ⟨wA.heap.size + 1, 0, none⟩ = some (.int .i64 (a.length : Nat)) := by rw [← hw1]; exact bM.cell
  rw [hw1] at hB0 ⊢
  have c2' : w1.cell? ⟨b2, 0, none⟩ = some (.bool false) := (hB0.cell (p := ⟨b2, 0, none⟩) hl2).trans c2
  have z2' : w1.frozen? ⟨b2, 0, none⟩ = false := (hB0.frozen (p := ⟨b2, 0, none⟩) hl2).trans z2
  have hl1 : b2 < w1.heap.size := by omega
  have hBw : Below w.heap.size w w1 := hBel.trans (hB0.mono hBel.size)
  have hsw : w.heap.size ≤ w1.heap.size := hBw.size
  refine wpIn_rangeFunc_ownF rfl (by omega) (gf := 92) (lb := #[.pointer (some ⟨wA.heap.size, 0, none⟩), .pointer (some ⟨wA.heap.size + 1, 0, none⟩)]) rfl trivial (enters_of Try.func92 (by kernel_rfl) rfl)
    (chunk_stops _ (by omega) wA.heap.size (wA.heap.size + 1) w1.heap.size bb off cap a.length hm (by omega) w1 (by omega) (by omega) (Nat.le_refl _) cN cM) belowK_t (belowK_b (Nat.le_refl _)) (Below.refl _ _) (fun _ => rfl)
    (fun pre W => (∀ x ∈ pre, chOk (rowR d a.length x.1) = true) ∧ Below w1.heap.size w1 W)
    (fun c pre W => (c = .ret ∧ (∃ x : Fin a.length, chOk (rowR d a.length x.1) = false) ∧ W.cell? ⟨b2, 0, none⟩ = some (.bool false)) ∧ Below w.heap.size w W)
    (OwnFrom.and (Own.from (fun s A B row hs hg hr => hs) _) (ownFrom_below (Nat.le_refl _) (Nat.le_refl _)))
    (fun c => OwnFrom.and (Own.from (fun s A B row hs hg hr => ⟨hs.1, hs.2.1, cell_kept hs.2.2 hg hr⟩) _) (ownFrom_below (Nat.le_refl _) hsw))
    ⟨(fun x hx => by cases hx), Below.refl _ _⟩
    (fun x => { tmps := #[x0, .pointer (some ⟨b1, 0, none⟩), .pointer (some ⟨b2, 0, none⟩), .int .i64 (a.length : Nat), .slice (some ⟨bb, off + x.1 * a.length, none⟩) a.length a.length, x5, x6, x7, x8, x9, x10, x11, x12, x13, x14, x15, x16, x17, x18, x19, x20, x21, x22, x23, x24, x25, x26, x27, x28, x29, x30, x31, x32, x33, x34, x35, x36, x37, x38, x39, x40, x41, x42, x43, x44, x45, x46, x47, x48, x49, x50, x51, x52, x53, x54, .pointer (some ⟨b1, 3, none⟩), .slice (some ⟨bb, off, none⟩) (a.length * a.length) cap, .int .i64 (a.length : Nat), .func (.func 92) #[] #[.pointer (some ⟨wA.heap.size, 0, none⟩), .pointer (some ⟨wA.heap.size + 1, 0, none⟩)], .slice (some ⟨bb, off + x.1 * a.length, none⟩) a.length a.length, x60, x61, x62], defers := [] }) ?assign ?body ?done ?stop
  case assign =>
    intro l x W K hK
    gi_wp2
    exact hK
  case body =>
    rintro l pre x W ⟨hp, hB⟩ _
    have hBW : Below w.heap.size w W := hBw.trans (hB.mono hsw)
    have hcall := calls_val (areChances_c (rowR d a.length x.1) (by rw [rowR_len hd x.2]; omega)) (w := W) (args := #[.slice (some ⟨bb, off + x.1 * a.length, none⟩) a.length a.length]) (hrow x W hBW)
    have hl3 : b2 < W.heap.size := Nat.lt_of_lt_of_le hl1 hB.size
    have c4 : W.cell? ⟨b2, 0, none⟩ = some (.bool false) := (hB.cell (p := ⟨b2, 0, none⟩) hl1).trans c2'
    have z4 : W.frozen? ⟨b2, 0, none⟩ = false := (hB.frozen (p := ⟨b2, 0, none⟩) hl1).trans z2'
    have hko : ∀ W2, Below W.heap.size W W2 → KeepsOthers W W2 := fun W2 h2 => ⟨h2.size, fun k o hk _ => (h2.block k (Array.getElem?_eq_some_iff.1 hk).1).trans hk⟩
    cases hx : chOk (rowR d a.length x.1) with
    | true =>
      rw [hx] at hcall
      gi_wp2_with (refine ⟨trivial, ?_⟩; gi_at_call 49; refine (CallsIn.inRound l (callsIn_wide.2 hcall)).mono ?_; rintro e W2 ⟨rfl, hB2⟩)
      refine ⟨hko _ hB2, hB2.mono hB.size, fun y hy => (List.mem_append.1 hy).elim (hp y) (fun e => by simp at e; subst e; exact hx), hB.trans (hB2.mono hB.size)⟩
    | false =>
      rw [hx] at hcall
      gi_wp2_with (refine ⟨trivial, ?_⟩; gi_at_call 49; refine (CallsIn.inRound l (callsIn_wide.2 hcall)).mono ?_; rintro e W2 ⟨rfl, hB2⟩; have c5 : W2.cell? ⟨b2, 0, none⟩ = some (.bool false) := (hB2.cell (p := ⟨b2, 0, none⟩) hl3).trans c4; have z5 : W2.frozen? ⟨b2, 0, none⟩ = false := (hB2.frozen (p := ⟨b2, 0, none⟩) hl3).trans z4)
      refine ⟨(hko _ hB2).trans (KeepsOthers.setCell _ _ _), ⟨rfl, ⟨x, hx⟩, World.cell?_setCell_same' _ _ _ (by rw [c5]; rfl)⟩, ?_⟩
      exact (hBW.trans (hB2.mono hBW.size)).setCell (p := ⟨b2, 0, none⟩) g2' _
  case done =>
    rintro D ys W hD hall ⟨hp, hB⟩ hK
    have c4 : W.cell? ⟨b2, 0, none⟩ = some (.bool false) := (hB.cell (p := ⟨b2, 0, none⟩) hl1).trans c2'
    have z4 : W.frozen? ⟨b2, 0, none⟩ = false := (hB.frozen (p := ⟨b2, 0, none⟩) hl1).trans z2'
    have hBW : Below w.heap.size w W := hBw.trans (hB.mono hsw)
    gi_wp2
    have hK' := (KeepsOthers.setCell W ⟨b2, 0, none⟩ (.bool true)).same D _ hK rfl
    refine ⟨by simp, .inl ⟨_, _, rfl, run_takeDeferred hK', ?_⟩⟩
    have hc5 := cell_kept (World.cell?_setCell_same' W ⟨b2, 0, none⟩ (.bool true) (by rw [c4]; rfl)) (grownBy_putObj' _ D (.deferred none)) (fun r e => by cases e; exact ⟨_, hK', rfl⟩)
    rw [hV (fun k => hp k (hall k))]
    refine ⟨.bool true, ?_, rfl, (hBW.setCell (p := ⟨b2, 0, none⟩) g2' _).trans (belowK_b (w := w1) hsw _ D _ _ hD hK' rfl rfl)⟩
    simp [results, Try.f14, go_sem, hc5]
  case stop =>
    rintro D c0 pre W hD _ ⟨⟨rfl, hbad, hcr⟩, hB⟩ hK
    gi_wp2
    refine ⟨by simp, .inl ⟨_, _, rfl, run_takeDeferred hK, ?_⟩⟩
    have hc5 := cell_kept hcr (grownBy_putObj' _ D (.deferred none)) (fun r e => by cases e; exact ⟨_, hK, rfl⟩)
    rw [hnV hbad]
    refine ⟨.bool false, ?_, rfl, hB.trans (belowK_b (w := w1) hsw _ D _ _ hD hK rfl rfl)⟩
    simp [results, Try.f14, go_sem, hc5]
end Go.Proofs.Ytpdnjcblkjjegaa

