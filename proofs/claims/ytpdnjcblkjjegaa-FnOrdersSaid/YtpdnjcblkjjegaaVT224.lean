import Derived.Test.YtpdnjcblkjjegaaVT105
import Derived.Test.YtpdnjcblkjjegaaVAwM
import Derived.Test.YtpdnjcblkjjegaaVT70
import Derived.Test.YtpdnjcblkjjegaaVT140
import Derived.Test.YtpdnjcblkjjegaaVT158
import Derived.Test.YtpdnjcblkjjegaaVT222
set_option linter.unusedVariables false
set_option linter.unusedSimpArgs false
set_option maxRecDepth 100000
set_option maxHeartbeats 16000000
namespace Go.Proofs.Ytpdnjcblkjjegaa
open Go.Aw

/-! ### the walk of FnOrders, over data that are named -/
abbrev opD (o : OP) : RV := .tup [.t (.fl o.p), .t (.f .f32 o.s), .t (.v (.bool o.ok))]
theorem tcall_opD {P : Program} {f : FuncId} {ts : List T} {o : OP} (h : TCall P f ts (opR o) (opH o)) : TCall P f ts (opD o) [] := by
  refine ⟨h.1, fun w args ha => (h.2 w args ha).mono ?_⟩
  rintro e' w' ⟨y, μ, rfl, hc, hr⟩
  refine ⟨y, fun _ => none, rfl, hc_none hc, ?_⟩
  rw [RRel] at hr
  obtain ⟨xs, rfl, hr⟩ := hr
  simp only [RRell] at hr
  obtain ⟨x1, r1, e1, h1, x2, r2, e2, h2, x3, r3, e3, h3, e4⟩ := hr
  rw [RRel]
  refine ⟨xs, rfl, ?_⟩
  rw [e1, e2, e3, e4]
  simp only [RRell, RRel]
  exact ⟨_, _, rfl, own_fl hc h1 rfl, _, _, rfl, dat_f h2, _, _, rfl, dat_v h3, rfl⟩
structure OG (code more a : List Nat) (o : Nat → OP) (b : BO) (w v : OP) (x1 x2 x3 x4 : Nat) : Prop where
  t0 : TCall Try.prog 7 [BY more, .v (.int .i64 0), .v (.int .i64 20)] (.t (.v (.int .i64 ((a.length : Int) - 10)))) []
  tA : TCall Try.prog 8 [BY code, .v (.int .i64 (a.length : Nat))] (.t (.fl a)) []
  t1 : TCall Try.prog 7 [BY more, .v (.int .i64 1), .v (.int .i64 5)] (.t (.v (.int .i64 (x1 : Nat)))) []
  hx1 : x1 < 5
  tO1 : ∀ m : Nat, m ≤ 4 → TCall Try.prog 23 [.fl a, .v (.int .i64 (m : Nat))] (opD (o m)) []
  tO2 : ∀ m : Nat, m ≤ 4 → TCall Try.prog 22 [.fl a, .v (.int .i64 (m : Nat))] (opD (o m)) []
  ol : ∀ m, m ≤ 4 → (o m).ok = true → (o m).p.length = m
  sp : ∀ m, m ≤ 3 → (o m).ok = true → (o (m + 1)).ok = true → fcmp .gtr .f64 (fconv .f32 .f64 (o (m + 1)).s) (fop .mul .f64 (fconv .f32 .f64 (o m).s) 4607186922399644778) = false
  t2 : TCall Try.prog 7 [BY more, .v (.int .i64 2), .v (.int .i64 2)] (.t (.v (.int .i64 (x2 : Nat)))) []
  tB1 : TCall Try.prog 24 [.fl a, .v (.int .i64 (x1 : Nat)), .v (.int .i64 (x2 : Nat))] (boR b) []
  tB2 : TCall Try.prog 25 [.fl a, .v (.int .i64 (x1 : Nat)), .v (.int .i64 (x2 : Nat))] (boR b) []
  tR1 : TCall Try.prog 26 [.fl a, .v (.int .i64 2)] (opD w) []
  tR2 : TCall Try.prog 27 [.fl a, .v (.int .i64 2)] (opD w) []
  rs : w.ok = true → fcmp .lss .f32 w.s 0 = false
  t3 : TCall Try.prog 7 [BY more, .v (.int .i64 3), .v (.int .i64 3)] (.t (.v (.int .i64 (x3 : Nat)))) []
  hx3 : x3 < 3
  t4 : TCall Try.prog 7 [BY more, .v (.int .i64 4), .v (.int .i64 10)] (.t (.v (.int .i64 (x4 : Nat)))) []
  tM1 : TCall Try.prog 28 [.fl a, .v (.int .i64 (1 + (x3 : Int))), .v (.int .i64 (x4 : Nat))] (opD v) []
  tM2 : TCall Try.prog 29 [.fl a, .v (.int .i64 (1 + (x3 : Int))), .v (.int .i64 (x4 : Nat))] (opD v) []
  lo : ∀ m, (o m).p.length ≤ 100
  lw : w.p.length ≤ 100
  lv : v.p.length ≤ 100
  an : 10 ≤ a.length ∧ a.length ≤ 29
attribute [local irreducible] QRun LexD AWp TCall TMut fop fint fcmp fconv
theorem walkO_14 {code more a : List Nat} {o : Nat → OP} {b : BO} {w v : OP} {x1 x2 x3 x4 : Nat} (F : OG code more a o b w v x1 x2 x3 x4) :
    AWp Try.prog Try.f4.ntmps (tlF Try.f4 14) (RetQ Try.prog Try.f4 (.t (.v (.bool true))) []) (lkF [(1, .arg 1 (BY more)), (6, .t (.fl a))]) (lkH []) := by
  have hx3 := F.hx3
  have hlv := F.lv
  refine V4 ?_
  (first | refine c_q (F.t3) (h := ?_) | refine z_q (F.t3) (h := ?_))
  refine V4 ?_
  (first | refine c_q (F.t4) (h := ?_) | refine z_q (F.t4) (h := ?_))
  refine V4 ?_
  (first | refine c_q (F.tM1) (h := ?_) | refine z_q (F.tM1) (h := ?_))
  refine V4 ?_
  (first | refine c_q (F.t3) (h := ?_) | refine z_q (F.t3) (h := ?_))
  refine V4 ?_
  (first | refine c_q (F.t4) (h := ?_) | refine z_q (F.t4) (h := ?_))
  refine V4 ?_
  (first | refine c_q (F.tM2) (h := ?_) | refine z_q (F.tM2) (h := ?_))
  refine V4 ?_
  cases hv : v.ok with
  | true =>
    refine V4 ?_
    (first | (refine c_q (b10List_self v.p (by omega)) (h := ?_)) | (refine z_q (b10List_self v.p (by omega)) (h := ?_)))
    refine V4 ?_
    (first | refine c_q (specSameN_self v.s) (h := ?_) | refine z_q (specSameN_self v.s) (h := ?_))
    refine V4 ?_
    (refine u_0 ?_; (repeat' (first | exact RetRelL.nil | refine RetRel.nil rfl ?_ | refine RetRelL.cons ?_ ?_ | refine rr_tup ?_ | refine rr_agg ?_ | refine rr_own rfl ?_ | exact RetRel.arg | exact RetRel.argc | refine rr_t ?_)); all_goals rfl)
  | false =>
    refine V4 ?_
    (refine u_0 ?_; (repeat' (first | exact RetRelL.nil | refine RetRel.nil rfl ?_ | refine RetRelL.cons ?_ ?_ | refine rr_tup ?_ | refine rr_agg ?_ | refine rr_own rfl ?_ | exact RetRel.arg | exact RetRel.argc | refine rr_t ?_)); all_goals rfl)
theorem walkO_11 {code more a : List Nat} {o : Nat → OP} {b : BO} {w v : OP} {x1 x2 x3 x4 : Nat} (F : OG code more a o b w v x1 x2 x3 x4) :
    AWp Try.prog Try.f4.ntmps (tlF Try.f4 11) (RetQ Try.prog Try.f4 (.t (.v (.bool true))) []) (lkF [(1, .arg 1 (BY more)), (6, .t (.fl a))]) (lkH []) := by
  have hlw := F.lw
  refine V4 ?_
  (first | refine c_q (F.tR1) (h := ?_) | refine z_q (F.tR1) (h := ?_))
  refine V4 ?_
  (first | refine c_q (F.tR2) (h := ?_) | refine z_q (F.tR2) (h := ?_))
  refine V4 ?_
  have hrs := F.rs
  cases hv : w.ok with
  | true =>
    have hrs := hrs hv
    refine V4 ?_
    (first | (refine c_q (b10List_self w.p (by omega)) (h := ?_)) | (refine z_q (b10List_self w.p (by omega)) (h := ?_)))
    refine V4 ?_
    (first | refine c_q (specSameN_self w.s) (h := ?_) | refine z_q (specSameN_self w.s) (h := ?_))
    refine V4 ?_
    rw [hrs]
    refine V4 ?_
    refine awp_ifF rfl rfl ?_
    refine u_s ?_
    exact awp_weak (fun i => i) _ _ (by exact ⟨rfl, rfl, trivial⟩) (by exact trivial) (injOn_id _) (walkO_14 F)
  | false =>
    refine V4 ?_
    refine awp_ifF rfl rfl ?_
    refine u_s ?_
    exact awp_weak (fun i => i) _ _ (by exact ⟨rfl, rfl, trivial⟩) (by exact trivial) (injOn_id _) (walkO_14 F)
theorem walkO_7 {code more a : List Nat} {o : Nat → OP} {b : BO} {w v : OP} {x1 x2 x3 x4 : Nat} (F : OG code more a o b w v x1 x2 x3 x4) :
    AWp Try.prog Try.f4.ntmps (tlF Try.f4 7) (RetQ Try.prog Try.f4 (.t (.v (.bool true))) []) (lkF [(1, .arg 1 (BY more)), (6, .t (.fl a)), (7, .t (.v (.int .i64 (x1 : Nat))))]) (lkH []) := by
  refine V4 ?_
  (first | refine c_q (F.t2) (h := ?_) | refine z_q (F.t2) (h := ?_))
  refine V4 ?_
  (first | refine c_q (F.tB1) (h := ?_) | refine z_q (F.tB1) (h := ?_))
  refine V4 ?_
  (first | refine c_q (F.tB2) (h := ?_) | refine z_q (F.tB2) (h := ?_))
  refine V4 ?_
  cases hv : b.ok with
  | true =>
    refine V4 ?_
    try (first | refine c_q (specSameN_self b.c) (h := ?_) | refine z_q (specSameN_self b.c) (h := ?_))
    refine V4 ?_
    refine awp_ifF rfl rfl ?_
    refine u_s ?_
    exact awp_weak (fun i => i) _ _ (by exact ⟨rfl, rfl, trivial⟩) (by exact trivial) (injOn_id _) (walkO_11 F)
  | false =>
    refine V4 ?_
    refine awp_ifF rfl rfl ?_
    refine u_s ?_
    exact awp_weak (fun i => i) _ _ (by exact ⟨rfl, rfl, trivial⟩) (by exact trivial) (injOn_id _) (walkO_11 F)
/-- the loop over orders -/
theorem walkO_6 {code more a : List Nat} {o : Nat → OP} {b : BO} {w v : OP} {x1 x2 x3 x4 : Nat} (F : OG code more a o b w v x1 x2 x3 x4) :
    AWp Try.prog Try.f4.ntmps (tlF Try.f4 6) (RetQ Try.prog Try.f4 (.t (.v (.bool true))) []) (lkF [(1, .arg 1 (BY more)), (6, .t (.fl a)), (7, .t (.v (.int .i64 (x1 : Nat)))), (9, .t (.f .f32 (o 0).s)), (10, .t (.v (.bool (o 0).ok)))]) (lkH []) := by
  have hx1 := F.hx1
  have hlo := F.lo
  refine V4 ?_
  refine awp_loop (X := Nat) (fun m => m ≤ x1 ∧ ((o 0).ok = true → (o m).ok = true)) (fun m => [(1, .arg 1 (BY more)), (6, .t (.fl a)), (7, .t (.v (.int .i64 (x1 : Nat)))), (9, .t (.f .f32 (o m).s)), (10, .t (.v (.bool (o 0).ok))), (11, .t (.v (.int .i64 (1 + (m : Int)))))]) (fun _ => []) (fun m => x1 - m)
    0 ⟨⟨by omega, id⟩, fun i => i, ⟨rfl, rfl, rfl, rfl, rfl, rfl, trivial⟩, trivial, injOn_id _⟩ (fun m hm => ?_)
  refine V4 ?_
  rcases Nat.lt_or_ge m x1 with hlt | hge
  · have e : icmp .leq (1 + (m : Int)) (x1 : Int) = true := by simp only [icmp]; exact decide_eq_true (by omega)
    rw [e]
    cases hk : (o 0).ok with
    | false =>
      refine V4 ?_
      refine awp_ifF rfl rfl ?_
      refine u_x ?_
      exact awp_weak (fun i => i) _ _ (by exact ⟨rfl, rfl, rfl, trivial⟩) (by exact trivial) (injOn_id _) (walkO_7 F)
    | true =>
      have hom := hm.2 hk
      have tO1 := F.tO1 (m + 1) (by omega)
      have tO2 := F.tO2 (m + 1) (by omega)
      have hol := F.ol (m + 1) (by omega)
      have hsp := F.sp m (by omega) hom
      have hl2 := hlo (m + 1)
      rw [show (((m + 1 : Nat)) : Int) = 1 + (m : Int) by omega] at tO1 tO2
      refine V4 ?_
      refine awp_ifT rfl rfl ?_
      refine V4 ?_
      (first | refine c_q (tO1) (h := ?_) | refine z_q (tO1) (h := ?_))
      refine V4 ?_
      (first | refine c_q (tO2) (h := ?_) | refine z_q (tO2) (h := ?_))
      refine V4 ?_
      cases hm1 : (o (m + 1)).ok with
      | false =>
        refine V4 ?_
        refine awp_ifF rfl rfl ?_
        refine V4 ?_
        refine awp_ifT rfl rfl ?_
        refine V4 ?_
        (refine u_0 ?_; (repeat' (first | exact RetRelL.nil | refine RetRel.nil rfl ?_ | refine RetRelL.cons ?_ ?_ | refine rr_tup ?_ | refine rr_agg ?_ | refine rr_own rfl ?_ | exact RetRel.arg | exact RetRel.argc | refine rr_t ?_)); all_goals rfl)
      | true =>
        have hol := hol hm1
        have hsp := hsp hm1
        refine V4 ?_
        refine awp_ifF rfl rfl ?_
        refine V4 ?_
        refine awp_ifF rfl rfl ?_
        refine V4 ?_
        (first | (refine c_q (b10List_self (o (m + 1)).p (by omega)) (h := ?_)) | (refine z_q (b10List_self (o (m + 1)).p (by omega)) (h := ?_)))
        refine V4 ?_
        (first | (refine c_q (specSameN_self (o (m + 1)).s) (h := ?_)) | (refine z_q (specSameN_self (o (m + 1)).s) (h := ?_)))
        refine V4 ?_
        rw [hsp]
        refine V4 ?_
        refine awp_ifF rfl rfl ?_
        refine V4 ?_
        exact ⟨m + 1, by omega, ⟨by omega, fun _ => hm1⟩, fun i => i, ⟨rfl, rfl, rfl, rfl, rfl, iE3 (by omega), trivial⟩, trivial, injOn_id _⟩
  · have e : icmp .leq (1 + (m : Int)) (x1 : Int) = false := by simp only [icmp]; exact decide_eq_false (by omega)
    rw [e]
    refine V4 ?_
    refine awp_ifF rfl rfl ?_
    refine u_x ?_
    exact awp_weak (fun i => i) _ _ (by exact ⟨rfl, rfl, rfl, trivial⟩) (by exact trivial) (injOn_id _) (walkO_7 F)
theorem walkOrders_c {code more a : List Nat} {o : Nat → OP} {b : BO} {w v : OP} {x1 x2 x3 x4 : Nat} (hc : code.length ≤ 9223372036854775807) (hm : more.length ≤ 9223372036854775807) (hLg : b10Lg code more = false) (F : OG code more a o b w v x1 x2 x3 x4) :
    TCall Try.prog 4 [BY code, BY more] (.t (.v (.bool true))) [] := by
  have han := F.an
  have hx1 := F.hx1
  have e0 : (10 : Int) + ((a.length : Int) - 10) = (a.length : Int) := by omega
  have hlo := F.lo 0
  have tO := F.tO2 0 (by omega)
  refine tcall_of Try.func4 rfl (by kernel_rfl) (Nat.le_of_ble_eq_true rfl) rfl ?_
  simp only [argsL, argAV, argCs, argS]
  refine V4 ?_
  (first | refine c_q (b10Long_c code more hc hm) (h := ?_) | refine z_q (b10Long_c code more hc hm) (h := ?_))
  rw [hLg]
  refine V4 ?_
  refine awp_ifF rfl rfl ?_
  refine V4 ?_
  (first | refine c_q (F.t0) (h := ?_) | refine z_q (F.t0) (h := ?_))
  refine V4 ?_
  rw [e0]
  refine V4 ?_
  (first | refine c_q (F.tA) (h := ?_) | refine z_q (F.tA) (h := ?_))
  refine V4 ?_
  (first | refine c_q (F.t1) (h := ?_) | refine z_q (F.t1) (h := ?_))
  refine V4 ?_
  (first | refine c_q (tO) (h := ?_) | refine z_q (tO) (h := ?_))
  repeat (first | refine x_q ?_ | refine w_q ?_ | refine w_s ?_ | refine w_t ?_ | refine w_k ?_)
  refine u_n ?_
  exact awp_weak (fun i => i) _ _ (by exact ⟨rfl, rfl, rfl, rfl, rfl, trivial⟩) (by exact trivial) (injOn_id _) (walkO_6 F)

end Go.Proofs.Ytpdnjcblkjjegaa

set_option linter.unusedVariables false
set_option linter.unusedSimpArgs false
set_option maxRecDepth 100000
set_option maxHeartbeats 16000000
namespace Go.Proofs.Ytpdnjcblkjjegaa
open Go.Aw

/-! ### the law FnOrders -/
theorem sum_nn {d : List Nat} (hd : ∀ i, i < d.length → F32 (d.getD i 0)) : ∀ n, n ≤ d.length → fin (dotN d d n) = true → Fnt .f32 (dotN d d n) ∧ 0 ≤ rv .f32 (dotN d d n)
  | 0, _, _ => ⟨fnt0, by rw [show dotN d d 0 = 0 from rfl, rv0]; exact Rat.le_refl⟩
  | n + 1, hn, hf => by
    rw [dotN] at hf ⊢
    have h1 : fin (dotN d d n) = true ∧ fin (fop .mul .f32 (d.getD n 0) (d.getD n 0)) = true := by
      rw [fin_R] at hf
      rw [fin_R, fin_R]
      constructor
      · refine Classical.byContradiction fun hc => ?_
        rw [Bool.not_eq_true] at hc
        rw [bad_add_l _ hc] at hf; cases hf
      · refine Classical.byContradiction fun hc => ?_
        rw [Bool.not_eq_true] at hc
        rw [bad_add_r _ hc] at hf; cases hf
    obtain ⟨g1, g2⟩ := sum_nn hd n (by omega) h1.1
    have fc := fnt_of (bnF (.inl rfl) h1.2).1 (hd n (by omega))
    have fm := fnt_of h1.2 (F32_fop _ _ _)
    have hm := (mul_rds fc fc).ge fnt0 fm (by rw [rv0]; exact mulself_nn _)
    rw [rv0] at hm
    have fs := fnt_of hf (F32_fop _ _ _)
    have hs := (add_rds g1 fm).ge fnt0 fs (by rw [rv0]; grind)
    rw [rv0] at hs
    exact ⟨fs, hs⟩
theorem lss_nn {c : Nat} (hc : Fnt .f32 c) (h : 0 ≤ rv .f32 c) : fcmp .lss .f32 c 0 = false := by
  rw [lss_rv hc fnt0, rv0]
  exact decide_eq_false (by grind)
theorem quo_nn {D N : Nat} (hD : Fnt .f32 D) (h0 : 0 ≤ rv .f32 D) (hN : Fnt .f32 N) (hN1 : 0 < rv .f32 N) : fcmp .lss .f32 (fop .quo .f32 D N) 0 = false := by
  by_cases hz : rv .f32 D = 0
  · obtain ⟨xx, hq, hqx⟩ := quo_rds (z := 0) hD hN (by grind) (by rw [hz]; simp)
    have hx0 : xx = 0 := by
      rcases hqx with ⟨_, b, c, _⟩ | ⟨_, b, c, _⟩
      · exact Rat.le_antisymm (by simpa [Rat.add_zero] using c) b
      · exact Rat.le_antisymm b (by have := (show -xx ≤ 0 by simpa [Rat.add_zero] using c); grind)
    have ht := top_big
    have hf : Fnt .f32 (fop .quo .f32 D N) := hq.fin (by rw [hx0]; grind) (by rw [hx0]; grind)
    exact lss_nn hf (by have := hq.ge fnt0 hf (by rw [rv0, hx0]; exact Rat.le_refl); rw [rv0] at this; exact this)
  · obtain ⟨s, r, rfl, hr, hv⟩ := hD.ex
    obtain ⟨t, q, rfl, hq, hw⟩ := hN.ex
    have p1 := rvR_nn .f32 r
    have p2 := rvR_nn .f32 q
    have hs : s = false := by
      cases s
      · rfl
      · rw [if_pos rfl] at hv; grind
    have ht : t = false := by
      cases t
      · rfl
      · rw [if_pos rfl] at hw; grind
    subst hs ht
    have hq0 : q ≠ 0 := by
      rintro rfl
      rw [if_neg Bool.false_ne_true, rvR0] at hw; grind
    obtain ⟨r', e1, e2, _⟩ := quo_halfN hr hq hq0 false false
    rw [e1]
    rcases Nat.lt_or_ge r' FloatKind.f32.format.infRung with h3 | h3
    · exact lss_nn (Fn_word .f32 _ h3) (by rw [rv_word .f32 _ h3]; exact rvR_nn _ _)
    · have : r' = FloatKind.f32.format.infRung := by omega
      subst this
      decide +kernel
theorem orF_nn {a : List Nat} {L : Int} (h : (orF a L).ok = true) : fcmp .lss .f32 (orF a L).s 0 = false := by
  unfold orF at h ⊢
  split at h
  · rename_i hk
    rw [if_pos hk]
    simp only [Bool.and_eq_true] at hk
    rcases colF_cases a L with hc | ⟨hok, N, hC, hy, hs⟩
    · rw [hc] at hk; cases hk.1
    · have hrf := hk.2
      unfold rfF at hrf ⊢
      split at hrf
      · rename_i h5
        rw [if_pos h5]
        unfold rfOk at h5
        simp only [Bool.and_eq_true] at h5
        have hlen : (rfD (colF a L).c (colF a L).y).length = (colF a L).y.length := by unfold rfD; simp [zsub]
        obtain ⟨g1, g2⟩ := sum_nn (d := rfD (colF a L).c (colF a L).y) (fun i hi => by
          unfold rfD
          rw [zsub_get (by omega)]; exact F32_fop _ _ _) _ (Nat.le_refl _) h5.2.2.2
        unfold isSer at hs
        simp only [Bool.and_eq_true, decide_eq_true_eq] at hs
        obtain ⟨k1, k2⟩ := fint_ge1 (n := (colF a L).y.length) (by omega) (by omega)
        exact quo_nn g1 g2 k1 (by grind)
      · cases hrf
  · cases h
theorem ser_l3 {l : List Nat} (h : Byt l) {n : Nat} (h1 : 1 ≤ n) (h2 : n ≤ 29) : Ser (l3L l n) (fun i => dvD l i 33 - 16) := by
  have hl := l3L_len l n
  have hd : ∀ i, -16 ≤ dvD l i 33 - 16 ∧ dvD l i 33 - 16 ≤ 16 := fun i => by have := dvD_rng h i (n := 33) (by omega); omega
  have hq : ∀ i, Fnt .f32 (q4 (dvD l i 33 - 16)) ∧ rv .f32 (q4 (dvD l i 33 - 16)) * 4 = ((dvD l i 33 - 16 : Int) : Rat) := fun i => q4_rv (by have := hd i; omega)
  exact ⟨by omega, by omega, fun i hi => by rw [l3L_get (by omega)]; exact (hq i).1, fun i hi => by rw [l3L_get (by omega)]; exact (hq i).2, fun i _ => hd i⟩
attribute [local irreducible] QRun LexD AWp TCall TMut fop fint fcmp fconv ownF bestO orF mpF l3L
theorem lawFnOrders_c (code more : List Nat) (hc : code.length ≤ 9223372036854775807) (hm : more.length ≤ 9223372036854775807) (bc : ∀ i, i < code.length → code.getD i 0 < 256) (bm : ∀ i, i < more.length → more.getD i 0 < 256) :
    TCall Try.prog 4 [BY code, BY more] (.t (.v (.bool true))) [] := by
  cases hLg : b10Lg code more with
  | true =>
    refine tcall_of Try.func4 rfl (by kernel_rfl) (Nat.le_of_ble_eq_true rfl) rfl ?_
    simp only [argsL, argAV, argCs, argS]
    refine V4 ?_
    (first | refine c_q (b10Long_c code more hc hm) (h := ?_) | refine z_q (b10Long_c code more hc hm) (h := ?_))
    rw [hLg]
    refine V4 ?_
    refine awp_ifT rfl rfl ?_
    refine V4 ?_
    (refine u_0 ?_; (repeat' (first | exact RetRelL.nil | refine RetRel.nil rfl ?_ | refine RetRelL.cons ?_ ?_ | refine rr_tup ?_ | refine rr_agg ?_ | refine rr_own rfl ?_ | exact RetRel.arg | exact RetRel.argc | refine rr_t ?_)); all_goals rfl)
  | false =>
    have hLg' : code.length ≤ 1048576 ∧ more.length ≤ 1048576 := by
      unfold b10Lg at hLg
      simp only [Bool.or_eq_false_iff, decide_eq_false_iff_not] at hLg
      omega
    have hB : Byt code := ⟨by omega, bc⟩
    obtain ⟨x0, e0, l0⟩ := b10N (l := more) (k := 0) (n := 20) (by omega)
    obtain ⟨x1, e1, l1⟩ := b10N (l := more) (k := 1) (n := 5) (by omega)
    obtain ⟨x2, e2, l2⟩ := b10N (l := more) (k := 2) (n := 2) (by omega)
    obtain ⟨x3, e3, l3⟩ := b10N (l := more) (k := 3) (n := 3) (by omega)
    obtain ⟨x4, e4, l4⟩ := b10N (l := more) (k := 4) (n := 10) (by omega)
    have t0 := b10At_c more 0 20 hm bm (by omega) (by omega)
    have t1 := b10At_c more 1 5 hm bm (by omega) (by omega)
    have t2 := b10At_c more 2 2 hm bm (by omega) (by omega)
    have t3 := b10At_c more 3 3 hm bm (by omega) (by omega)
    have t4 := b10At_c more 4 10 hm bm (by omega) (by omega)
    rw [e0] at t0; rw [e1] at t1; rw [e2] at t2; rw [e3] at t3; rw [e4] at t4
    have hS := ser_l3 hB (n := x0 + 10) (by omega) (by omega)
    have tA := b10List_t hB (x0 + 10) (by omega)
    have hal := l3L_len code (x0 + 10)
    generalize l3L code (x0 + 10) = a at *
    have ha1 : a.length ≤ 1048576 := by omega
    have ha2 : a.length ≤ 9223372036854775807 := by omega
    refine walkOrders_c (a := a) (o := fun m => ownF a (m : Nat)) (b := bestO a (x1 : Nat) (x2 : Nat)) (w := orF a 2) (v := mpF a (1 + (x3 : Int)) (x4 : Nat)) (x1 := x1) (x2 := x2) (x3 := x3) (x4 := x4) hc hm hLg
      { t0 := by rw [show ((a.length : Int) - 10) = (x0 : Int) by omega]; exact t0
        tA := by rw [hal]; exact tA
        t1 := t1
        hx1 := by omega
        tO1 := fun m _ => tcall_opD (implOwn_c a (m : Nat) ha1)
        tO2 := fun m _ => tcall_opD (specOwn_c a (m : Nat) ha2)
        ol := fun m _ h => (ownF_okI h).pl
        sp := fun m hm3 h h' => own_spread hS (by omega) hm3 h h'
        t2 := t2
        tB1 := implBo_c a (x1 : Nat) (x2 : Nat) ha2
        tB2 := specBo_c a (x1 : Nat) (x2 : Nat) ha2
        tR1 := tcall_opD (implOwnRows_c columnFit_c a 2 ha1)
        tR2 := tcall_opD (specOwnRows_c a 2 ha1)
        rs := fun h => orF_nn h
        t3 := t3
        hx3 := by omega
        t4 := t4
        tM1 := tcall_opD (implMP_c a (1 + (x3 : Int)) (x4 : Nat) ha1)
        tM2 := tcall_opD (specMP_c a (1 + (x3 : Int)) (x4 : Nat) ha2)
        lo := fun m => by have := ownF_len a (m : Nat); omega
        lw := by have := orF_len a 2; omega
        lv := by have := mpF_len a (1 + (x3 : Int)) (x4 : Nat); omega
        an := ⟨by omega, by omega⟩ }
end Go.Proofs.Ytpdnjcblkjjegaa

