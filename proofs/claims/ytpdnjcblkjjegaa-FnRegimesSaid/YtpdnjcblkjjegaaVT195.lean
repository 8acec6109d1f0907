import Derived.Test.YtpdnjcblkjjegaaVT195a
set_option linter.unusedVariables false
set_option linter.unusedSimpArgs false
set_option maxRecDepth 100000
set_option maxHeartbeats 16000000
namespace Go.Proofs.Ytpdnjcblkjjegaa
open Go.Aw

/-! ### the walk of FnRegimes, over data that are named -/
structure RG (code more a b c d s sh : List Nat) (tot : Nat) (one two : Bool) (way : List Int) (rs sq : List Nat) (cost : Nat) (ks : List Nat) (x1 : Nat) : Prop where
  tR : TCall Try.prog 6 [BY code] (.t (R4 a b c d)) []
  t0 : TCall Try.prog 7 [BY more, .v (.int .i64 0), .v (.int .i64 12)] (.t (.v (.int .i64 ((s.length : Int) - 1)))) []
  tS : TCall Try.prog 8 [BY more, .v (.int .i64 (s.length : Nat))] (.t (.fl s)) []
  tA1 : TCall Try.prog 9 [R4 a b c d, .fl s] (.tup [.t (.fl sh), .t (.f .f32 tot), .t (.v (.bool one))]) []
  tA2 : TCall Try.prog 10 [R4 a b c d, .fl s] (.tup [.t (.fl sh), .t (.f .f32 tot), .t (.v (.bool one))]) []
  tW1 : TCall Try.prog 11 [R4 a b c d, .fl s] (.tup [.t (.il way), .t (.v (.bool two))]) []
  tW2 : TCall Try.prog 12 [R4 a b c d, .fl s] (.tup [.t (.il way), .t (.v (.bool two))]) []
  t1 : TCall Try.prog 7 [BY more, .v (.int .i64 1), .v (.int .i64 8)] (.t (.v (.int .i64 (x1 : Nat)))) []
  hx1 : x1 < 8
  tP : TCall Try.prog 13 [R4 a b c d, .tl [.fl s, .fl s], .v (.int .i64 (1 + (x1 : Nat)))] (.tup [.t (.fl rs), .t (.v (.bool one))]) []
  tV : TCall Try.prog 14 [R4 a b c d] (.t (.v (.bool true))) []
  tE : TCall Try.prog 15 [R4 a b c d, R4 a b c d] (.t (.v (.bool true))) []
  hrs : one = true → rs = [tot, tot]
  hsh : one = true → sh.length = s.length * a.length
  n13 : 1 ≤ a.length ∧ a.length ≤ 3
  s12 : 1 ≤ s.length ∧ s.length ≤ 12
  lw : way.length ≤ 96
  k1 : one = true → ∀ i, i < s.length → ∀ k, k < a.length → fcmp .lss .f32 (sh.getD (i * a.length + k) 0) 0 = false
  k2 : one = true → ∀ i, i < s.length → fcmp .gtr .f64 (gapD (sQ (fun k => sh.getD (i * a.length + k) 0) a.length) 4607182418800017408) 4562254508917369340 = false
  tK : ∀ i : Nat, i < 8 → TCall Try.prog 7 [BY more, .v (.int .i64 (2 + (i : Nat))), .v (.int .i64 2)] (.t (.v (.int .i64 (ks.getD i 0 : Nat)))) []
  kl : ks.length = 8
  kb : ∀ i, i < 8 → ks.getD i 0 < 2
  tW3 : TCall Try.prog 12 [R4 a2 b2 b2 d2, .fl (clr ks)] (.tup [.t (.il (ks.map (fun k : Nat => (k : Int)))), .t (.v (.bool true))]) []
  tX1 : TCall Try.prog 19 [.fl s, .f .f32 1056964608, .f .f32 1048576000, .f .f32 1056964608] (.tup [.t (.fl sq), .t (.f .f32 cost), .t (.v (.bool true))]) []
  tX2 : TCall Try.prog 20 [.fl s, .f .f32 1056964608, .f .f32 1048576000, .f .f32 1056964608] (.tup [.t (.fl sq), .t (.f .f32 cost), .t (.v (.bool true))]) []
  lq : sq.length = s.length
  k3 : ∀ i, i < s.length → fcmp .lss .f32 (sq.getD i 0) 1056964608 = false
theorem tl_ffl {w : World} {ok : Nat → Prop} {ls : List (List Nat)} {y : Value} (h : TR w ok (.tl (ls.map T.fl)) y) : TR w ok (.ffl ls) y := by
  rw [TR] at *
  obtain ⟨a, n, c, rfl, hn, hc, h⟩ := h
  rw [List.length_map] at hn
  refine ⟨a, n, c, rfl, hn, hc, h.imp id ?_⟩
  rintro ⟨b, o, ha, hb, hok, hi⟩
  refine ⟨b, o, ha, hb, hok, fun i hin => ?_⟩
  have hlt : i < ls.length := by omega
  obtain ⟨x, hx, hr⟩ := (TRs_iff ..).1 hi i (.fl ls[i]) (by simp [hlt])
  rw [TR] at hr
  exact ⟨x, hx, by simpa [List.getD_eq_getElem?_getD, hlt] using hr⟩
theorem tcall_tl {P : Program} {f : FuncId} {t u : T} {ls : List (List Nat)} {rv : RV} {hs : List (Nat × Blk)} (h : TCall P f [t, .ffl ls, u] rv hs) : TCall P f [t, .tl (ls.map T.fl), u] rv hs := by
  refine ⟨h.1, fun w args ha => h.2 w args ?_⟩
  simp only [TRl] at ha ⊢
  obtain ⟨x, r, e1, h1, y, r2, e2, h2, h3⟩ := ha
  exact ⟨x, r, e1, h1, y, r2, e2, tl_ffl h2, h3⟩
theorem iEG {a b : Int} (h : a = b) : AV.t (.v (.int .i64 a)) = AV.t (.v (.int .i64 b)) := by rw [h]
theorem clr_take {ks : List Nat} {i : Nat} (h : i < ks.length) : (clr ks).take i ++ [fint .f32 (8 * ((ks.getD i 0 : Nat) : Int) - 4)] = (clr ks).take (i + 1) := take_snoc (by rw [clr_len]; exact h) (clr_get h)
theorem kmap_take {ks : List Nat} {i : Nat} (h : i < ks.length) : (ks.map (fun k : Nat => (k : Int))).take i ++ [((ks.getD i 0 : Nat) : Int)] = (ks.map (fun k : Nat => (k : Int))).take (i + 1) := take_snoc0 (by simpa using h) (by simp [List.getD_eq_getElem?_getD, h])
attribute [local irreducible] QRun LexD AWp TCall TMut fop fint fcmp fconv gapD sQ
theorem walkR_14 {code more a b c d s sh : List Nat} {tot : Nat} {one two : Bool} {way : List Int} {rs sq : List Nat} {cost : Nat} {ks : List Nat} {x1 : Nat} (F : RG code more a b c d s sh tot one two way rs sq cost ks x1) :
    AWp Try.prog Try.f3.ntmps (tlF Try.f3 14) (RetQ Try.prog Try.f3 (.t (.v (.bool true))) []) (lkF [(1, .arg 1 (BY more)), (7, .t (.v (.int .i64 (s.length : Nat)))), (8, .t (.fl s))]) (lkH []) := by
  have hkl := F.kl
  have hs12 := F.s12
  have hlq := F.lq
  repeat (first | refine w_q ?_ | refine w_s ?_ | refine w_t ?_ | refine w_k ?_ | refine y_q ?_ | refine y_s ?_ | refine y_t ?_ | refine y_k ?_ | refine u_n ?_ | refine u_q ?_ | refine u_g ?_ | refine u_d ?_ | refine u_b ?_ | refine u_x ?_ | refine u_r ?_ | refine u_s ?_ | refine w_r (q_build tyOk rfl rfl rfl rfl rfl rfl rfl rfl) (h := ?_) | refine y_r (q_build tyOk rfl rfl rfl rfl rfl rfl rfl rfl) (h := ?_))
  refine awp_loop (X := Nat) (fun i => i ≤ 8) (fun i => [(1, .arg 1 (BY more)), (7, .t (.v (.int .i64 (s.length : Nat)))), (8, .t (.fl s)), (25, .bp 25 0), (26, .own 187 0 i), (27, .own 188 0 i), (28, .t (.v (.int .i64 (i : Nat))))])
    (fun i => [(182, .sl 30 (.fl a2)), (183, .sl 30 (.fl b2)), (184, .sl 30 (.fl b2)), (185, .sl 30 (.fl d2)), (25, .box 26 [.own 182 0 2, .own 183 0 2, .own 184 0 2, .own 185 0 4]), (187, .sl 30 (.fl ((clr ks).take i))), (188, .sl 2 (.il ((ks.map (fun k : Nat => (k : Int))).take i)))]) (fun i => 8 - i)
    0 ⟨by omega, fun i => i, ⟨rfl, rfl, rfl, rfl, rfl, rfl, rfl, trivial⟩, ⟨rfl, rfl, rfl, rfl, rfl, rfl, rfl, trivial⟩, injOn_id _⟩ (fun i hi => ?_)
  have hz1 : ((clr ks).take i).length = i := by rw [List.length_take, clr_len]; omega
  have hz2 : ((ks.map (fun k : Nat => (k : Int))).take i).length = i := by rw [List.length_take, List.length_map]; omega
  repeat (first | refine w_q ?_ | refine w_s ?_ | refine w_t ?_ | refine w_k ?_ | refine y_q ?_ | refine y_s ?_ | refine y_t ?_ | refine y_k ?_ | refine u_n ?_ | refine u_q ?_ | refine u_g ?_ | refine u_d ?_ | refine u_b ?_ | refine u_x ?_ | refine u_r ?_ | refine u_s ?_ | refine w_r (q_build tyOk rfl rfl rfl rfl rfl rfl rfl rfl) (h := ?_) | refine y_r (q_build tyOk rfl rfl rfl rfl rfl rfl rfl rfl) (h := ?_))
  refine awp_if rfl (fun g => ?_) (fun g => ?_)
  · simp only [icmp, decide_eq_true_eq] at g
    have hi8 : i < 8 := by omega
    have hkb := F.kb i hi8
    repeat (first | refine w_q ?_ | refine w_s ?_ | refine w_t ?_ | refine w_k ?_ | refine y_q ?_ | refine y_s ?_ | refine y_t ?_ | refine y_k ?_ | refine u_n ?_ | refine u_q ?_ | refine u_g ?_ | refine u_d ?_ | refine u_b ?_ | refine u_x ?_ | refine u_r ?_ | refine u_s ?_ | refine w_r (q_build tyOk rfl rfl rfl rfl rfl rfl rfl rfl) (h := ?_) | refine y_r (q_build tyOk rfl rfl rfl rfl rfl rfl rfl rfl) (h := ?_))
    (first | refine c_q (F.tK i hi8) (h := ?_) | refine z_q (F.tK i hi8) (h := ?_))
    repeat (first | refine w_q ?_ | refine w_s ?_ | refine w_t ?_ | refine w_k ?_ | refine y_q ?_ | refine y_s ?_ | refine y_t ?_ | refine y_k ?_ | refine u_n ?_ | refine u_q ?_ | refine u_g ?_ | refine u_d ?_ | refine u_b ?_ | refine u_x ?_ | refine u_r ?_ | refine u_s ?_ | refine w_r (q_build tyOk rfl rfl rfl rfl rfl rfl rfl rfl) (h := ?_) | refine y_r (q_build tyOk rfl rfl rfl rfl rfl rfl rfl rfl) (h := ?_))
    (first | refine a_s (hn := by exact hz2) (h := ?_) | refine b_s (hn := by exact hz2) (h := ?_))
    repeat (first | refine w_q ?_ | refine w_s ?_ | refine w_t ?_ | refine w_k ?_ | refine y_q ?_ | refine y_s ?_ | refine y_t ?_ | refine y_k ?_ | refine u_n ?_ | refine u_q ?_ | refine u_g ?_ | refine u_d ?_ | refine u_b ?_ | refine u_x ?_ | refine u_r ?_ | refine u_s ?_ | refine w_r (q_build tyOk rfl rfl rfl rfl rfl rfl rfl rfl) (h := ?_) | refine y_r (q_build tyOk rfl rfl rfl rfl rfl rfl rfl rfl) (h := ?_))
    (first | (refine w_r (q_mul rfl rfl rfl (by omega)) (h := ?_)) | (refine y_r (q_mul rfl rfl rfl (by omega)) (h := ?_)))
    repeat (first | refine w_q ?_ | refine w_s ?_ | refine w_t ?_ | refine w_k ?_ | refine y_q ?_ | refine y_s ?_ | refine y_t ?_ | refine y_k ?_ | refine u_n ?_ | refine u_q ?_ | refine u_g ?_ | refine u_d ?_ | refine u_b ?_ | refine u_x ?_ | refine u_r ?_ | refine u_s ?_ | refine w_r (q_build tyOk rfl rfl rfl rfl rfl rfl rfl rfl) (h := ?_) | refine y_r (q_build tyOk rfl rfl rfl rfl rfl rfl rfl rfl) (h := ?_))
    (first | refine a_s (hn := by exact hz1) (h := ?_) | refine b_s (hn := by exact hz1) (h := ?_))
    repeat (first | refine w_q ?_ | refine w_s ?_ | refine w_t ?_ | refine w_k ?_ | refine y_q ?_ | refine y_s ?_ | refine y_t ?_ | refine y_k ?_ | refine u_n ?_ | refine u_q ?_ | refine u_g ?_ | refine u_d ?_ | refine u_b ?_ | refine u_x ?_ | refine u_r ?_ | refine u_s ?_ | refine w_r (q_build tyOk rfl rfl rfl rfl rfl rfl rfl rfl) (h := ?_) | refine y_r (q_build tyOk rfl rfl rfl rfl rfl rfl rfl rfl) (h := ?_))
    exact ⟨i + 1, by omega, by omega, fun i => i, ⟨rfl, rfl, rfl, rfl, own_eq (by simp only [T.app, T.len, List.length_append, hz1]; rfl), own_eq (by simp only [T.app, T.len, List.length_append, hz2]; rfl), iEG (by omega), trivial⟩, ⟨rfl, rfl, rfl, rfl, rfl, sl_eq (congrArg T.fl (clr_take (by omega))), sl_eq (congrArg T.il (kmap_take (by omega))), trivial⟩, injOn_id _⟩
  simp only [icmp, decide_eq_false_iff_not] at g
  obtain rfl : i = 8 := by omega
  rw [List.take_of_length_le (by rw [clr_len]; omega), List.take_of_length_le (by rw [List.length_map]; omega)]
  have hcl : (clr ks).length = 8 := by rw [clr_len, hkl]
  have hml : (ks.map (fun k : Nat => (k : Int))).length = 8 := by rw [List.length_map, hkl]
  repeat (first | refine w_q ?_ | refine w_s ?_ | refine w_t ?_ | refine w_k ?_ | refine y_q ?_ | refine y_s ?_ | refine y_t ?_ | refine y_k ?_ | refine u_n ?_ | refine u_q ?_ | refine u_g ?_ | refine u_d ?_ | refine u_b ?_ | refine u_x ?_ | refine u_r ?_ | refine u_s ?_ | refine w_r (q_build tyOk rfl rfl rfl rfl rfl rfl rfl rfl) (h := ?_) | refine y_r (q_build tyOk rfl rfl rfl rfl rfl rfl rfl rfl) (h := ?_))
  (first | refine c_q (F.tW3) (h := ?_) | refine z_q (F.tW3) (h := ?_))
  repeat (first | refine x_q ?_ | refine xd_q ?_ | refine w_q ?_ | refine w_s ?_ | refine w_t ?_ | refine w_k ?_ | refine y_q ?_ | refine y_s ?_ | refine y_t ?_ | refine y_k ?_ | refine u_n ?_ | refine u_q ?_ | refine u_g ?_ | refine u_d ?_ | refine u_b ?_ | refine u_x ?_ | refine u_r ?_ | refine u_s ?_)
  (first | refine c_q (F.tX1) (h := ?_) | refine z_q (F.tX1) (h := ?_))
  repeat (first | refine x_q ?_ | refine xd_q ?_ | refine w_q ?_ | refine w_s ?_ | refine w_t ?_ | refine w_k ?_ | refine y_q ?_ | refine y_s ?_ | refine y_t ?_ | refine y_k ?_ | refine u_n ?_ | refine u_q ?_ | refine u_g ?_ | refine u_d ?_ | refine u_b ?_ | refine u_x ?_ | refine u_r ?_ | refine u_s ?_)
  (first | refine c_q (F.tX2) (h := ?_) | refine z_q (F.tX2) (h := ?_))
  repeat (first | refine x_q ?_ | refine xd_q ?_ | refine w_q ?_ | refine w_s ?_ | refine w_t ?_ | refine w_k ?_ | refine y_q ?_ | refine y_s ?_ | refine y_t ?_ | refine y_k ?_ | refine u_n ?_ | refine u_q ?_ | refine u_g ?_ | refine u_d ?_ | refine u_b ?_ | refine u_x ?_ | refine u_r ?_ | refine u_s ?_)
  (first | (refine c_q (b10Ints_self (ks.map (fun k : Nat => (k : Int))) (by omega)) (h := ?_)) | (refine z_q (b10Ints_self (ks.map (fun k : Nat => (k : Int))) (by omega)) (h := ?_)))
  repeat (first | refine x_q ?_ | refine xd_q ?_ | refine w_q ?_ | refine w_s ?_ | refine w_t ?_ | refine w_k ?_ | refine y_q ?_ | refine y_s ?_ | refine y_t ?_ | refine y_k ?_ | refine u_n ?_ | refine u_q ?_ | refine u_g ?_ | refine u_d ?_ | refine u_b ?_ | refine u_x ?_ | refine u_r ?_ | refine u_s ?_)
  (first | (refine c_q (b10List_self sq (by omega)) (h := ?_)) | (refine z_q (b10List_self sq (by omega)) (h := ?_)))
  repeat (first | refine x_q ?_ | refine xd_q ?_ | refine w_q ?_ | refine w_s ?_ | refine w_t ?_ | refine w_k ?_ | refine y_q ?_ | refine y_s ?_ | refine y_t ?_ | refine y_k ?_ | refine u_n ?_ | refine u_q ?_ | refine u_g ?_ | refine u_d ?_ | refine u_b ?_ | refine u_x ?_ | refine u_r ?_ | refine u_s ?_)
  (first | refine c_q (specSameN_self cost) (h := ?_) | refine z_q (specSameN_self cost) (h := ?_))
  repeat (first | refine x_q ?_ | refine xd_q ?_ | refine w_q ?_ | refine w_s ?_ | refine w_t ?_ | refine w_k ?_ | refine y_q ?_ | refine y_s ?_ | refine y_t ?_ | refine y_k ?_ | refine u_n ?_ | refine u_q ?_ | refine u_g ?_ | refine u_d ?_ | refine u_b ?_ | refine u_x ?_ | refine u_r ?_ | refine u_s ?_)
  refine awp_ifF rfl rfl ?_
  repeat (first | refine x_q ?_ | refine xd_q ?_ | refine w_q ?_ | refine w_s ?_ | refine w_t ?_ | refine w_k ?_ | refine y_q ?_ | refine y_s ?_ | refine y_t ?_ | refine y_k ?_ | refine u_n ?_ | refine u_q ?_ | refine u_g ?_ | refine u_d ?_ | refine u_b ?_ | refine u_x ?_ | refine u_r ?_ | refine u_s ?_)
  refine awp_loop (X := Nat) (fun i => i ≤ sq.length) (fun i => [(32, .t (.fl sq)), (261, .t (.v (.int .i64 (sq.length : Nat)))), (262, .t (.v (.int .i64 (i : Nat))))]) (fun _ => []) (fun i => sq.length - i)
    0 ⟨by omega, fun i => i, ⟨rfl, rfl, rfl, trivial⟩, trivial, injOn_id _⟩ (fun i hi => ?_)
  repeat (first | refine x_q ?_ | refine xd_q ?_ | refine w_q ?_ | refine w_s ?_ | refine w_t ?_ | refine w_k ?_ | refine y_q ?_ | refine y_s ?_ | refine y_t ?_ | refine y_k ?_ | refine u_n ?_ | refine u_q ?_ | refine u_g ?_ | refine u_d ?_ | refine u_b ?_ | refine u_x ?_ | refine u_r ?_ | refine u_s ?_)
  refine awp_if rfl (fun g1 => ?_) (fun g1 => ?_)
  · simp only [icmp, decide_eq_true_eq] at g1
    have hil : i < sq.length := by omega
    have e := F.k3 i (by omega)
    repeat (first | refine x_q ?_ | refine xd_q ?_ | refine w_q ?_ | refine w_s ?_ | refine w_t ?_ | refine w_k ?_ | refine y_q ?_ | refine y_s ?_ | refine y_t ?_ | refine y_k ?_ | refine u_n ?_ | refine u_q ?_ | refine u_g ?_ | refine u_d ?_ | refine u_b ?_ | refine u_x ?_ | refine u_r ?_ | refine u_s ?_)
    try (first | (refine w_r (q_idx_tree (i) tyOk rfl rfl rfl rfl rfl rfl rfl rfl (by omega) (by first | omega | (simp only [T.len]; omega) | assumption)) (h := ?_)) | (refine y_r (q_idx_tree (i) tyOk rfl rfl rfl rfl rfl rfl rfl rfl (by omega) (by first | omega | (simp only [T.len]; omega) | assumption)) (h := ?_)))
    repeat (first | refine x_q ?_ | refine xd_q ?_ | refine w_q ?_ | refine w_s ?_ | refine w_t ?_ | refine w_k ?_ | refine y_q ?_ | refine y_s ?_ | refine y_t ?_ | refine y_k ?_ | refine u_n ?_ | refine u_q ?_ | refine u_g ?_ | refine u_d ?_ | refine u_b ?_ | refine u_x ?_ | refine u_r ?_ | refine u_s ?_)
    rw [e]
    repeat (first | refine x_q ?_ | refine xd_q ?_ | refine w_q ?_ | refine w_s ?_ | refine w_t ?_ | refine w_k ?_ | refine y_q ?_ | refine y_s ?_ | refine y_t ?_ | refine y_k ?_ | refine u_n ?_ | refine u_q ?_ | refine u_g ?_ | refine u_d ?_ | refine u_b ?_ | refine u_x ?_ | refine u_r ?_ | refine u_s ?_)
    refine awp_ifF rfl rfl ?_
    repeat (first | refine x_q ?_ | refine xd_q ?_ | refine w_q ?_ | refine w_s ?_ | refine w_t ?_ | refine w_k ?_ | refine y_q ?_ | refine y_s ?_ | refine y_t ?_ | refine y_k ?_ | refine u_n ?_ | refine u_q ?_ | refine u_g ?_ | refine u_d ?_ | refine u_b ?_ | refine u_x ?_ | refine u_r ?_ | refine u_s ?_)
    exact ⟨i + 1, by omega, by omega, fun i => i, ⟨rfl, rfl, iEG (by omega), trivial⟩, trivial, injOn_id _⟩
  simp only [icmp, decide_eq_false_iff_not] at g1
  repeat (first | refine x_q ?_ | refine xd_q ?_ | refine w_q ?_ | refine w_s ?_ | refine w_t ?_ | refine w_k ?_ | refine y_q ?_ | refine y_s ?_ | refine y_t ?_ | refine y_k ?_ | refine u_n ?_ | refine u_q ?_ | refine u_g ?_ | refine u_d ?_ | refine u_b ?_ | refine u_x ?_ | refine u_r ?_ | refine u_s ?_)
  (refine u_0 ?_; (repeat' (first | exact RetRelL.nil | refine RetRel.nil rfl ?_ | refine RetRelL.cons ?_ ?_ | refine rr_tup ?_ | refine rr_agg ?_ | refine rr_own rfl ?_ | exact RetRel.arg | exact RetRel.argc | refine rr_t ?_)); all_goals rfl)
theorem walkR_13 {code more a b c d s sh : List Nat} {tot : Nat} {one two : Bool} {way : List Int} {rs sq : List Nat} {cost : Nat} {ks : List Nat} {x1 : Nat} (F : RG code more a b c d s sh tot one two way rs sq cost ks x1) :
    AWp Try.prog Try.f3.ntmps (tlF Try.f3 13) (RetQ Try.prog Try.f3 (.t (.v (.bool true))) []) (lkF [(1, .arg 1 (BY more)), (7, .t (.v (.int .i64 (s.length : Nat)))), (8, .t (.fl s)), (15, .t (.il way)), (17, .t (.il way)), (18, .t (.v (.bool two)))]) (lkH []) := by
  have hlw := F.lw
  repeat (first | refine x_q ?_ | refine xd_q ?_ | refine w_q ?_ | refine w_s ?_ | refine w_t ?_ | refine w_k ?_ | refine y_q ?_ | refine y_s ?_ | refine y_t ?_ | refine y_k ?_ | refine u_n ?_ | refine u_q ?_ | refine u_g ?_ | refine u_d ?_ | refine u_b ?_ | refine u_x ?_ | refine u_r ?_ | refine u_s ?_)
  refine lex_if rfl rfl rfl (fun h1 => ?_) (fun h1 => ?_)
  · repeat (first | refine x_q ?_ | refine xd_q ?_ | refine w_q ?_ | refine w_s ?_ | refine w_t ?_ | refine w_k ?_ | refine y_q ?_ | refine y_s ?_ | refine y_t ?_ | refine y_k ?_ | refine u_n ?_ | refine u_q ?_ | refine u_g ?_ | refine u_d ?_ | refine u_b ?_ | refine u_x ?_ | refine u_r ?_ | refine u_s ?_)
    (first | (refine c_q (b10Ints_self way (by omega)) (h := ?_)) | (refine z_q (b10Ints_self way (by omega)) (h := ?_)))
    repeat (first | refine x_q ?_ | refine xd_q ?_ | refine w_q ?_ | refine w_s ?_ | refine w_t ?_ | refine w_k ?_ | refine y_q ?_ | refine y_s ?_ | refine y_t ?_ | refine y_k ?_ | refine u_n ?_ | refine u_q ?_ | refine u_g ?_ | refine u_d ?_ | refine u_b ?_ | refine u_x ?_ | refine u_r ?_ | refine u_s ?_)
    refine awp_ifF rfl rfl ?_
    refine u_s ?_
    exact awp_weak (fun i => i) _ _ (by exact ⟨rfl, rfl, rfl, trivial⟩) (by exact trivial) (injOn_id _) (walkR_14 F)
  · repeat (first | refine x_q ?_ | refine xd_q ?_ | refine w_q ?_ | refine w_s ?_ | refine w_t ?_ | refine w_k ?_ | refine y_q ?_ | refine y_s ?_ | refine y_t ?_ | refine y_k ?_ | refine u_n ?_ | refine u_q ?_ | refine u_g ?_ | refine u_d ?_ | refine u_b ?_ | refine u_x ?_ | refine u_r ?_ | refine u_s ?_)
    refine awp_ifF rfl rfl ?_
    refine u_s ?_
    exact awp_weak (fun i => i) _ _ (by exact ⟨rfl, rfl, rfl, trivial⟩) (by exact trivial) (injOn_id _) (walkR_14 F)
theorem sQ_0 (q : Nat → Nat) : sQ q 0 = 0 := by unfold sQ; rfl
theorem sQ_S (q : Nat → Nat) (k : Nat) : sQ q (k + 1) = fop .add .f64 (sQ q k) (fconv .f32 .f64 (q k)) := by rw [sQ]
theorem fEG {k : FloatKind} {a b : Nat} (h : a = b) : AV.t (.f k a) = AV.t (.f k b) := by rw [h]
theorem walkR_12 {code more a b c d s sh : List Nat} {tot : Nat} {one two : Bool} {way : List Int} {rs sq : List Nat} {cost : Nat} {ks : List Nat} {x1 : Nat} (F : RG code more a b c d s sh tot one two way rs sq cost ks x1) :
    AWp Try.prog Try.f3.ntmps (tlF Try.f3 12) (RetQ Try.prog Try.f3 (.t (.v (.bool true))) []) (lkF [(1, .arg 1 (BY more)), (6, .t (.v (.int .i64 (a.length : Nat)))), (7, .t (.v (.int .i64 (s.length : Nat)))), (8, .t (.fl s)), (10, .t (.f .f32 tot)), (12, .t (.fl sh)), (13, .t (.f .f32 tot)), (14, .t (.v (.bool one))),
      (15, .t (.il way)), (17, .t (.il way)), (18, .t (.v (.bool two))), (19, .t (.fl rs))]) (lkH []) := by
  have hn := F.n13
  have hs := F.s12
  repeat (first | refine x_q ?_ | refine xd_q ?_ | refine w_q ?_ | refine w_s ?_ | refine w_t ?_ | refine w_k ?_ | refine y_q ?_ | refine y_s ?_ | refine y_t ?_ | refine y_k ?_ | refine u_n ?_ | refine u_q ?_ | refine u_g ?_ | refine u_d ?_ | refine u_b ?_ | refine u_x ?_ | refine u_r ?_ | refine u_s ?_)
  refine awp_if rfl (fun h1 => ?_) (fun h1 => ?_)
  rotate_left
  · refine u_s ?_
    exact awp_weak (fun i => i) _ _ (by exact ⟨rfl, rfl, rfl, rfl, rfl, rfl, trivial⟩) (by exact trivial) (injOn_id _) (walkR_13 F)
  have hrs := F.hrs h1
  have hsh := F.hsh h1
  have hmm := Nat.mul_le_mul hs.2 hn.2
  have hmi : (s.length : Int) * (a.length : Int) = ((s.length * a.length : Nat) : Int) := (Int.natCast_mul _ _).symm
  subst hrs
  have hl2 : [tot, tot].length = 2 := rfl
  repeat (first | refine x_q ?_ | refine xd_q ?_ | refine w_q ?_ | refine w_s ?_ | refine w_t ?_ | refine w_k ?_ | refine y_q ?_ | refine y_s ?_ | refine y_t ?_ | refine y_k ?_ | refine u_n ?_ | refine u_q ?_ | refine u_g ?_ | refine u_d ?_ | refine u_b ?_ | refine u_x ?_ | refine u_r ?_ | refine u_s ?_)
  (first | refine c_q (specSameN_self tot) (h := ?_) | refine z_q (specSameN_self tot) (h := ?_))
  repeat (first | refine x_q ?_ | refine xd_q ?_ | refine w_q ?_ | refine w_s ?_ | refine w_t ?_ | refine w_k ?_ | refine y_q ?_ | refine y_s ?_ | refine y_t ?_ | refine y_k ?_ | refine u_n ?_ | refine u_q ?_ | refine u_g ?_ | refine u_d ?_ | refine u_b ?_ | refine u_x ?_ | refine u_r ?_ | refine u_s ?_)
  (first | (refine w_r (q_mul rfl rfl rfl (by omega)) (h := ?_)) | (refine y_r (q_mul rfl rfl rfl (by omega)) (h := ?_)))
  rw [hmi]
  repeat (first | refine x_q ?_ | refine xd_q ?_ | refine w_q ?_ | refine w_s ?_ | refine w_t ?_ | refine w_k ?_ | refine y_q ?_ | refine y_s ?_ | refine y_t ?_ | refine y_k ?_ | refine u_n ?_ | refine u_q ?_ | refine u_g ?_ | refine u_d ?_ | refine u_b ?_ | refine u_x ?_ | refine u_r ?_ | refine u_s ?_)
  try (first | (refine w_r (q_idx_tree (0) tyOk rfl rfl rfl rfl rfl rfl rfl rfl (by omega) (by first | omega | (simp only [T.len]; omega) | assumption)) (h := ?_)) | (refine y_r (q_idx_tree (0) tyOk rfl rfl rfl rfl rfl rfl rfl rfl (by omega) (by first | omega | (simp only [T.len]; omega) | assumption)) (h := ?_)))
  repeat (first | refine x_q ?_ | refine xd_q ?_ | refine w_q ?_ | refine w_s ?_ | refine w_t ?_ | refine w_k ?_ | refine y_q ?_ | refine y_s ?_ | refine y_t ?_ | refine y_k ?_ | refine u_n ?_ | refine u_q ?_ | refine u_g ?_ | refine u_d ?_ | refine u_b ?_ | refine u_x ?_ | refine u_r ?_ | refine u_s ?_)
  (first | refine c_q (specSameN_self tot) (h := ?_) | refine z_q (specSameN_self tot) (h := ?_))
  repeat (first | refine x_q ?_ | refine xd_q ?_ | refine w_q ?_ | refine w_s ?_ | refine w_t ?_ | refine w_k ?_ | refine y_q ?_ | refine y_s ?_ | refine y_t ?_ | refine y_k ?_ | refine u_n ?_ | refine u_q ?_ | refine u_g ?_ | refine u_d ?_ | refine u_b ?_ | refine u_x ?_ | refine u_r ?_ | refine u_s ?_)
  try (first | (refine w_r (q_idx_tree (1) tyOk rfl rfl rfl rfl rfl rfl rfl rfl (by omega) (by first | omega | (simp only [T.len]; omega) | assumption)) (h := ?_)) | (refine y_r (q_idx_tree (1) tyOk rfl rfl rfl rfl rfl rfl rfl rfl (by omega) (by first | omega | (simp only [T.len]; omega) | assumption)) (h := ?_)))
  repeat (first | refine x_q ?_ | refine xd_q ?_ | refine w_q ?_ | refine w_s ?_ | refine w_t ?_ | refine w_k ?_ | refine y_q ?_ | refine y_s ?_ | refine y_t ?_ | refine y_k ?_ | refine u_n ?_ | refine u_q ?_ | refine u_g ?_ | refine u_d ?_ | refine u_b ?_ | refine u_x ?_ | refine u_r ?_ | refine u_s ?_)
  (first | refine c_q (specSameN_self tot) (h := ?_) | refine z_q (specSameN_self tot) (h := ?_))
  repeat (first | refine x_q ?_ | refine xd_q ?_ | refine w_q ?_ | refine w_s ?_ | refine w_t ?_ | refine w_k ?_ | refine y_q ?_ | refine y_s ?_ | refine y_t ?_ | refine y_k ?_ | refine u_n ?_ | refine u_q ?_ | refine u_g ?_ | refine u_d ?_ | refine u_b ?_ | refine u_x ?_ | refine u_r ?_ | refine u_s ?_)
  refine awp_ifF rfl rfl ?_
  repeat (first | refine x_q ?_ | refine xd_q ?_ | refine w_q ?_ | refine w_s ?_ | refine w_t ?_ | refine w_k ?_ | refine y_q ?_ | refine y_s ?_ | refine y_t ?_ | refine y_k ?_ | refine u_n ?_ | refine u_q ?_ | refine u_g ?_ | refine u_d ?_ | refine u_b ?_ | refine u_x ?_ | refine u_r ?_ | refine u_s ?_)
  refine awp_loop (X := Nat) (fun i => i ≤ s.length) (fun i => [(1, .arg 1 (BY more)), (6, .t (.v (.int .i64 (a.length : Nat)))), (7, .t (.v (.int .i64 (s.length : Nat)))), (8, .t (.fl s)), (12, .t (.fl sh)), (15, .t (.il way)), (17, .t (.il way)), (18, .t (.v (.bool two))), (21, .t (.v (.int .i64 (i : Nat))))]) (fun _ => []) (fun i => s.length - i)
    0 ⟨by omega, fun i => i, ⟨rfl, rfl, rfl, rfl, rfl, rfl, rfl, rfl, rfl, trivial⟩, trivial, injOn_id _⟩ (fun i hi => ?_)
  repeat (first | refine x_q ?_ | refine xd_q ?_ | refine w_q ?_ | refine w_s ?_ | refine w_t ?_ | refine w_k ?_ | refine y_q ?_ | refine y_s ?_ | refine y_t ?_ | refine y_k ?_ | refine u_n ?_ | refine u_q ?_ | refine u_g ?_ | refine u_d ?_ | refine u_b ?_ | refine u_x ?_ | refine u_r ?_ | refine u_s ?_)
  refine awp_if rfl (fun g1 => ?_) (fun g1 => ?_)
  rotate_left
  · simp only [icmp, decide_eq_false_iff_not] at g1
    refine u_x ?_
    exact awp_weak (fun i => i) _ _ (by exact ⟨rfl, rfl, rfl, rfl, rfl, rfl, trivial⟩) (by exact trivial) (injOn_id _) (walkR_13 F)
  simp only [icmp, decide_eq_true_eq] at g1
  have his : i < s.length := by omega
  have m3 : (i + 1) * a.length ≤ s.length * a.length := Nat.mul_le_mul_right _ his
  have m4 : (i + 1) * a.length = i * a.length + a.length := by rw [Nat.add_mul, Nat.one_mul]
  have e2 := F.k2 h1 i his
  repeat (first | refine x_q ?_ | refine xd_q ?_ | refine w_q ?_ | refine w_s ?_ | refine w_t ?_ | refine w_k ?_ | refine y_q ?_ | refine y_s ?_ | refine y_t ?_ | refine y_k ?_ | refine u_n ?_ | refine u_q ?_ | refine u_g ?_ | refine u_d ?_ | refine u_b ?_ | refine u_x ?_ | refine u_r ?_ | refine u_s ?_)
  refine awp_loop (X := Nat) (fun k => k ≤ a.length) (fun k => [(1, .arg 1 (BY more)), (6, .t (.v (.int .i64 (a.length : Nat)))), (7, .t (.v (.int .i64 (s.length : Nat)))), (8, .t (.fl s)), (12, .t (.fl sh)), (15, .t (.il way)), (17, .t (.il way)), (18, .t (.v (.bool two))), (21, .t (.v (.int .i64 (i : Nat)))), (22, .t (.f .f64 (sQ (fun k => sh.getD (i * a.length + k) 0) k))), (23, .t (.v (.int .i64 (k : Nat))))]) (fun _ => []) (fun k => a.length - k)
    0 ⟨by omega, fun i => i, ⟨rfl, rfl, rfl, rfl, rfl, rfl, rfl, rfl, rfl, fEG (sQ_0 _).symm, rfl, trivial⟩, trivial, injOn_id _⟩ (fun k hk => ?_)
  repeat (first | refine x_q ?_ | refine xd_q ?_ | refine w_q ?_ | refine w_s ?_ | refine w_t ?_ | refine w_k ?_ | refine y_q ?_ | refine y_s ?_ | refine y_t ?_ | refine y_k ?_ | refine u_n ?_ | refine u_q ?_ | refine u_g ?_ | refine u_d ?_ | refine u_b ?_ | refine u_x ?_ | refine u_r ?_ | refine u_s ?_)
  refine awp_if rfl (fun g2 => ?_) (fun g2 => ?_)
  · simp only [icmp, decide_eq_true_eq] at g2
    have hkn : k < a.length := by omega
    have e1 := F.k1 h1 i his k hkn
    have hmi2 : (i : Int) * (a.length : Int) = ((i * a.length : Nat) : Int) := (Int.natCast_mul _ _).symm
    repeat (first | refine x_q ?_ | refine xd_q ?_ | refine w_q ?_ | refine w_s ?_ | refine w_t ?_ | refine w_k ?_ | refine y_q ?_ | refine y_s ?_ | refine y_t ?_ | refine y_k ?_ | refine u_n ?_ | refine u_q ?_ | refine u_g ?_ | refine u_d ?_ | refine u_b ?_ | refine u_x ?_ | refine u_r ?_ | refine u_s ?_)
    (first | (refine w_r (q_mul rfl rfl rfl (by omega)) (h := ?_)) | (refine y_r (q_mul rfl rfl rfl (by omega)) (h := ?_)))
    rw [hmi2]
    repeat (first | refine x_q ?_ | refine xd_q ?_ | refine w_q ?_ | refine w_s ?_ | refine w_t ?_ | refine w_k ?_ | refine y_q ?_ | refine y_s ?_ | refine y_t ?_ | refine y_k ?_ | refine u_n ?_ | refine u_q ?_ | refine u_g ?_ | refine u_d ?_ | refine u_b ?_ | refine u_x ?_ | refine u_r ?_ | refine u_s ?_)
    try (first | (refine w_r (q_idx_tree (i * a.length + k) tyOk rfl rfl rfl rfl rfl rfl rfl rfl (by omega) (by first | omega | (simp only [T.len]; omega) | assumption)) (h := ?_)) | (refine y_r (q_idx_tree (i * a.length + k) tyOk rfl rfl rfl rfl rfl rfl rfl rfl (by omega) (by first | omega | (simp only [T.len]; omega) | assumption)) (h := ?_)))
    repeat (first | refine x_q ?_ | refine xd_q ?_ | refine w_q ?_ | refine w_s ?_ | refine w_t ?_ | refine w_k ?_ | refine y_q ?_ | refine y_s ?_ | refine y_t ?_ | refine y_k ?_ | refine u_n ?_ | refine u_q ?_ | refine u_g ?_ | refine u_d ?_ | refine u_b ?_ | refine u_x ?_ | refine u_r ?_ | refine u_s ?_)
    rw [e1]
    repeat (first | refine x_q ?_ | refine xd_q ?_ | refine w_q ?_ | refine w_s ?_ | refine w_t ?_ | refine w_k ?_ | refine y_q ?_ | refine y_s ?_ | refine y_t ?_ | refine y_k ?_ | refine u_n ?_ | refine u_q ?_ | refine u_g ?_ | refine u_d ?_ | refine u_b ?_ | refine u_x ?_ | refine u_r ?_ | refine u_s ?_)
    refine awp_ifF rfl rfl ?_
    repeat (first | refine x_q ?_ | refine xd_q ?_ | refine w_q ?_ | refine w_s ?_ | refine w_t ?_ | refine w_k ?_ | refine y_q ?_ | refine y_s ?_ | refine y_t ?_ | refine y_k ?_ | refine u_n ?_ | refine u_q ?_ | refine u_g ?_ | refine u_d ?_ | refine u_b ?_ | refine u_x ?_ | refine u_r ?_ | refine u_s ?_)
    exact ⟨k + 1, by omega, by omega, fun i => i, ⟨rfl, rfl, rfl, rfl, rfl, rfl, rfl, rfl, rfl, fEG (by rw [sQ_S]), iEG (by omega), trivial⟩, trivial, injOn_id _⟩
  simp only [icmp, decide_eq_false_iff_not] at g2
  obtain rfl : k = a.length := by omega
  repeat (first | refine x_q ?_ | refine xd_q ?_ | refine w_q ?_ | refine w_s ?_ | refine w_t ?_ | refine w_k ?_ | refine y_q ?_ | refine y_s ?_ | refine y_t ?_ | refine y_k ?_ | refine u_n ?_ | refine u_q ?_ | refine u_g ?_ | refine u_d ?_ | refine u_b ?_ | refine u_x ?_ | refine u_r ?_ | refine u_s ?_)
  (first | refine c_q (b10Gap_c _ _) (h := ?_) | refine z_q (b10Gap_c _ _) (h := ?_))
  repeat (first | refine x_q ?_ | refine xd_q ?_ | refine w_q ?_ | refine w_s ?_ | refine w_t ?_ | refine w_k ?_ | refine y_q ?_ | refine y_s ?_ | refine y_t ?_ | refine y_k ?_ | refine u_n ?_ | refine u_q ?_ | refine u_g ?_ | refine u_d ?_ | refine u_b ?_ | refine u_x ?_ | refine u_r ?_ | refine u_s ?_)
  rw [e2]
  repeat (first | refine x_q ?_ | refine xd_q ?_ | refine w_q ?_ | refine w_s ?_ | refine w_t ?_ | refine w_k ?_ | refine y_q ?_ | refine y_s ?_ | refine y_t ?_ | refine y_k ?_ | refine u_n ?_ | refine u_q ?_ | refine u_g ?_ | refine u_d ?_ | refine u_b ?_ | refine u_x ?_ | refine u_r ?_ | refine u_s ?_)
  refine awp_ifF rfl rfl ?_
  repeat (first | refine x_q ?_ | refine xd_q ?_ | refine w_q ?_ | refine w_s ?_ | refine w_t ?_ | refine w_k ?_ | refine y_q ?_ | refine y_s ?_ | refine y_t ?_ | refine y_k ?_ | refine u_n ?_ | refine u_q ?_ | refine u_g ?_ | refine u_d ?_ | refine u_b ?_ | refine u_x ?_ | refine u_r ?_ | refine u_s ?_)
  exact ⟨i + 1, by omega, by omega, fun i => i, ⟨rfl, rfl, rfl, rfl, rfl, rfl, rfl, rfl, iEG (by omega), trivial⟩, trivial, injOn_id _⟩
theorem walkRegimes_c {code more a b c d s sh : List Nat} {tot : Nat} {one two : Bool} {way : List Int} {rs sq : List Nat} {cost : Nat} {ks : List Nat} {x1 : Nat} (hc : code.length ≤ 9223372036854775807) (hm : more.length ≤ 9223372036854775807) (hLg : b10Lg code more = false) (F : RG code more a b c d s sh tot one two way rs sq cost ks x1) :
    TCall Try.prog 3 [BY code, BY more] (.t (.v (.bool true))) [] := by
  have hn := F.n13
  have hs := F.s12
  have hx1 := F.hx1
  have e0 : (1 : Int) + ((s.length : Int) - 1) = (s.length : Int) := by omega
  refine tcall_of Try.func3 rfl (by kernel_rfl) (Nat.le_of_ble_eq_true rfl) rfl ?_
  simp only [argsL, argAV, argCs, argS]
  repeat (first | refine x_q ?_ | refine xd_q ?_ | refine w_q ?_ | refine w_s ?_ | refine w_t ?_ | refine w_k ?_ | refine y_q ?_ | refine y_s ?_ | refine y_t ?_ | refine y_k ?_ | refine u_n ?_ | refine u_q ?_ | refine u_g ?_ | refine u_d ?_ | refine u_b ?_ | refine u_x ?_ | refine u_r ?_ | refine u_s ?_)
  (first | refine c_q (b10Long_c code more hc hm) (h := ?_) | refine z_q (b10Long_c code more hc hm) (h := ?_))
  rw [hLg]
  repeat (first | refine x_q ?_ | refine xd_q ?_ | refine w_q ?_ | refine w_s ?_ | refine w_t ?_ | refine w_k ?_ | refine y_q ?_ | refine y_s ?_ | refine y_t ?_ | refine y_k ?_ | refine u_n ?_ | refine u_q ?_ | refine u_g ?_ | refine u_d ?_ | refine u_b ?_ | refine u_x ?_ | refine u_r ?_ | refine u_s ?_)
  refine awp_ifF rfl rfl ?_
  repeat (first | refine x_q ?_ | refine xd_q ?_ | refine w_q ?_ | refine w_s ?_ | refine w_t ?_ | refine w_k ?_ | refine y_q ?_ | refine y_s ?_ | refine y_t ?_ | refine y_k ?_ | refine u_n ?_ | refine u_q ?_ | refine u_g ?_ | refine u_d ?_ | refine u_b ?_ | refine u_x ?_ | refine u_r ?_ | refine u_s ?_)
  (first | refine c_q (F.tR) (h := ?_) | refine z_q (F.tR) (h := ?_))
  repeat (first | refine x_q ?_ | refine w_q ?_ | refine w_s ?_ | refine w_t ?_ | refine w_k ?_)
  refine u_n ?_
  refine awp_weak (fun i => i) [(0, .arg 0 (BY code)), (1, .arg 1 (BY more)), (5, .bp 5 0)] [(5, .box 26 [.t (.fl a), .t (.fl b), .t (.fl c), .t (.fl d)])] (by exact ⟨rfl, rfl, rfl, trivial⟩) (by exact ⟨rfl, trivial⟩) (injOn_id _) ?_
  repeat (first | refine x_q ?_ | refine xd_q ?_ | refine w_q ?_ | refine w_s ?_ | refine w_t ?_ | refine w_k ?_ | refine y_q ?_ | refine y_s ?_ | refine y_t ?_ | refine y_k ?_ | refine u_n ?_ | refine u_q ?_ | refine u_g ?_ | refine u_d ?_ | refine u_b ?_ | refine u_x ?_ | refine u_r ?_ | refine u_s ?_)
  (first | refine c_q (F.t0) (h := ?_) | refine z_q (F.t0) (h := ?_))
  repeat (first | refine x_q ?_ | refine xd_q ?_ | refine w_q ?_ | refine w_s ?_ | refine w_t ?_ | refine w_k ?_ | refine y_q ?_ | refine y_s ?_ | refine y_t ?_ | refine y_k ?_ | refine u_n ?_ | refine u_q ?_ | refine u_g ?_ | refine u_d ?_ | refine u_b ?_ | refine u_x ?_ | refine u_r ?_ | refine u_s ?_)
  rw [e0]
  repeat (first | refine x_q ?_ | refine xd_q ?_ | refine w_q ?_ | refine w_s ?_ | refine w_t ?_ | refine w_k ?_ | refine y_q ?_ | refine y_s ?_ | refine y_t ?_ | refine y_k ?_ | refine u_n ?_ | refine u_q ?_ | refine u_g ?_ | refine u_d ?_ | refine u_b ?_ | refine u_x ?_ | refine u_r ?_ | refine u_s ?_)
  (first | refine c_q (F.tS) (h := ?_) | refine z_q (F.tS) (h := ?_))
  repeat (first | refine x_q ?_ | refine xd_q ?_ | refine w_q ?_ | refine w_s ?_ | refine w_t ?_ | refine w_k ?_ | refine y_q ?_ | refine y_s ?_ | refine y_t ?_ | refine y_k ?_ | refine u_n ?_ | refine u_q ?_ | refine u_g ?_ | refine u_d ?_ | refine u_b ?_ | refine u_x ?_ | refine u_r ?_ | refine u_s ?_)
  (first | refine c_q (F.tA1) (h := ?_) | refine z_q (F.tA1) (h := ?_))
  repeat (first | refine x_q ?_ | refine xd_q ?_ | refine w_q ?_ | refine w_s ?_ | refine w_t ?_ | refine w_k ?_ | refine y_q ?_ | refine y_s ?_ | refine y_t ?_ | refine y_k ?_ | refine u_n ?_ | refine u_q ?_ | refine u_g ?_ | refine u_d ?_ | refine u_b ?_ | refine u_x ?_ | refine u_r ?_ | refine u_s ?_)
  (first | refine c_q (F.tA2) (h := ?_) | refine z_q (F.tA2) (h := ?_))
  repeat (first | refine x_q ?_ | refine xd_q ?_ | refine w_q ?_ | refine w_s ?_ | refine w_t ?_ | refine w_k ?_ | refine y_q ?_ | refine y_s ?_ | refine y_t ?_ | refine y_k ?_ | refine u_n ?_ | refine u_q ?_ | refine u_g ?_ | refine u_d ?_ | refine u_b ?_ | refine u_x ?_ | refine u_r ?_ | refine u_s ?_)
  (first | refine c_q (F.tW1) (h := ?_) | refine z_q (F.tW1) (h := ?_))
  repeat (first | refine x_q ?_ | refine xd_q ?_ | refine w_q ?_ | refine w_s ?_ | refine w_t ?_ | refine w_k ?_ | refine y_q ?_ | refine y_s ?_ | refine y_t ?_ | refine y_k ?_ | refine u_n ?_ | refine u_q ?_ | refine u_g ?_ | refine u_d ?_ | refine u_b ?_ | refine u_x ?_ | refine u_r ?_ | refine u_s ?_)
  (first | refine c_q (F.tW2) (h := ?_) | refine z_q (F.tW2) (h := ?_))
  repeat (first | refine x_q ?_ | refine xd_q ?_ | refine w_q ?_ | refine w_s ?_ | refine w_t ?_ | refine w_k ?_ | refine y_q ?_ | refine y_s ?_ | refine y_t ?_ | refine y_k ?_ | refine u_n ?_ | refine u_q ?_ | refine u_g ?_ | refine u_d ?_ | refine u_b ?_ | refine u_x ?_ | refine u_r ?_ | refine u_s ?_)
  (first | refine c_q (F.t1) (h := ?_) | refine z_q (F.t1) (h := ?_))
  repeat (first | refine x_q ?_ | refine xd_q ?_ | refine w_q ?_ | refine w_s ?_ | refine w_t ?_ | refine w_k ?_ | refine y_q ?_ | refine y_s ?_ | refine y_t ?_ | refine y_k ?_ | refine u_n ?_ | refine u_q ?_ | refine u_g ?_ | refine u_d ?_ | refine u_b ?_ | refine u_x ?_ | refine u_r ?_ | refine u_s ?_)
  (first | refine c_q (F.tP) (h := ?_) | refine z_q (F.tP) (h := ?_))
  repeat (first | refine x_q ?_ | refine xd_q ?_ | refine w_q ?_ | refine w_s ?_ | refine w_t ?_ | refine w_k ?_ | refine y_q ?_ | refine y_s ?_ | refine y_t ?_ | refine y_k ?_ | refine u_n ?_ | refine u_q ?_ | refine u_g ?_ | refine u_d ?_ | refine u_b ?_ | refine u_x ?_ | refine u_r ?_ | refine u_s ?_)
  (first | refine c_q (F.tV) (h := ?_) | refine z_q (F.tV) (h := ?_))
  repeat (first | refine x_q ?_ | refine xd_q ?_ | refine w_q ?_ | refine w_s ?_ | refine w_t ?_ | refine w_k ?_ | refine y_q ?_ | refine y_s ?_ | refine y_t ?_ | refine y_k ?_ | refine u_n ?_ | refine u_q ?_ | refine u_g ?_ | refine u_d ?_ | refine u_b ?_ | refine u_x ?_ | refine u_r ?_ | refine u_s ?_)
  (first | refine c_q (F.tE) (h := ?_) | refine z_q (F.tE) (h := ?_))
  repeat (first | refine x_q ?_ | refine xd_q ?_ | refine w_q ?_ | refine w_s ?_ | refine w_t ?_ | refine w_k ?_ | refine y_q ?_ | refine y_s ?_ | refine y_t ?_ | refine y_k ?_ | refine u_n ?_ | refine u_q ?_ | refine u_g ?_ | refine u_d ?_ | refine u_b ?_ | refine u_x ?_ | refine u_r ?_ | refine u_s ?_)
  refine awp_ifF rfl rfl ?_
  refine u_s ?_
  exact awp_weak (fun i => i) _ _ (by exact ⟨rfl, rfl, rfl, rfl, rfl, rfl, rfl, rfl, rfl, rfl, rfl, rfl, trivial⟩) (by exact trivial) (injOn_id _) (walkR_12 F)
end Go.Proofs.Ytpdnjcblkjjegaa

