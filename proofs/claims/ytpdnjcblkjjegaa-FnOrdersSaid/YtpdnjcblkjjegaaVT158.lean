import Derived.Test.YtpdnjcblkjjegaaVT152
import Derived.Test.YtpdnjcblkjjegaaVT156
import Derived.Test.YtpdnjcblkjjegaaVT151
set_option linter.unusedVariables false
set_option linter.unusedSimpArgs false
set_option maxRecDepth 20000
set_option maxHeartbeats 8000000
namespace Go.Proofs.Ytpdnjcblkjjegaa
open Go.Aw
attribute [local irreducible] QRun LexD TCall TMut fop fint fcmp fconv gI gP gE gS gT gB gOk gF gV absF MX famR hid but AWp HX gRow up gW gM fitF

/-! ### the program's elimination: the rows -/
theorem gRow_take {n : Nat} {M : Mx} {i j : Nat} (h : j ≤ n) : (gRow n M i).take j ++ [M i j] = (gRow n M i).take (j + 1) := take_snoc2 (by rw [gRow_len]; omega) (gRow_get h)
theorem gRow_take0 (n : Nat) (M : Mx) (i : Nat) : (gRow n M i).take 0 = [] := List.take_zero
theorem gRow_takeN (n : Nat) (M : Mx) (i : Nat) : (gRow n M i).take (n + 1) = gRow n M i := List.take_of_length_le (by rw [gRow_len]; exact Nat.le_refl _)
theorem gRow_takeL {n : Nat} {M : Mx} {i j : Nat} (h : j ≤ n + 1) : ((gRow n M i).take j).length = j := by rw [List.length_take, gRow_len]; omega
theorem gM_yd (C : List (List Nat)) (y : List Nat) (i : Nat) : gM C y i C.length = dotF (C.getD i []) y := by unfold gM; rw [if_neg (Nat.lt_irrefl _)]
theorem gM_id {C : List (List Nat)} {y : List Nat} {i k : Nat} (hk : k < C.length) : gM C y i k = dotF (C.getD i []) (C.getD k []) := by unfold gM; rw [if_pos hk]
theorem own_l {id a b : Nat} (h : a = b) : AV.own id 0 a = AV.own id 0 b := by rw [h]
theorem fam_more {η0 : Hp} {ef n a : Nat} {R : Nat → List Nat} {p p' : Nat → Bool} (h0 : ovH η0 (famR ef n R p) a = some (.sl ef (.fl (R n)))) (hp : ∀ t, p t = true) (t : Nat) (ht : t < n + 1) (h : p' t = true) : ovH η0 (famR ef n R p) (one (hid 26 n) a (hid 26 t)) = some (.sl ef (.fl (R t))) := by
  by_cases he : t = n
  · subst he; rw [one_eq]; exact h0
  · rw [one_ne fun hc => he (hid_inj hc)]; exact ov_at (by omega) (hp t)
theorem HX_0 (len : Nat) (f : Nat → Nat) : HX 0 len f = [] := by unfold HX; rfl
theorem cf_3 {C : List (List Nat)} {y : List Nat} {N : Nat} (hC : ColsV C N) (hy : y.length = N) :
    AWp Try.prog Try.f103.ntmps (tlF Try.f103 3) (RetQ Try.prog Try.f103 (cfR (fitF C y)) (cfH (fitF C y))) (lkF [(0, .arg 0 (.ffl C)), (1, .arg 1 (.fl y)), (6, .t (.v (.int .i64 (C.length : Nat)))), (7, .own 26 0 0)])
      (ovH (lkH [(26, .nest 24 [] [] noRem)]) noFam) := by
  have hN := hC.n96
  have hlo := hC.lo
  have hhi := hC.hi
  have hln := hC.len
  have hid' := fun i k (hk : k < C.length) => gM_id (C := C) (y := y) (i := i) hk
  have hyd := gM_yd C y
  have hno : ∀ k, k ≤ C.length → gOk C.length (gM C y) k = false → fitF C y = ([], false) := fun k hk h => fit_no hk h
  have hyes : gOk C.length (gM C y) C.length = true → fitF C y = ifAllF (gB C.length (gI C.length (gM C y) C.length) C.length) := fun h => fit_yes h
  generalize gM C y = M at *
  generalize hn : C.length = n at *
  have hfm := famOk_no
  refine V2 ?_
  refine awp_loopN (X := Nat) (fun i => i ≤ n) (fun i => [(0, .arg 0 (.ffl C)), (1, .arg 1 (.fl y)), (6, .t (.v (.int .i64 (n : Nat)))), (7, .own 26 0 i), (27, .arg 0 (.ffl C)), (28, .t (.v (.int .i64 (n : Nat)))), (29, .t (.v (.int .i64 (i : Nat))))])
    (fun i => ovH (lkH [(26, .nest 24 (HX i (n + 1) (hid 26)) [] noRem)]) (famR 30 i (gRow n M) allB)) (fun i => n - i)
    0 (famN_of (H := fun i => [(26, .nest 24 (HX i (n + 1) (hid 26)) [] noRem)]) (fm := fun i => famR 30 i (gRow n M) allB) 0 (fun i => i) (by omega) ⟨rfl, rfl, rfl, rfl, rfl, iE9' (by rw [← hn]), rfl, trivial⟩
      ⟨.inl ⟨[], [], rfl, good_nil, by rw [HX_0], fun k v hv => by rw [HX_0] at hv; cases hv⟩, trivial⟩ (fam_bto fun t ht hp => by omega) (fun _ _ _ _ h => h)) (fun i hi => ?_)
  have hfm1 := famR_ok 30 i (gRow n M) allB
  have hHl := HX_len i (n + 1) (hid 26)
  refine V2 ?_
  refine awp_cond (b := _) rfl (fun h => ?_) (fun h => ?_)
  · simp only [icmp, decide_eq_true_eq] at h
    have hin : i < n := by omega
    have hci := hln i (by omega)
    have hyd := hyd i
    have hid2 := hid' i
    have hgL := fun j (hj : j ≤ n + 1) => gRow_takeL (M := M) (i := i) hj
    refine V2 ?_
    refine awp_loopN (X := Nat) (fun j => j ≤ n) (fun j => [(0, .arg 0 (.ffl C)), (1, .arg 1 (.fl y)), (6, .t (.v (.int .i64 (n : Nat)))), (7, .own 26 0 i), (27, .arg 0 (.ffl C)), (28, .t (.v (.int .i64 (n : Nat)))), (29, .t (.v (.int .i64 (i : Nat)))),
        (9, .old (.fl (C.getD i []))), (10, .own 33 0 j), (34, .arg 0 (.ffl C)), (35, .t (.v (.int .i64 (n : Nat)))), (36, .t (.v (.int .i64 (j : Nat))))])
      (fun j => ovH (lkH [(33, .sl 30 (.fl ((gRow n M i).take j))), (26, .nest 24 (HX i (n + 1) (hid 26)) [] noRem)]) (famR 30 i (gRow n M) allB)) (fun j => n - j)
      0 (famN_of (H := fun j => [(33, .sl 30 (.fl ((gRow n M i).take j))), (26, .nest 24 (HX i (n + 1) (hid 26)) [] noRem)]) (fm := fun _ => famR 30 i (gRow n M) allB) 0 (fun i => i) (by omega) ⟨rfl, rfl, rfl, rfl, rfl, rfl, rfl, rfl, rfl, rfl, iE9' (by rw [← hn]), rfl, trivial⟩
        ⟨.inl (by rw [gRow_take0]; rfl), HX_bto rfl good_hid (fun t _ => rfl), trivial⟩ (fam_bto fun t ht hp => ov_at ht hp) (fun _ _ _ _ h => h)) (fun j hj => ?_)
    have hgj := hgL j (by omega)
    refine V2 ?_
    refine awp_cond (b := _) rfl (fun h2 => ?_) (fun h2 => ?_)
    · simp only [icmp, decide_eq_true_eq] at h2
      have hjn : j < n := by omega
      have hcj := hln j (by omega)
      have htk := gRow_take (M := M) (i := i) (show j ≤ n by omega)
      refine V2 ?_
      (first | (refine kc_q (dot_c (C.getD i []) (C.getD j []) (by omega) (by omega)) (h := ?_)) | (refine kz_q (dot_c (C.getD i []) (C.getD j []) (by omega) (by omega)) (h := ?_)))
      rw [← hid2 j hjn]
      refine V2 ?_
      (first | refine ka_s (hn := by exact hgj) (h := ?_) | refine kb_s (hn := by exact hgj) (h := ?_))
      refine V2 ?_
      exact ⟨j + 1, by omega, famN_of (H := fun j => [(33, .sl 30 (.fl ((gRow n M i).take j))), (26, .nest 24 (HX i (n + 1) (hid 26)) [] noRem)]) (fm := fun _ => famR 30 i (gRow n M) allB) (j + 1) (fun i => i) (by omega) ⟨rfl, rfl, rfl, rfl, rfl, rfl, rfl, rfl, own_l (by show ((gRow n M i).take j ++ [M i j]).length = j + 1; rw [htk]; exact hgL (j + 1) (by omega)), rfl, rfl, iE9' (by omega), trivial⟩
        ⟨.inl (by rw [← htk]; rfl), HX_bto rfl good_hid (fun t _ => rfl), trivial⟩ (fam_bto fun t ht hp => ov_at ht hp) (fun _ _ _ _ h => h)⟩
    simp only [icmp, decide_eq_false_iff_not] at h2
    obtain rfl : j = n := by omega
    have htk := gRow_take (M := M) (i := i) (Nat.le_refl j)
    refine V2 ?_
    (first | (refine kc_q (dot_c (C.getD i []) y (by omega) (by omega)) (h := ?_)) | (refine kz_q (dot_c (C.getD i []) y (by omega) (by omega)) (h := ?_)))
    rw [← hyd]
    refine V2 ?_
    (first | refine ka_s (hn := by exact hgj) (h := ?_) | refine kb_s (hn := by exact hgj) (h := ?_))
    rw [show (T.fl ((gRow j M i).take j)).app (T.fl [M i j]) = T.fl (gRow j M i) from (congrArg T.fl htk).trans (congrArg T.fl (gRow_takeN j M i)), show (T.fl (gRow j M i)).len = j + 1 from gRow_len j M i]
    refine V2 ?_
    (refine kw_rs (q_bslice_nest (L := [.own 33 0 (j + 1)]) [33] tyOk rfl rfl rfl rfl rfl rfl rfl rfl rfl rfl rfl rfl rfl) (h := ?_))
    refine V2 ?_
    (refine kw_rs (q_app_nest (m := 1) (HX_good good_hid) (own1_good _ _) hHl rfl tyOk rfl rfl rfl rfl rfl rfl rfl rfl rfl rfl rfl rfl rfl rfl rfl (by simp only []; omega) (by omega)) (h := ?_))
    refine V2 ?_
    exact ⟨i + 1, by omega, famN_of (H := fun i => [(26, .nest 24 (HX i (j + 1) (hid 26)) [] noRem)]) (fm := fun i => famR 30 i (gRow j M) allB) (i + 1) (one (hid 26 i) 33) (by omega) ⟨rfl, rfl, rfl, own_un _ _ _, rfl, rfl, iE9' (by omega), trivial⟩
      ⟨HX_bto1 (sm_un rfl rfl) rfl (fun t _ => hid_big 26 t) (fun t ht => (one_ne (fun he => absurd (hid_inj he) (by omega))).symm) (one_eq _ _).symm, trivial⟩ (fam_bto (fam_more rfl fun _ => rfl)) (inj_one (ov_sm rfl rfl))⟩
  simp only [icmp, decide_eq_false_iff_not] at h
  obtain rfl : i = n := by omega
  refine u_x ?_
  exact awp_re (fun i => i) [(6, .t (.v (.int .i64 (i : Nat)))), (7, .own 26 0 i)] [(26, .nest 24 (HX i (i + 1) (hid 26)) [] noRem)] (famR 30 i (gRow i M) allB) ⟨rfl, rfl, trivial⟩ ⟨HX_bto rfl good_hid (fun t _ => rfl), trivial⟩ (fam_bto fun t ht hp => ov_at ht hp) (fun _ _ _ _ h => h) (cf_4 hlo hhi hno hyes)
theorem columnFit_c : CFit := fun C y N hC hy hs => by
  have hN := hC.n96
  have hlo := hC.lo
  have hhi := hC.hi
  refine tcall_of Try.func103 rfl (by kernel_rfl) (Nat.le_of_ble_eq_true rfl) rfl ?_
  simp only [argsL, argAV, argCs, argS]
  refine u_q ?_
  refine u_g ?_
  repeat (first | refine w_q ?_ | refine w_s ?_ | refine w_t ?_ | refine w_k ?_)
  refine u_n ?_
  refine u_q ?_
  refine u_g ?_
  repeat (first | refine w_q ?_ | refine w_s ?_ | refine w_t ?_ | refine w_k ?_)
  refine u_n ?_
  refine u_q ?_
  refine u_g ?_
  repeat (first | refine w_q ?_ | refine w_s ?_ | refine w_t ?_ | refine w_k ?_)
  refine u_n ?_
  exact awp_re (fun i => i) [(0, .arg 0 (.ffl C)), (1, .arg 1 (.fl y)), (6, .t (.v (.int .i64 (C.length : Nat)))), (7, .own 26 0 0)] [(26, .nest 24 [] [] noRem)] noFam ⟨rfl, rfl, rfl, rfl, trivial⟩ ⟨.inr ⟨_, rfl, rfl⟩, trivial⟩ (fun i B _ h => by cases h) (fun _ _ _ _ h => h) (cf_3 hC hy)
end Go.Proofs.Ytpdnjcblkjjegaa

set_option linter.unusedVariables false
set_option linter.unusedSimpArgs false
set_option maxRecDepth 20000
set_option maxHeartbeats 8000000
namespace Go.Proofs.Ytpdnjcblkjjegaa
open Go.Aw

/-! ### OwnRows: the law -/
theorem orF_len (a : List Nat) (L : Int) : (orF a L).p.length ≤ 6 := by
  unfold orF
  split
  · rename_i h
    rcases colF_cases a L with hc | ⟨hok, N, hC, hy, hs⟩
    · rw [hc] at h; cases h
    · exact Nat.le_trans (fitF_le _ _) hC.hi
  · simp
attribute [local irreducible] QRun LexD AWp TCall TMut fop fint fcmp fconv orF fitF colF
end Go.Proofs.Ytpdnjcblkjjegaa

