import Derived.Test.YtpdnjcblkjjegaaVT151
set_option linter.unusedVariables false
set_option linter.unusedSimpArgs false
set_option maxRecDepth 20000
set_option maxHeartbeats 8000000
namespace Go.Proofs.Ytpdnjcblkjjegaa
open Go.Aw
attribute [local irreducible] QRun LexD AWp TCall TMut fop fint fcmp fconv gM gOk gB gI fitF solF fdN fdL dotN dotF zsub fdP fdQ

/-! ### rows of a series: the program's, given its elimination -/
def CFit : Prop := ∀ (C : List (List Nat)) (y : List Nat) (N : Nat), ColsV C N → y.length = N → isSer y = true →
    TCall Try.prog 103 [.ffl C, .fl y] (.tup [.own 0 (fitF C y).1.length, .t (.v (.bool (fitF C y).2))]) [(0, .sl 30 (.fl (fitF C y).1))]
theorem implColumnFit_c (hcf : CFit) (C : List (List Nat)) (y : List Nat) (N : Nat) (hC : ColsV C N) (hy : y.length = N) (hs : isSer y = true) :
    TCall Try.prog 66 [.ffl C, .fl y] (.tup [.own 0 (fitF C y).1.length, .t (.v (.bool (fitF C y).2))]) [(0, .sl 30 (.fl (fitF C y).1))] := by
  have hN := hC.n96
  have hhi := hC.hi
  refine tcall_of Try.func66 rfl (by kernel_rfl) (Nat.le_of_ble_eq_true rfl) rfl ?_
  simp only [argsL, argAV, argCs, argS]
  refine V5 ?_
  (first | (refine c_q (implSer_c y (by omega)) (h := ?_)) | (refine z_q (implSer_c y (by omega)) (h := ?_)))
  rw [hs]
  refine V5 ?_
  (first | (refine c_q (areColumns_c C y.length (by rw [hy]; exact hC)) (h := ?_)) | (refine z_q (areColumns_c C y.length (by rw [hy]; exact hC)) (h := ?_)))
  refine V5 ?_
  try refine awp_ifF rfl rfl ?_
  refine V5 ?_
  (first | refine c_s (hcf C y N hC hy hs) (h := ?_) | refine z_s (hcf C y N hC hy hs) (h := ?_))
  refine V5 ?_
  refine ret_ok tyOk (by first | exact .inr rfl | exact .inl rfl) (pi1 (cid 18 0)) rfl (by repeat (first | exact .nil | (apply ResAl.cons; first | exact .tmp | exact .cell rfl rfl rfl rfl rfl rfl | exact .cell1 rfl rfl rfl rfl rfl))) ?_ ⟨rfl, trivial⟩ (injO_1 _ _ _)
  repeat' (first | exact RetRelL.nil | refine RetRel.nil rfl ?_ | refine RetRelL.cons ?_ ?_ | refine rr_tup ?_ | refine rr_agg ?_ | refine rr_own rfl ?_ | exact RetRel.arg | exact RetRel.argc | refine rr_t ?_)
  all_goals rfl

theorem implRest_c (hcf : CFit) (C : List (List Nat)) (y : List Nat) (N : Nat) (hC : ColsV C N) (hy : y.length = N) (hs : isSer y = true) :
    TCall Try.prog 67 [.ffl C, .fl y] (opR (rfF C y)) (opH (rfF C y)) := by
  have hN := hC.n96
  have hhi := hC.hi
  refine tcall_of Try.func67 rfl (by kernel_rfl) (Nat.le_of_ble_eq_true rfl) rfl ?_
  simp only [argsL, argAV, argCs, argS]
  refine V5 ?_
  (first | refine c_s (implColumnFit_c hcf C y N hC hy hs) (h := ?_) | refine z_s (implColumnFit_c hcf C y N hC hy hs) (h := ?_))
  refine V5 ?_
  refine awp_if rfl (fun h1 => ?_) (fun h1 => ?_)
  · simp only [Bool.not_eq_true'] at h1
    rw [rfF_no (by unfold rfOk; rw [h1]; rfl)]
    refine V5 ?_
    (refine u_1 ?_; (repeat' (first | exact RetRelL.nil | refine RetRel.nil rfl ?_ | refine RetRelL.cons ?_ ?_ | refine rr_tup ?_ | refine rr_agg ?_ | refine rr_own rfl ?_ | exact RetRel.arg | exact RetRel.argc | refine rr_t ?_)); all_goals rfl)
  simp only [Bool.not_eq_false'] at h1
  obtain ⟨ht, hf⟩ := fit_ok h1
  have hOk : rfOk C y = ((fdL C (fitF C y).1 y.length).all fin && ((rfD C y).all fin && fin (dotF (rfD C y) (rfD C y)))) := by unfold rfOk; rw [h1]; rfl
  have hD : zsub y (fdL C (fitF C y).1 y.length) = rfD C y := rfl
  generalize htt : (fitF C y).1 = t at *
  rw [hy] at hOk hD
  have hfl := fdL_len C t N
  have hdl : (rfD C y).length = N := by rw [← hD, zsub_len, hy]
  have hno := @rfF_no C y
  have hyes := @rfF_yes C y
  -- fitted that is no number spoils the rest
  have hOk2 : rfOk C y = ((rfD C y).all fin && fin (dotF (rfD C y) (rfD C y))) := by
    rw [hOk]
    cases h5 : (fdL C t N).all fin with
    | true => rfl
    | false =>
      have : (rfD C y).all fin = false := by
        cases h6 : (rfD C y).all fin with
        | false => rfl
        | true =>
          have h7 : (fdL C t N).all fin = true := List.all_eq_true.2 fun x hx => by
            obtain ⟨j, hj, rfl⟩ := List.getElem_of_mem hx
            have hj' : j < (rfD C y).length := by omega
            have h8 := List.all_eq_true.1 h6 _ (List.getElem_mem hj')
            have h9 : (rfD C y)[j] = fop .sub .f32 (y.getD j 0) (fdL C t N)[j] := by
              have := zsub_get (a := y) (b := fdL C t N) (show j < y.length by omega)
              rw [hD] at this
              rw [List.getD_eq_getElem?_getD, List.getElem?_eq_getElem hj', List.getD_eq_getElem?_getD (l := fdL C t N), List.getElem?_eq_getElem hj] at this
              exact this
            rw [h9] at h8
            cases h10 : fin (fdL C t N)[j] with
            | true => rfl
            | false => rw [bad_sub_r2 _ h10] at h8; cases h8
          rw [h5] at h7; cases h7
      rw [this]; rfl
  refine V5 ?_
  (first | refine c_s (fitted_c C t N hC ht) (h := ?_) | refine z_s (fitted_c C t N hC ht) (h := ?_))
  refine V5 ?_
  (first | (refine c_s (less_c y (fdL C t N) (by omega) (by omega)) (h := ?_)) | (refine z_s (less_c y (fdL C t N) (by omega) (by omega)) (h := ?_)))
  rw [hD]
  generalize rfD C y = D at *
  refine V5 ?_
  (first | (refine c_q (dot_c D D (by omega) (by omega)) (h := ?_)) | (refine z_q (dot_c D D (by omega) (by omega)) (h := ?_)))
  refine V5 ?_
  (first | (refine c_q (areFinite_c D (by omega)) (h := ?_)) | (refine z_q (areFinite_c D (by omega)) (h := ?_)))
  refine V5 ?_
  refine lex_if rfl rfl rfl (fun h6 => ?_) (fun h6 => ?_)
  · simp only [Bool.not_eq_true'] at h6
    rw [hno (by rw [hOk2, h6]; rfl)]
    refine V5 ?_
    refine awp_ifT rfl rfl ?_
    refine V5 ?_
    (refine u_1 ?_; (repeat' (first | exact RetRelL.nil | refine RetRel.nil rfl ?_ | refine RetRelL.cons ?_ ?_ | refine rr_tup ?_ | refine rr_agg ?_ | refine rr_own rfl ?_ | exact RetRel.arg | exact RetRel.argc | refine rr_t ?_)); all_goals rfl)
  simp only [Bool.not_eq_false'] at h6
  rw [h6, Bool.true_and] at hOk2
  refine V5 ?_
  (first | (refine c_q (isFinite_c (dotF D D)) (h := ?_)) | (refine z_q (isFinite_c (dotF D D)) (h := ?_)))
  refine V5 ?_
  refine awp_if rfl (fun h7 => ?_) (fun h7 => ?_)
  · simp only [Bool.not_eq_true'] at h7
    rw [hno (by rw [hOk2, h7])]
    refine V5 ?_
    (refine u_1 ?_; (repeat' (first | exact RetRelL.nil | refine RetRel.nil rfl ?_ | refine RetRelL.cons ?_ ?_ | refine rr_tup ?_ | refine rr_agg ?_ | refine rr_own rfl ?_ | exact RetRel.arg | exact RetRel.argc | refine rr_t ?_)); all_goals rfl)
  simp only [Bool.not_eq_false'] at h7
  rw [hyes (by rw [hOk2, h7])]
  refine V5 ?_
  refine ret_ok tyOk (by first | exact .inr rfl | exact .inl rfl) (pi1 (cid 23 0)) rfl (by repeat (first | exact .nil | (apply ResAl.cons; first | exact .tmp | exact .cell rfl rfl rfl rfl rfl rfl | exact .cell1 rfl rfl rfl rfl rfl))) ?_ ⟨rfl, trivial⟩ (injO_1 _ _ _)
  repeat' (first | exact RetRelL.nil | refine RetRel.nil rfl ?_ | refine RetRelL.cons ?_ ?_ | refine rr_tup ?_ | refine rr_agg ?_ | refine rr_own rfl ?_ | exact RetRel.arg | exact RetRel.argc | refine rr_t ?_)
  all_goals first | rfl | exact hdl.symm

theorem implOwnRows_c (hcf : CFit) (a : List Nat) (L : Int) (ha : a.length ≤ 1048576) : TCall Try.prog 26 [.fl a, .v (.int .i64 L)] (opR (orF a L)) (opH (orF a L)) := by
  refine tcall_of Try.func26 rfl (by kernel_rfl) (Nat.le_of_ble_eq_true rfl) rfl ?_
  simp only [argsL, argAV, argCs, argS]
  refine V5 ?_
  (first | refine c_s (implCols_c a L ha) (h := ?_) | refine z_s (implCols_c a L ha) (h := ?_))
  refine V5 ?_
  rcases colF_cases a L with hc | ⟨hok, N, hC, hy, hs⟩
  · rw [show orF a L = ⟨[], 0, false⟩ by unfold orF; rw [hc]; rfl, hc]
    refine V5 ?_
    refine awp_ifT rfl rfl ?_
    refine V5 ?_
    (refine u_1 ?_; (repeat' (first | exact RetRelL.nil | refine RetRel.nil rfl ?_ | refine RetRelL.cons ?_ ?_ | refine rr_tup ?_ | refine rr_agg ?_ | refine rr_own rfl ?_ | exact RetRel.arg | exact RetRel.argc | refine rr_t ?_)); all_goals rfl)
  have hF : orF a L = if (rfF (colF a L).c (colF a L).y).ok then ⟨(fitF (colF a L).c (colF a L).y).1, fop .quo .f32 (rfF (colF a L).c (colF a L).y).s (fint .f32 ((colF a L).y.length : Nat)), true⟩ else ⟨[], 0, false⟩ := by unfold orF; rw [hok, Bool.true_and]
  generalize hr : colF a L = r at *
  have hN := hC.n96
  have hhi := hC.hi
  have hf16 := fitF_le r.c r.y
  have hbad : (fitF r.c r.y).2 = false → (rfF r.c r.y) = ⟨[], 0, false⟩ := fun h => rfF_no (by unfold rfOk; rw [h]; rfl)
  have hgood : (rfF r.c r.y).ok = true → (fitF r.c r.y).2 = true := fun h => by
    cases h2 : (fitF r.c r.y).2 with
    | true => rfl
    | false => rw [hbad h2] at h; cases h
  rw [hok]
  refine V5 ?_
  refine awp_ifF rfl rfl ?_
  refine V5 ?_
  (first | refine c_s (implColumnFit_c hcf r.c r.y N hC hy hs) (h := ?_) | refine z_s (implColumnFit_c hcf r.c r.y N hC hy hs) (h := ?_))
  refine V5 ?_
  (first | refine c_s (implRest_c hcf r.c r.y N hC hy hs) (h := ?_) | refine z_s (implRest_c hcf r.c r.y N hC hy hs) (h := ?_))
  refine V5 ?_
  cases h2 : (rfF r.c r.y).ok with
  | false =>
    rw [h2] at hF
    rw [hF, if_neg (by decide)]
    cases h3 : (fitF r.c r.y).2 with
    | false =>
      refine V5 ?_
      try refine awp_ifT rfl rfl ?_
      refine V5 ?_
      (refine u_1 ?_; (repeat' (first | exact RetRelL.nil | refine RetRel.nil rfl ?_ | refine RetRelL.cons ?_ ?_ | refine rr_tup ?_ | refine rr_agg ?_ | refine rr_own rfl ?_ | exact RetRel.arg | exact RetRel.argc | refine rr_t ?_)); all_goals rfl)
    | true =>
      refine V5 ?_
      try refine awp_ifT rfl rfl ?_
      refine V5 ?_
      (refine u_1 ?_; (repeat' (first | exact RetRelL.nil | refine RetRel.nil rfl ?_ | refine RetRelL.cons ?_ ?_ | refine rr_tup ?_ | refine rr_agg ?_ | refine rr_own rfl ?_ | exact RetRel.arg | exact RetRel.argc | refine rr_t ?_)); all_goals rfl)
  | true =>
    rw [h2] at hF
    rw [hF, if_pos rfl, hgood h2]
    refine V5 ?_
    try refine awp_ifF rfl rfl ?_
    refine V5 ?_
    refine ret_ok tyOk (by first | exact .inr rfl | exact .inl rfl) (pi1 (cid 27 0)) rfl (by repeat (first | exact .nil | (apply ResAl.cons; first | exact .tmp | exact .cell rfl rfl rfl rfl rfl rfl | exact .cell1 rfl rfl rfl rfl rfl))) ?_ ⟨rfl, trivial⟩ (injO_1 _ _ _)
    repeat' (first | exact RetRelL.nil | refine RetRel.nil rfl ?_ | refine RetRelL.cons ?_ ?_ | refine rr_tup ?_ | refine rr_agg ?_ | refine rr_own rfl ?_ | exact RetRel.arg | exact RetRel.argc | refine rr_t ?_)
    all_goals rfl
end Go.Proofs.Ytpdnjcblkjjegaa

set_option linter.unusedVariables false
set_option linter.unusedSimpArgs false
set_option maxRecDepth 20000
set_option maxHeartbeats 8000000
namespace Go.Proofs.Ytpdnjcblkjjegaa
open Go.Aw

/-! ### rows by names above all others; some of them by names of their own -/
/-- the name 'a' stands for what 'b' was -/
def one (a b : Nat) : Nat → Nat := fun x => bif Nat.beq x a then b else x
theorem one_eq (a b : Nat) : one a b a = b := by unfold one; rw [Nat.beq_refl]; rfl
theorem beq_no {x a : Nat} (h : x ≠ a) : Nat.beq x a = false := by
  cases hb : Nat.beq x a with
  | false => rfl
  | true => exact absurd (Nat.eq_of_beq_eq_true hb) h
theorem one_ne {a b x : Nat} (h : x ≠ a) : one a b x = x := by unfold one; rw [beq_no h]; rfl
theorem inj_one {a b : Nat} {η' : Hp} (hb : (η' b).isSome = false) (i j : Nat) (hi : (η' i).isSome) (hj : (η' j).isSome) (h : one a b i = one a b j) : i = j := by
  by_cases h1 : i = a
  · by_cases h2 : j = a
    · rw [h1, h2]
    · subst h1
      rw [one_eq, one_ne h2] at h
      subst h; rw [hb] at hj; cases hj
  · by_cases h2 : j = a
    · subst h2
      rw [one_eq, one_ne h1] at h
      subst h; rw [hb] at hi; cases hi
    · rwa [one_ne h1, one_ne h2] at h
/-- the row t of the block 26, for those t that 'p' tells -/
def famR (ef n : Nat) (R : Nat → List Nat) (p : Nat → Bool) : Hp := fun i => if i % bigN = 26 ∧ 1 ≤ i / bigN ∧ i / bigN ≤ n ∧ p (i / bigN - 1) = true then some (.sl ef (.fl (R (i / bigN - 1)))) else none
theorem hid_mod (t : Nat) : hid 26 t % bigN = 26 := by unfold hid bigN; omega
theorem hid_div (t : Nat) : hid 26 t / bigN = t + 1 := by unfold hid bigN; omega
theorem hid_eq {i : Nat} (h : i % bigN = 26) (h1 : 1 ≤ i / bigN) : i = hid 26 (i / bigN - 1) := by unfold hid bigN at *; omega
theorem famR_at {ef n t : Nat} {R : Nat → List Nat} {p : Nat → Bool} (ht : t < n) (hp : p t = true) : famR ef n R p (hid 26 t) = some (.sl ef (.fl (R t))) := by
  unfold famR
  rw [hid_mod, hid_div, if_pos ⟨rfl, by omega, by omega, by simpa using hp⟩]; rfl
theorem famR_no {ef n t : Nat} {R : Nat → List Nat} {p : Nat → Bool} (hp : p t = false) : famR ef n R p (hid 26 t) = none := by
  unfold famR
  rw [hid_mod, hid_div, if_neg]
  rintro ⟨_, _, _, h⟩
  rw [Nat.add_sub_cancel, hp] at h; cases h
theorem famR_of {ef n i : Nat} {R : Nat → List Nat} {p : Nat → Bool} {B : Blk} (h : famR ef n R p i = some B) : ∃ t, t < n ∧ p t = true ∧ i = hid 26 t ∧ B = .sl ef (.fl (R t)) := by
  unfold famR at h
  split at h
  · rename_i hk
    cases h
    exact ⟨i / bigN - 1, by omega, hk.2.2.2, hid_eq hk.1 hk.2.1, rfl⟩
  · cases h
theorem famR_ok (ef n : Nat) (R : Nat → List Nat) (p : Nat → Bool) : FamOk (famR ef n R p) := fun i B h => by
  obtain ⟨t, _, _, _, rfl⟩ := famR_of h
  exact ⟨_, _, rfl⟩
theorem fam_bto {ef n : Nat} {R : Nat → List Nat} {p : Nat → Bool} {π : Nat → Nat} {η η' : Hp} (h : ∀ t, t < n → p t = true → η (π (hid 26 t)) = some (.sl ef (.fl (R t)))) (i : Nat) (B : Blk) (hi : bigN ≤ i) (hB : famR ef n R p i = some B) : BTo π η η' i B := by
  obtain ⟨t, ht, hp, rfl, rfl⟩ := famR_of hB
  exact .inl (h t ht hp)
/-- the cells: rows by their names -/
def HX (n len : Nat) (f : Nat → Nat) : List AV := (List.range n).map fun t => .own (f t) 0 len
theorem HX_len (n len : Nat) (f : Nat → Nat) : (HX n len f).length = n := by simp [HX]
theorem HX_get {n len t : Nat} {f : Nat → Nat} (h : t < n) : (HX n len f)[t]? = some (.own (f t) 0 len) := by simp [HX, h]
theorem HX_good {n len : Nat} {f : Nat → Nat} {vis : List Nat} (h : ∀ t, t < n → bigN ≤ f t ∨ f t ∈ vis) : GoodN vis (HX n len f) := fun v hv j hj => by
  obtain ⟨t, ht, rfl⟩ := List.mem_map.1 hv
  simp only [AV.ids, List.mem_singleton] at hj
  subst hj
  exact h t (List.mem_range.1 ht)
theorem HX_bto {n len e i : Nat} {f f' : Nat → Nat} {π : Nat → Nat} {η η' : Hp} {vis vis' : List Nat} (h1 : η (π i) = some (.nest e (HX n len f) vis noRem)) (hg : ∀ t, t < n → bigN ≤ f t ∨ f t ∈ vis) (h : ∀ t, t < n → f t = π (f' t)) :
    BTo π η η' i (.nest e (HX n len f') vis' noRem) := by
  refine .inl ⟨_, _, h1, HX_good hg, by rw [HX_len, HX_len], fun k v hv => ?_⟩
  have hk : k < n := by have := (List.getElem?_eq_some_iff.1 hv).1; rwa [HX_len] at this
  rw [HX_get hk] at hv; cases hv
  exact ⟨_, HX_get hk, .inl (by rw [h k hk]; rfl)⟩
/-- one row more -/
theorem HX_bto1 {n len e i id : Nat} {f f' : Nat → Nat} {π : Nat → Nat} {η η' : Hp} {vis vis' : List Nat} (h1 : η (π i) = some (.nest e (HX n len f ++ [.own id 0 len]) vis noRem)) (hv : vis = [id]) (hg : ∀ t, t < n → bigN ≤ f t) (h : ∀ t, t < n → f t = π (f' t)) (hi : id = π (f' n)) :
    BTo π η η' i (.nest e (HX (n + 1) len f') vis' noRem) := by
  subst hv
  have e1 : HX n len f ++ [.own id 0 len] = HX (n + 1) len (fun t => if t = n then id else f t) := by
    unfold HX
    rw [List.range_succ, List.map_append]
    refine congr (congrArg _ (List.map_congr_left fun t ht => ?_)) ?_
    · have htn := List.mem_range.1 ht
      simp only []
      rw [if_neg (by omega)]
    · simp
  rw [e1] at h1
  refine HX_bto h1 (fun t ht => ?_) fun t ht => ?_
  · by_cases he : t = n
    · exact .inr (by simp [he])
    · exact .inl (by simp only [he, if_false]; exact hg t (by omega))
  · by_cases he : t = n
    · subst he; simp only [if_true]; exact hi
    · simp only [he, if_false]; exact h t (by omega)
/-- all rows become data -/
theorem HX_data {n len e i ef : Nat} {R : Nat → List Nat} {η η' : Hp} {vis : List Nat} (h1 : η i = some (.nest e (HX n len (hid 26)) vis noRem)) (hR : ∀ t, t < n → η (hid 26 t) = some (.sl ef (.fl (R t)))) (hl : ∀ t, t < n → (R t).length = len) (hn : ∀ t, t < n → (η' (hid 26 t)).isSome = false) :
    BTo (fun i => i) η η' i (.nest e (NL ((List.range n).map R)) [] noRem) := by
  refine .inl ⟨_, _, h1, HX_good fun t _ => .inl (hid_big 26 t), by rw [NL_len, HX_len]; simp, fun k v hv => ?_⟩
  have hk : k < n := by have := (List.getElem?_eq_some_iff.1 hv).1; rw [NL_len] at this; simpa using this
  refine ⟨_, HX_get hk, .inr ⟨.fl (R k), hid 26 k, ef, ?_, ?_, hR k hk, fun j hj he => ?_⟩⟩
  · unfold NL at hv
    simpa [hk] using hv.symm
  · show _ = AV.own (hid 26 k) 0 (R k).length
    rw [hl k hk]
  · have : j = hid 26 k := he
    subst this; rw [hn k hk] at hj; cases hj
/-- row k by the name a -/
def up (f : Nat → Nat) (k a : Nat) : Nat → Nat := fun t => if t = k then a else f t
theorem up_eq (f : Nat → Nat) (k a : Nat) : up f k a k = a := by simp [up]
theorem up_ne {f : Nat → Nat} {k a t : Nat} (h : t ≠ k) : up f k a t = f t := by simp [up, h]
theorem hid_ne {t a : Nat} (h : a < bigN) : hid 26 t ≠ a := fun he => by have := hid_big 26 t; omega
def allB : Nat → Bool := fun _ => true
def but (p : Nat → Bool) (k : Nat) : Nat → Bool := fun t => if t = k then false else p t
theorem but_eq (p : Nat → Bool) (k : Nat) : but p k k = false := by simp [but]
theorem but_ne {p : Nat → Bool} {k t : Nat} (h : t ≠ k) : but p k t = p t := by simp [but, h]
/-! states -/
theorem ov_at {η : Hp} {ef n t : Nat} {R : Nat → List Nat} {p : Nat → Bool} (ht : t < n) (hp : p t = true) : ovH η (famR ef n R p) (hid 26 t) = some (.sl ef (.fl (R t))) := by
  rw [ovH_ge (hid_big _ _)]; exact famR_at ht hp
theorem ov_no {η : Hp} {ef n t : Nat} {R : Nat → List Nat} {p : Nat → Bool} (hp : p t = false) : (ovH η (famR ef n R p) (hid 26 t)).isSome = false := by
  rw [ovH_ge (hid_big _ _), famR_no hp]; rfl
section
variable {P : Program} {N : Nat} {Q : Exit → Fr → Hp → Prop} {ρ : Fr} {η : Hp}
theorem famN_of {X : Type} {Inv : X → Prop} {α : X → List (Nat × AV)} {H : X → List (Nat × Blk)} {fm : X → Hp} (x : X) (π : Nat → Nat) (hI : Inv x) (hF : wkF π ρ (α x)) (hB : wkB π η (ovH (lkH (H x)) (fm x)) (H x))
    (hf : ∀ i B, bigN ≤ i → fm x i = some B → BTo π η (ovH (lkH (H x)) (fm x)) i B) (hi : ∀ i j, (ovH (lkH (H x)) (fm x) i).isSome → (ovH (lkH (H x)) (fm x) j).isSome → π i = π j → i = j) : FamN Inv α (fun x => ovH (lkH (H x)) (fm x)) x ρ η :=
  ⟨hI, π, hF, wkB_ov hB hf, hi⟩
theorem awp_re {c : Code} (π : Nat → Nat) (α : List (Nat × AV)) (l : List (Nat × Blk)) (fm : Hp) (hF : wkF π ρ α) (hB : wkB π η (ovH (lkH l) fm) l) (hf : ∀ i B, bigN ≤ i → fm i = some B → BTo π η (ovH (lkH l) fm) i B)
    (hi : ∀ i j, (ovH (lkH l) fm i).isSome → (ovH (lkH l) fm j).isSome → π i = π j → i = j) (h : AWp P N c Q (lkF α) (ovH (lkH l) fm)) : AWp P N c Q ρ η :=
  awp_weakN π α _ hF (wkB_ov hB hf) hi h
end
end Go.Proofs.Ytpdnjcblkjjegaa

