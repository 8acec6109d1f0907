import Derived.Test.YtmnpdipiffmnhaaVT174
set_option linter.unusedVariables false
set_option linter.unusedSimpArgs false
set_option maxRecDepth 20000
set_option maxHeartbeats 8000000
namespace Go.Proofs.Ytmnpdipiffmnhaa
open Go.Aw
/-! ### bands of ways ahead: the program's -/
theorem q_store_nest2 {P : Program} {o : Oper} {F : List Nat} {ρ : Fr} {η : Hp} {ty : Ty} {t : TypeId} {e : TE} {e0 : TypeId} {L : List AV} {vis : List Nat} {x y : Operand} {id off : Nat} {v : AV} (vis' : List Nat) (hg : GoodN vis L) (hlt : off < L.length) (hT : TyOk P ty) (ho : o.op = .store t x y) (ht : ty.get t = some e) (hs : e.size = 1)
    (hx : evA ρ x = .bp id off) (hη : η id = some (.nest e0 L vis noRem)) (hF : F.contains id = true) (hy : evA ρ y = v) (hv1 : oneA v = true) :
    QRun P o F [] ρ η .junk (lkH [(id, .nest e0 (L.set off v) vis' noRem)]) := by
  intro vs w0 μ η' a w Q K h1 h2 h3 h4
  have hx' := h3 x (by simp [ho, Op.operands])
  have hy' := h3 y (by simp [ho, Op.operands])
  rw [hy] at hy'
  rw [hx, VR] at hx'
  obtain ⟨b, hμ, hv⟩ := hx'
  have hη' : η' id = some (.nest e0 L vis noRem) := (h1 id (by simpa using hF)).trans hη
  have hB := h2.blk id _ hη'
  rcases hB with ⟨hn, _⟩ | ⟨b', cs, hb', hbase, hw, hlen, hcs⟩
  · rw [hn] at hμ; cases hμ
  rw [hb'] at hμ; cases hμ
  have hone := oneA_one hy' hv1
  have hr := storeVar_one (P := P) (hT.get ht) hs hone hw (by omega : off < cs.size)
  have hw' := setCell_block (i := off) hw (a.eval y)
  obtain ⟨hc', hk⟩ := HC_mod (i := id) (b := b) (B := .nest e0 (L.set off v) vis' noRem) (S := []) (w' := w.setCell ⟨b, off, none⟩ (a.eval y)) h2 (by simp) hη' hb' rfl rfl rfl (by simp) (fun c hc => setCell_other hc _)
    (by rw [size_shp hw', size_shp hw]; simp) fun hk => by
      refine .inr ⟨b, _, hb', hbase, hw', by simpa using hlen, fun k u hu => ?_⟩
      rw [List.getElem?_set] at hu
      by_cases hko : off = k
      · subst hko
        rw [if_pos rfl, if_pos hlt] at hu; cases hu
        exact ⟨a.eval y, by rw [Array.getElem?_setIfInBounds_self_of_lt (by omega)], .inr (VR.mono hk _ _ (by simp) hy')⟩
      · rw [if_neg hko] at hu
        obtain ⟨z, hz, hr⟩ := VR_known hg hcs k u hu
        exact ⟨z, by rw [Array.getElem?_setIfInBounds_ne hko]; exact hz, .inr (VR.mono hk _ _ (by simp) hr)⟩
  unfold Oper.wp
  have : (execOp a.eval o).run P w = .ok .skip (w.setCell ⟨b, off, none⟩ (a.eval y)) := by simp [execOp, ho, hv, Instr.storeAt, Instr.sureAddr, hr]
  rw [this, Oper.upon_skip]
  exact h4 _ _ _ hc' hk (by rw [VR]; trivial)
theorem q_store_nest3 {P : Program} {o : Oper} {F : List Nat} {ρ : Fr} {η : Hp} {ty : Ty} {t : TypeId} {e : TE} {e0 : TypeId} {L : List AV} {vis : List Nat} {x y : Operand} {id off : Nat} {v : AV} {rem : Nat → Bool} (vis' : List Nat) (hg : ∀ (k : Nat) (u : AV), k ≠ off → L[k]? = some u → ∀ j ∈ u.ids, hitN vis rem j = false) (hlt : off < L.length) (hT : TyOk P ty) (ho : o.op = .store t x y) (ht : ty.get t = some e) (hs : e.size = 1)
    (hx : evA ρ x = .bp id off) (hη : η id = some (.nest e0 L vis rem)) (hF : F.contains id = true) (hy : evA ρ y = v) (hv1 : oneA v = true) :
    QRun P o F [] ρ η .junk (lkH [(id, .nest e0 (L.set off v) vis' noRem)]) := by
  intro vs w0 μ η' a w Q K h1 h2 h3 h4
  have hx' := h3 x (by simp [ho, Op.operands])
  have hy' := h3 y (by simp [ho, Op.operands])
  rw [hy] at hy'
  rw [hx, VR] at hx'
  obtain ⟨b, hμ, hv⟩ := hx'
  have hη' : η' id = some (.nest e0 L vis rem) := (h1 id (by simpa using hF)).trans hη
  have hB := h2.blk id _ hη'
  rcases hB with ⟨hn, _⟩ | ⟨b', cs, hb', hbase, hw, hlen, hcs⟩
  · rw [hn] at hμ; cases hμ
  rw [hb'] at hμ; cases hμ
  have hone := oneA_one hy' hv1
  have hr := storeVar_one (P := P) (hT.get ht) hs hone hw (by omega : off < cs.size)
  have hw' := setCell_block (i := off) hw (a.eval y)
  obtain ⟨hc', hk⟩ := HC_mod (i := id) (b := b) (B := .nest e0 (L.set off v) vis' noRem) (S := []) (w' := w.setCell ⟨b, off, none⟩ (a.eval y)) h2 (by simp) hη' hb' rfl rfl rfl (by simp) (fun c hc => setCell_other hc _)
    (by rw [size_shp hw', size_shp hw]; simp) fun hk => by
      refine .inr ⟨b, _, hb', hbase, hw', by simpa using hlen, fun k u hu => ?_⟩
      rw [List.getElem?_set] at hu
      by_cases hko : off = k
      · subst hko
        rw [if_pos rfl, if_pos hlt] at hu; cases hu
        exact ⟨a.eval y, by rw [Array.getElem?_setIfInBounds_self_of_lt (by omega)], .inr (VR.mono hk _ _ (by simp) hy')⟩
      · rw [if_neg hko] at hu
        obtain ⟨z, hz, hr⟩ := hcs k u hu
        rcases hr with ⟨j, hj, hh⟩ | hr
        · rw [hg k u (Ne.symm hko) hu j hj] at hh; cases hh
        · exact ⟨z, by rw [Array.getElem?_setIfInBounds_ne hko]; exact hz, .inr (VR.mono hk _ _ (by simp) hr)⟩
  unfold Oper.wp
  have : (execOp a.eval o).run P w = .ok .skip (w.setCell ⟨b, off, none⟩ (a.eval y)) := by simp [execOp, ho, hv, Instr.storeAt, Instr.sureAddr, hr]
  rw [this, Oper.upon_skip]
  exact h4 _ _ _ hc' hk (by rw [VR]; trivial)
theorem hit_up {C k a : Nat} {n : Nat → Nat} (ha : Nat.blt a bigN = true) (t : Nat) (u : AV) (ht : t ≠ k) (hu : (WX C n (up (hid 26) k a))[t]? = some u) (j : Nat) (hj : j ∈ u.ids) : hitN [a] (fun i => noRem i || ([a].contains i && (Nat.ble bigN i || [a].contains i))) j = false := by
  have htC : t < C := by have := (List.getElem?_eq_some_iff.1 hu).1; rwa [WX_len] at this
  rw [WX_get htC] at hu; cases hu
  unfold cW at hj
  split at hj
  · simp [AV.ids] at hj
  · simp only [AV.ids, List.mem_singleton] at hj
    subst hj
    rw [up_ne ht]
    have h1 : Nat.blt (hid 26 t) bigN = false := by
      cases hb : Nat.blt (hid 26 t) bigN with
      | false => rfl
      | true => have := Nat.le_of_ble_eq_true hb; have := hid_big 26 t; omega
    have h2 : [a].contains (hid 26 t) = false := by simp [hid_nei a ha t]
    simp [hitN, noRem, h1, hid_nei a ha t]
theorem fam_unJ {η0 : Hp} {ef n a i : Nat} {R R' : Nat → List Nat} {p p' : Nat → Bool} (h0 : ovH η0 (famR ef n R p) a = some (.sl ef (.fl (R' i)))) (hp : ∀ t, t < n → t ≠ i → p' t = true → p t = true ∧ R t = R' t) (t : Nat) (ht : t < n) (h : p' t = true) : ovH η0 (famR ef n R p) (one (hid 26 i) a (hid 26 t)) = some (.sl ef (.fl (R' t))) := by
  by_cases he : t = i
  · subst he; rw [one_eq]; exact h0
  · rw [one_ne fun hc => he (hid_inj hc), ← (hp t ht he h).2]; exact ov_at ht (hp t ht he h).1
theorem HX_dataB {s : ST} {h : SH} {m : List Nat} {sd C D e i ef : Nat} {η η' : Hp} {vis : List Nat} (h1 : η i = some (.nest e (HX C D (hid 26)) vis noRem)) (hR : ∀ t, t < C → η (hid 26 t) = some (.sl ef (.fl (bcL s h m sd C D t)))) (hn : ∀ t, t < C → (η' (hid 26 t)).isSome = false) : BTo (fun i => i) η η' i (.nest e (NL (bcA s h m sd C D)) [] noRem) :=
  HX_data h1 hR (fun t _ => bcL_len s h m sd C D t) hn
theorem pW_pos {D t : Nat} (h : 1 ≤ D) : pW D 0 t = true := by unfold pW; rw [nW_ge (Nat.not_lt_zero t)]; exact decide_eq_true (by omega)
theorem upupJ (f : Nat → Nat) (k a c : Nat) : up (up f k a) k c = up f k c := by
  funext t; unfold up; split <;> rfl
theorem nW_C {d C t : Nat} (h : t < C) : nW d C t = nW (d + 1) 0 t := by rw [nW_lt h, nW_ge (by omega)]
theorem bp_unJ (i a J : Nat) (hJ : Nat.blt J bigN = true) : AV.bp J 0 = ren (one (hid 26 i) a) (.bp J 0) := by
  show _ = AV.bp (one (hid 26 i) a J) 0
  rw [one_ne (Ne.symm (hid_nei J hJ i))]
/-- row t in draw d, behind k steps -/
def bcR (s : ST) (h : SH) (m : List Nat) (sd C d k : Nat) : Nat → List Nat := fun t => bcL s h m sd C (nW d k t) t
theorem bcR_ge {s : ST} {h : SH} {m : List Nat} {sd C d k t : Nat} (ht : ¬ t < k) : bcR s h m sd C d k t = bcL s h m sd C d t := by unfold bcR; rw [nW_ge ht]
theorem bcR_lt {s : ST} {h : SH} {m : List Nat} {sd C d k t : Nat} (ht : t < k) : bcR s h m sd C d k t = bcL s h m sd C (d + 1) t := by unfold bcR; rw [nW_lt ht]
theorem nW_ne {d k t : Nat} (h : t ≠ k) : nW d (k + 1) t = nW d k t := by rw [← nW_up, up_ne h]
theorem bcR_ne {s : ST} {h : SH} {m : List Nat} {sd C d k t : Nat} (ht : t ≠ k) : bcR s h m sd C d (k + 1) t = bcR s h m sd C d k t := by unfold bcR; rw [nW_ne ht]
theorem pW_ne {d k t : Nat} (h : t ≠ k) : pW d (k + 1) t = pW d k t := by unfold pW; rw [nW_ne h]
theorem WX_nil (C : Nat) : WX C (nW 0 0) (hid 26) = List.replicate C (.t (.v (.slice none 0 0))) := by
  unfold WX
  refine List.ext_getElem (by simp) fun i h1 h2 => ?_
  simp [cW, nW]
theorem pW_0 (t : Nat) : pW 0 0 t = false := by unfold pW; rw [nW_ge (by omega)]; rfl
attribute [local irreducible] QRun LexD AWp TCall TMut fop fint fcmp fconv sdN sdI miA bnS bnX bnO  bcL bOk bqL quantG NL gsF erF nxF  bandsF bcA WX famR hid up
theorem iB_2 {s : ST} {h : SH} {m : List Nat} {C D sd sh : Nat} (hl : s.se.length ≤ 1048576) (hv : validS s = true) (hh : validH h = true) (hm : 1 ≤ m.length ∧ m.length ≤ 96) (hsd : sd < 4294967296) (hC : 1 ≤ C ∧ C ≤ 32) (hD : 1 ≤ D ∧ D ≤ 64) (hs : isShr sh = true) (hF : F32 sh) {v : BD} (hnoO : bOk s h m sd C D = false → v = ⟨[], 0, false⟩)
    (hno : bOk s h m sd C D = true → (bqL s h m sd C D sh).all fin = false → v = ⟨[], 0, false⟩) (hyes : bOk s h m sd C D = true → (bqL s h m sd C D sh).all fin = true → v = ⟨bqL s h m sd C D sh, (sdI sd (D * C) : Nat), true⟩) :
    AWp Try.prog Try.f48.ntmps (tlF Try.f48 2) (RetQ Try.prog Try.f48 (bdR v) (bdH v)) (lkF [(2, .arg 2 (.fl m)), (3, .t (.v (.int .i64 (C : Nat)))), (4, .t (.v (.int .i64 (D : Nat)))), (5, .t (.v (.int .i64 (sd : Nat)))), (6, .t (.f .f32 sh)), (7, .bp 7 0), (8, .bp 8 0)])
      (lkH [(8, .box 72 [.t (.f .f32 h.l), .t (.f .f32 h.s), .t (.f .f32 h.c), .t (.f .f32 h.d)]), (7, .box 70 [.t (.f .f32 s.l), .t (.f .f32 s.s), .argc 0 2 (.fl s.se), .t (.v (.int .i64 s.at_))])]) := by
  have hfm := famOk_no
  refine awp_sq ?_
  refine awp_rg ?_
  repeat (first | (refine w_q (h := ?_)) | (refine w_s (h := ?_)) | (refine w_t (h := ?_)) | (refine w_k (h := ?_)))
  refine w_rs (q_make C tyOk rfl rfl rfl rfl rfl rfl rfl rfl rfl rfl rfl (by simp only []; omega) (by omega)) (h := ?_)
  repeat (first | (refine w_q (h := ?_)) | (refine w_s (h := ?_)) | (refine w_t (h := ?_)) | (refine w_k (h := ?_)))
  refine lex_nil (by kernel_rfl) ?_
  refine awp_wk0 [(2, .arg 2 (.fl m)), (3, .t (.v (.int .i64 (C : Nat)))), (4, .t (.v (.int .i64 (D : Nat)))), (5, .t (.v (.int .i64 (sd : Nat)))), (6, .t (.f .f32 sh)), (7, .bp 7 0), (8, .bp 8 0), (17, .own 65 0 C)] [(65, .nest 24 (WX C (nW 0 0) (hid 26)) [] noRem), (8, .box 72 [.t (.f .f32 h.l), .t (.f .f32 h.s), .t (.f .f32 h.c), .t (.f .f32 h.d)]), (7, .box 70 [.t (.f .f32 s.l), .t (.f .f32 s.s), .argc 0 2 (.fl s.se), .t (.v (.int .i64 s.at_))])] ⟨rfl, rfl, rfl, rfl, rfl, rfl, rfl, rfl, trivial⟩ ⟨.inr ⟨_, rfl, by rw [WX_nil]; simp [T.elems]⟩, rfl, rfl, trivial⟩ ?_
  refine awp_old [(2, .arg 2 (.fl m)), (3, .t (.v (.int .i64 (C : Nat)))), (4, .t (.v (.int .i64 (D : Nat)))), (5, .t (.v (.int .i64 (sd : Nat)))), (6, .t (.f .f32 sh)), (7, .bp 7 0), (8, .bp 8 0), (17, .own 65 0 C)] [(65, .nest 24 (WX C (nW 0 0) (hid 26)) [] noRem), (8, .box 72 [.t (.f .f32 h.l), .t (.f .f32 h.s), .t (.f .f32 h.c), .t (.f .f32 h.d)]), (7, .box 70 [.t (.f .f32 s.l), .t (.f .f32 s.s), .old (.fl s.se), .t (.v (.int .i64 s.at_))])] ⟨rfl, .inl rfl, rfl, .inl rfl, rfl, .inl rfl, rfl, .inl rfl, rfl, .inl rfl, rfl, .inl rfl, rfl, .inl rfl, rfl, .inl rfl, trivial⟩ ⟨rfl, .inl rfl, rfl, .inl rfl, rfl, .inr ⟨_, _, _, rfl, rfl, .inl rfl, .inl rfl, .inr ⟨_, rfl, .inr (.inr ⟨_, _, rfl⟩)⟩, .inl rfl, trivial⟩, trivial⟩ ?_
  repeat (first | (refine kx_q (h := ?_)) | (refine kxd_q (h := ?_)) | (refine kw_s (h := ?_)) | (refine kw_t (h := ?_)) | (refine kw_k (h := ?_)) | (refine ky_s (h := ?_)) | (refine ky_t (h := ?_)) | (refine ky_k (h := ?_)) | (refine lex_nil (by kernel_rfl) ?_) | (refine awp_sq ?_) | (refine awp_rg ?_) | (refine awp_rd (by kernel_rfl) (by kernel_rfl) ?_) | (refine awp_block ?_) | (refine awp_exit ?_) | (refine awp_ret ?_) | (refine awp_skip ?_))
  refine awp_loopN (X := Nat) (fun d => d ≤ D ∧ ∀ i, i < d → ∀ k, k < C → bnO s h m (sdI sd (i * C)) k = true) (fun d => [(2, .arg 2 (.fl m)), (5, .t (.v (.int .i64 ((sdI sd (d * C) : Nat) : Int)))), (6, .t (.f .f32 sh)), (7, .bp 7 0), (8, .bp 8 0), (17, .own 65 0 C), (66, .t (.v (.int .i64 (D : Nat)))), (67, .t (.v (.int .i64 (d : Nat))))])
    (fun d => ovH (lkH [(65, .nest 24 (WX C (nW d 0) (hid 26)) [] noRem), (8, .box 72 [.t (.f .f32 h.l), .t (.f .f32 h.s), .t (.f .f32 h.c), .t (.f .f32 h.d)]), (7, .box 70 [.t (.f .f32 s.l), .t (.f .f32 s.s), .old (.fl s.se), .t (.v (.int .i64 s.at_))])]) (famR 30 C (bcR s h m sd C d 0) (pW d 0))) (fun d => D - d)
    0 (famN_of (H := fun d => [(65, .nest 24 (WX C (nW d 0) (hid 26)) [] noRem), (8, .box 72 [.t (.f .f32 h.l), .t (.f .f32 h.s), .t (.f .f32 h.c), .t (.f .f32 h.d)]), (7, .box 70 [.t (.f .f32 s.l), .t (.f .f32 s.s), .old (.fl s.se), .t (.v (.int .i64 s.at_))])]) (fm := fun d => famR 30 C (bcR s h m sd C d 0) (pW d 0)) 0 (fun i => i) ⟨Nat.zero_le _, fun i hi => absurd hi (Nat.not_lt_zero i)⟩
      ⟨rfl, iE12 (by rw [Nat.zero_mul, sdI_0]), rfl, rfl, rfl, rfl, rfl, rfl, trivial⟩ ⟨WX_bto rfl good_hid0 (fun _ _ => rfl) (fun _ _ _ => rfl), rfl, rfl, trivial⟩ (fam_bto fun t ht hp => by rw [pW_0] at hp; cases hp) (fun _ _ _ _ h => h)) (fun d hd => ?_)
  obtain ⟨hd, hok⟩ := hd
  have hfm1 := famR_ok 30 C (bcR s h m sd C d 0) (pW d 0)
  repeat (first | (refine kx_q (h := ?_)) | (refine kxd_q (h := ?_)) | (refine kw_s (h := ?_)) | (refine kw_t (h := ?_)) | (refine kw_k (h := ?_)) | (refine ky_s (h := ?_)) | (refine ky_t (h := ?_)) | (refine ky_k (h := ?_)) | (refine lex_nil (by kernel_rfl) ?_) | (refine awp_sq ?_) | (refine awp_rg ?_) | (refine awp_rd (by kernel_rfl) (by kernel_rfl) ?_) | (refine awp_block ?_) | (refine awp_exit ?_) | (refine awp_ret ?_) | (refine awp_skip ?_))
  refine awp_cond (b := _) rfl (fun h1 => ?_) (fun h1 => ?_)
  · simp only [icmp, decide_eq_true_eq] at h1
    have hdD : d < D := by omega
    have hbn : ∀ k, k < C → bnO s h m (sdI sd (d * C)) k = false → v = ⟨[], 0, false⟩ := fun k hk hf => hnoO (bOk_no hdD hk hf)
    have hbS : ∀ k, bcL s h m sd C d k ++ [bnX s h m (sdI sd (d * C)) k] = bcL s h m sd C (d + 1) k := fun k => bcL_S s h m sd C d k
    have hblt := sdI_lt hsd (d * C)
    have hnx : sdI (sdI sd (d * C)) C = sdI sd ((d + 1) * C) := by rw [sdI_add, Nat.add_mul, Nat.one_mul]
    generalize hbe : sdI sd (d * C) = b at *
    repeat (first | (refine kx_q (h := ?_)) | (refine kxd_q (h := ?_)) | (refine kw_s (h := ?_)) | (refine kw_t (h := ?_)) | (refine kw_k (h := ?_)) | (refine ky_s (h := ?_)) | (refine ky_t (h := ?_)) | (refine ky_k (h := ?_)) | (refine lex_nil (by kernel_rfl) ?_) | (refine awp_sq ?_) | (refine awp_rg ?_) | (refine awp_rd (by kernel_rfl) (by kernel_rfl) ?_) | (refine awp_block ?_) | (refine awp_exit ?_) | (refine awp_ret ?_) | (refine awp_skip ?_))
    refine awp_loopN (X := Nat) (fun k => k ≤ C ∧ ∀ j, j < k → bnO s h m b j = true) (fun k => [(2, .arg 2 (.fl m)), (5, .t (.v (.int .i64 ((sdI b k : Nat) : Int)))), (6, .t (.f .f32 sh)), (7, .bp 7 0), (8, .bp 8 0), (17, .own 65 0 C), (18, .bp 18 0), (66, .t (.v (.int .i64 (D : Nat)))), (67, .t (.v (.int .i64 (d : Nat)))), (70, .own 65 0 C), (71, .t (.v (.int .i64 (C : Nat)))), (72, .t (.v (.int .i64 (k : Nat))))])
      (fun k => ovH (lkH [(65, .nest 24 (WX C (nW d k) (hid 26)) [] noRem), (18, .box 70 [.t (.f .f32 (bnS s h m b k).l), .t (.f .f32 (bnS s h m b k).s), .old (.fl (bnS s h m b k).se), .t (.v (.int .i64 (bnS s h m b k).at_))]), (8, .box 72 [.t (.f .f32 h.l), .t (.f .f32 h.s), .t (.f .f32 h.c), .t (.f .f32 h.d)]), (7, .box 70 [.t (.f .f32 s.l), .t (.f .f32 s.s), .old (.fl s.se), .t (.v (.int .i64 s.at_))])]) (famR 30 C (bcR s h m sd C d k) (pW d k))) (fun k => C - k)
      0 (famN_of (H := fun k => [(65, .nest 24 (WX C (nW d k) (hid 26)) [] noRem), (18, .box 70 [.t (.f .f32 (bnS s h m b k).l), .t (.f .f32 (bnS s h m b k).s), .old (.fl (bnS s h m b k).se), .t (.v (.int .i64 (bnS s h m b k).at_))]), (8, .box 72 [.t (.f .f32 h.l), .t (.f .f32 h.s), .t (.f .f32 h.c), .t (.f .f32 h.d)]), (7, .box 70 [.t (.f .f32 s.l), .t (.f .f32 s.s), .old (.fl s.se), .t (.v (.int .i64 s.at_))])]) (fm := fun k => famR 30 C (bcR s h m sd C d k) (pW d k)) 0 (fun i => i) ⟨Nat.zero_le _, fun j hj => absurd hj (Nat.not_lt_zero j)⟩
        ⟨rfl, iE12 (by rw [sdI_0]), rfl, rfl, rfl, rfl, rfl, rfl, rfl, rfl, rfl, rfl, trivial⟩ ⟨WX_bto rfl good_hid0 (fun _ _ => rfl) (fun _ _ _ => rfl), by rw [bnS_0]; rfl, rfl, rfl, trivial⟩ (fam_bto fun t ht hp => ov_at ht hp) (fun _ _ _ _ h => h)) (fun k hk => ?_)
    obtain ⟨hk, hokk⟩ := hk
    have hfm2 := famR_ok 30 C (bcR s h m sd C d k) (pW d k)
    have hvk := bnS_valid (h := h) (m := m) (sd := b) hv hokk
    have hvt := validS_at hvk
    have hlk := validS_len hvk
    have hWl := WX_len C (nW d k) (hid 26)
    repeat (first | (refine kx_q (h := ?_)) | (refine kxd_q (h := ?_)) | (refine kw_s (h := ?_)) | (refine kw_t (h := ?_)) | (refine kw_k (h := ?_)) | (refine ky_s (h := ?_)) | (refine ky_t (h := ?_)) | (refine ky_k (h := ?_)) | (refine lex_nil (by kernel_rfl) ?_) | (refine awp_sq ?_) | (refine awp_rg ?_) | (refine awp_rd (by kernel_rfl) (by kernel_rfl) ?_) | (refine awp_block ?_) | (refine awp_exit ?_) | (refine awp_ret ?_) | (refine awp_skip ?_))
    refine awp_cond (b := _) rfl (fun h2 => ?_) (fun h2 => ?_)
    · simp only [icmp, decide_eq_true_eq] at h2
      have hkC : k < C := by omega
      have hslt := sdI_lt hblt k
      have hslt2 := sdI_lt hblt (k + 1)
      have hS1 := sdI_S b k
      have hmi := miA_lt (m := m) hslt2 hm.1
      have hXd : bnX s h m b k = fop .add .f32 (gsF (bnS s h m b k) h) (m.getD (miA m (sdI b (k + 1))) 0) := by unfold bnX; rfl
      repeat (first | (refine kx_q (h := ?_)) | (refine kxd_q (h := ?_)) | (refine kw_s (h := ?_)) | (refine kw_t (h := ?_)) | (refine kw_k (h := ?_)) | (refine ky_s (h := ?_)) | (refine ky_t (h := ?_)) | (refine ky_k (h := ?_)) | (refine lex_nil (by kernel_rfl) ?_) | (refine awp_sq ?_) | (refine awp_rg ?_) | (refine awp_rd (by kernel_rfl) (by kernel_rfl) ?_) | (refine awp_block ?_) | (refine awp_exit ?_) | (refine awp_ret ?_) | (refine awp_skip ?_))
      (first | (refine kc_q (bnNext_c (sdI b k) hslt) (h := ?_)) | (refine kz_q (bnNext_c (sdI b k) hslt) (h := ?_)))
      rw [← hS1]
      repeat (first | (refine kx_q (h := ?_)) | (refine kxd_q (h := ?_)) | (refine kw_s (h := ?_)) | (refine kw_t (h := ?_)) | (refine kw_k (h := ?_)) | (refine ky_s (h := ?_)) | (refine ky_t (h := ?_)) | (refine ky_k (h := ?_)) | (refine lex_nil (by kernel_rfl) ?_) | (refine awp_sq ?_) | (refine awp_rg ?_) | (refine awp_rd (by kernel_rfl) (by kernel_rfl) ?_) | (refine awp_block ?_) | (refine awp_exit ?_) | (refine awp_ret ?_) | (refine awp_skip ?_))
      cases hg : fin (gsF (bnS s h m b k) h) with
      | false =>
        have hbad : v = ⟨[], 0, false⟩ := hbn k hkC (by
          cases hb : bnO s h m b k with
          | false => rfl
          | true => rw [bnO_gs hb] at hg; cases hg)
        have hcall := bnGuess_c (bnS s h m b k) h hvk hh
        rw [show numF (gsF (bnS s h m b k) h) = (0, false) by unfold numF; rw [hg]; rfl] at hcall
        (first | (refine kc_q (hcall) (h := ?_)) | (refine kz_q (hcall) (h := ?_)))
        repeat (first | (refine kx_q (h := ?_)) | (refine kxd_q (h := ?_)) | (refine kw_s (h := ?_)) | (refine kw_t (h := ?_)) | (refine kw_k (h := ?_)) | (refine ky_s (h := ?_)) | (refine ky_t (h := ?_)) | (refine ky_k (h := ?_)) | (refine lex_nil (by kernel_rfl) ?_) | (refine awp_sq ?_) | (refine awp_rg ?_) | (refine awp_rd (by kernel_rfl) (by kernel_rfl) ?_) | (refine awp_block ?_) | (refine awp_exit ?_) | (refine awp_ret ?_) | (refine awp_skip ?_))
        (first | (refine kc_q (bnDraw_c (sdI b (k + 1)) m hslt2 hm.2) (h := ?_)) | (refine kz_q (bnDraw_c (sdI b (k + 1)) m hslt2 hm.2) (h := ?_)))
        repeat (first | (refine kx_q (h := ?_)) | (refine kxd_q (h := ?_)) | (refine kw_s (h := ?_)) | (refine kw_t (h := ?_)) | (refine kw_k (h := ?_)) | (refine ky_s (h := ?_)) | (refine ky_t (h := ?_)) | (refine ky_k (h := ?_)) | (refine lex_nil (by kernel_rfl) ?_) | (refine awp_sq ?_) | (refine awp_rg ?_) | (refine awp_rd (by kernel_rfl) (by kernel_rfl) ?_) | (refine awp_block ?_) | (refine awp_exit ?_) | (refine awp_ret ?_) | (refine awp_skip ?_))
        have hst := tcall_rst3 (implStep4_c (bnS s h m b k) h (fop .add .f32 0 (m.getD (miA m (sdI b (k + 1))) 0)) hlk)
        rw [show stpF (bnS s h m b k) h (fop .add .f32 0 (m.getD (miA m (sdI b (k + 1))) 0)) = ⟨⟨0, 0, [], 0⟩, 0, false⟩ by unfold stpF spFull; rw [hg]; simp] at hst
        (first | (refine kc_q (hst) (h := ?_)) | (refine kz_q (hst) (h := ?_)))
        repeat (first | (refine kx_q (h := ?_)) | (refine kxd_q (h := ?_)) | (refine kw_s (h := ?_)) | (refine kw_t (h := ?_)) | (refine kw_k (h := ?_)) | (refine ky_s (h := ?_)) | (refine ky_t (h := ?_)) | (refine ky_k (h := ?_)) | (refine lex_nil (by kernel_rfl) ?_) | (refine awp_sq ?_) | (refine awp_rg ?_) | (refine awp_rd (by kernel_rfl) (by kernel_rfl) ?_) | (refine awp_block ?_) | (refine awp_exit ?_) | (refine awp_ret ?_) | (refine awp_skip ?_))
        refine awp_cond (b := _) rfl (fun h9 => ?_) (fun h9 => by cases h9)
        repeat (first | (refine kx_q (h := ?_)) | (refine kxd_q (h := ?_)) | (refine kw_s (h := ?_)) | (refine kw_t (h := ?_)) | (refine kw_k (h := ?_)) | (refine ky_s (h := ?_)) | (refine ky_t (h := ?_)) | (refine ky_k (h := ?_)) | (refine lex_nil (by kernel_rfl) ?_) | (refine awp_sq ?_) | (refine awp_rg ?_) | (refine awp_rd (by kernel_rfl) (by kernel_rfl) ?_) | (refine awp_block ?_) | (refine awp_exit ?_) | (refine awp_ret ?_) | (refine awp_skip ?_))
        rw [hbad]
        (refine ret_ok tyOk (by first | exact .inr rfl | exact .inl rfl) pi0 rfl (by first | exact .cons (by first | exact .tmp | exact .cell rfl rfl rfl rfl rfl rfl | exact .cell1 rfl rfl rfl rfl rfl) .nil | exact .cons (by first | exact .tmp | exact .cell rfl rfl rfl rfl rfl rfl | exact .cell1 rfl rfl rfl rfl rfl) (.cons (by first | exact .tmp | exact .cell rfl rfl rfl rfl rfl rfl | exact .cell1 rfl rfl rfl rfl rfl) .nil) | exact .cons (by first | exact .tmp | exact .cell rfl rfl rfl rfl rfl rfl | exact .cell1 rfl rfl rfl rfl rfl) (.cons (by first | exact .tmp | exact .cell rfl rfl rfl rfl rfl rfl | exact .cell1 rfl rfl rfl rfl rfl) (.cons (by first | exact .tmp | exact .cell rfl rfl rfl rfl rfl rfl | exact .cell1 rfl rfl rfl rfl rfl) .nil)) | exact .cons (by first | exact .tmp | exact .cell rfl rfl rfl rfl rfl rfl | exact .cell1 rfl rfl rfl rfl rfl) (.cons (by first | exact .tmp | exact .cell rfl rfl rfl rfl rfl rfl | exact .cell1 rfl rfl rfl rfl rfl) (.cons (by first | exact .tmp | exact .cell rfl rfl rfl rfl rfl rfl | exact .cell1 rfl rfl rfl rfl rfl) (.cons (by first | exact .tmp | exact .cell rfl rfl rfl rfl rfl rfl | exact .cell1 rfl rfl rfl rfl rfl) .nil)))) ?_ ⟨⟨_, _, rfl, rfl, rfl⟩, trivial⟩ (injO_1 _ _ _); (repeat' (first | exact RetRelL.nil | (refine RetRel.nil rfl ?_) | refine RetRelL.cons ?_ ?_ | refine rr_tup ?_ | refine rr_agg ?_ | refine rr_own rfl ?_ | exact RetRel.arg | exact RetRel.argc | refine rr_t ?_)); all_goals rfl)
      | true =>
        have hcall := bnGuess_c (bnS s h m b k) h hvk hh
        rw [show numF (gsF (bnS s h m b k) h) = (gsF (bnS s h m b k) h, true) by unfold numF; rw [hg]; rfl] at hcall
        (first | (refine kc_q (hcall) (h := ?_)) | (refine kz_q (hcall) (h := ?_)))
        repeat (first | (refine kx_q (h := ?_)) | (refine kxd_q (h := ?_)) | (refine kw_s (h := ?_)) | (refine kw_t (h := ?_)) | (refine kw_k (h := ?_)) | (refine ky_s (h := ?_)) | (refine ky_t (h := ?_)) | (refine ky_k (h := ?_)) | (refine lex_nil (by kernel_rfl) ?_) | (refine awp_sq ?_) | (refine awp_rg ?_) | (refine awp_rd (by kernel_rfl) (by kernel_rfl) ?_) | (refine awp_block ?_) | (refine awp_exit ?_) | (refine awp_ret ?_) | (refine awp_skip ?_))
        (first | (refine kc_q (bnDraw_c (sdI b (k + 1)) m hslt2 hm.2) (h := ?_)) | (refine kz_q (bnDraw_c (sdI b (k + 1)) m hslt2 hm.2) (h := ?_)))
        repeat (first | (refine kx_q (h := ?_)) | (refine kxd_q (h := ?_)) | (refine kw_s (h := ?_)) | (refine kw_t (h := ?_)) | (refine kw_k (h := ?_)) | (refine ky_s (h := ?_)) | (refine ky_t (h := ?_)) | (refine ky_k (h := ?_)) | (refine lex_nil (by kernel_rfl) ?_) | (refine awp_sq ?_) | (refine awp_rg ?_) | (refine awp_rd (by kernel_rfl) (by kernel_rfl) ?_) | (refine awp_block ?_) | (refine awp_exit ?_) | (refine awp_ret ?_) | (refine awp_skip ?_))
        rw [← hXd]
        have hst := tcall_rst3 (implStep4_c (bnS s h m b k) h (bnX s h m b k) hlk)
        have hfull := bnO_full (m := m) (sd := b) (k := k) hvk hh hg
        cases hO : bnO s h m b k with
        | false =>
          rw [show stpF (bnS s h m b k) h (bnX s h m b k) = ⟨⟨0, 0, [], 0⟩, 0, false⟩ by unfold stpF; rw [hfull, hO]; rfl] at hst
          (first | (refine kc_q (hst) (h := ?_)) | (refine kz_q (hst) (h := ?_)))
          repeat (first | (refine kx_q (h := ?_)) | (refine kxd_q (h := ?_)) | (refine kw_s (h := ?_)) | (refine kw_t (h := ?_)) | (refine kw_k (h := ?_)) | (refine ky_s (h := ?_)) | (refine ky_t (h := ?_)) | (refine ky_k (h := ?_)) | (refine lex_nil (by kernel_rfl) ?_) | (refine awp_sq ?_) | (refine awp_rg ?_) | (refine awp_rd (by kernel_rfl) (by kernel_rfl) ?_) | (refine awp_block ?_) | (refine awp_exit ?_) | (refine awp_ret ?_) | (refine awp_skip ?_))
          refine awp_cond (b := _) rfl (fun h9 => ?_) (fun h9 => by cases h9)
          repeat (first | (refine kx_q (h := ?_)) | (refine kxd_q (h := ?_)) | (refine kw_s (h := ?_)) | (refine kw_t (h := ?_)) | (refine kw_k (h := ?_)) | (refine ky_s (h := ?_)) | (refine ky_t (h := ?_)) | (refine ky_k (h := ?_)) | (refine lex_nil (by kernel_rfl) ?_) | (refine awp_sq ?_) | (refine awp_rg ?_) | (refine awp_rd (by kernel_rfl) (by kernel_rfl) ?_) | (refine awp_block ?_) | (refine awp_exit ?_) | (refine awp_ret ?_) | (refine awp_skip ?_))
          rw [hbn k hkC hO]
          (refine ret_ok tyOk (by first | exact .inr rfl | exact .inl rfl) pi0 rfl (by first | exact .cons (by first | exact .tmp | exact .cell rfl rfl rfl rfl rfl rfl | exact .cell1 rfl rfl rfl rfl rfl) .nil | exact .cons (by first | exact .tmp | exact .cell rfl rfl rfl rfl rfl rfl | exact .cell1 rfl rfl rfl rfl rfl) (.cons (by first | exact .tmp | exact .cell rfl rfl rfl rfl rfl rfl | exact .cell1 rfl rfl rfl rfl rfl) .nil) | exact .cons (by first | exact .tmp | exact .cell rfl rfl rfl rfl rfl rfl | exact .cell1 rfl rfl rfl rfl rfl) (.cons (by first | exact .tmp | exact .cell rfl rfl rfl rfl rfl rfl | exact .cell1 rfl rfl rfl rfl rfl) (.cons (by first | exact .tmp | exact .cell rfl rfl rfl rfl rfl rfl | exact .cell1 rfl rfl rfl rfl rfl) .nil)) | exact .cons (by first | exact .tmp | exact .cell rfl rfl rfl rfl rfl rfl | exact .cell1 rfl rfl rfl rfl rfl) (.cons (by first | exact .tmp | exact .cell rfl rfl rfl rfl rfl rfl | exact .cell1 rfl rfl rfl rfl rfl) (.cons (by first | exact .tmp | exact .cell rfl rfl rfl rfl rfl rfl | exact .cell1 rfl rfl rfl rfl rfl) (.cons (by first | exact .tmp | exact .cell rfl rfl rfl rfl rfl rfl | exact .cell1 rfl rfl rfl rfl rfl) .nil)))) ?_ ⟨⟨_, _, rfl, rfl, rfl⟩, trivial⟩ (injO_1 _ _ _); (repeat' (first | exact RetRelL.nil | (refine RetRel.nil rfl ?_) | refine RetRelL.cons ?_ ?_ | refine rr_tup ?_ | refine rr_agg ?_ | refine rr_own rfl ?_ | exact RetRel.arg | exact RetRel.argc | refine rr_t ?_)); all_goals rfl)
        | true =>
          rw [show stpF (bnS s h m b k) h (bnX s h m b k) = ⟨bnS s h m b (k + 1), erF (bnS s h m b k) h (bnX s h m b k), true⟩ by unfold stpF; rw [hfull, hO, bnS_S]; rfl] at hst
          (first | (refine kc_q (hst) (h := ?_)) | (refine kz_q (hst) (h := ?_)))
          repeat (first | (refine kx_q (h := ?_)) | (refine kxd_q (h := ?_)) | (refine kw_s (h := ?_)) | (refine kw_t (h := ?_)) | (refine kw_k (h := ?_)) | (refine ky_s (h := ?_)) | (refine ky_t (h := ?_)) | (refine ky_k (h := ?_)) | (refine lex_nil (by kernel_rfl) ?_) | (refine awp_sq ?_) | (refine awp_rg ?_) | (refine awp_rd (by kernel_rfl) (by kernel_rfl) ?_) | (refine awp_block ?_) | (refine awp_exit ?_) | (refine awp_ret ?_) | (refine awp_skip ?_))
          refine awp_cond (b := _) rfl (fun h9 => by cases h9) (fun h9 => ?_)
          refine awp_skip ?_
          refine awp_re (fun i => i) [(2, .arg 2 (.fl m)), (5, .t (.v (.int .i64 ((sdI b (k + 1) : Nat) : Int)))), (6, .t (.f .f32 sh)), (7, .bp 7 0), (8, .bp 8 0), (17, .own 65 0 C), (18, .bp 18 0), (19, .t (.v (.int .i64 (k : Nat)))), (22, .t (.f .f32 (bnX s h m b k))), (23, .bp 23 0), (66, .t (.v (.int .i64 (D : Nat)))), (67, .t (.v (.int .i64 (d : Nat)))), (70, .own 65 0 C), (71, .t (.v (.int .i64 (C : Nat)))), (72, .t (.v (.int .i64 (k : Nat))))] [(65, .nest 24 (WX C (nW d k) (hid 26)) [] noRem), (18, .box 70 [.t (.f .f32 (bnS s h m b k).l), .t (.f .f32 (bnS s h m b k).s), .old (.fl (bnS s h m b k).se), .t (.v (.int .i64 (bnS s h m b k).at_))]), (23, .box 70 [.t (.f .f32 (bnS s h m b (k + 1)).l), .t (.f .f32 (bnS s h m b (k + 1)).s), .t (.fl (bnS s h m b (k + 1)).se), .t (.v (.int .i64 (bnS s h m b (k + 1)).at_))]), (8, .box 72 [.t (.f .f32 h.l), .t (.f .f32 h.s), .t (.f .f32 h.c), .t (.f .f32 h.d)]), (7, .box 70 [.t (.f .f32 s.l), .t (.f .f32 s.s), .old (.fl s.se), .t (.v (.int .i64 s.at_))])] (famR 30 C (bcR s h m sd C d k) (pW d k))
            ⟨rfl, rfl, rfl, rfl, rfl, rfl, rfl, rfl, rfl, rfl, rfl, rfl, rfl, rfl, rfl, trivial⟩ ⟨WX_bto rfl good_hid0 (fun _ _ => rfl) (fun _ _ _ => rfl), rfl, rfl, rfl, rfl, trivial⟩ (fam_bto fun t ht hp => ov_at ht hp) (fun _ _ _ _ h => h) ?_
          refine awp_old [(2, .arg 2 (.fl m)), (5, .t (.v (.int .i64 ((sdI b (k + 1) : Nat) : Int)))), (6, .t (.f .f32 sh)), (7, .bp 7 0), (8, .bp 8 0), (17, .own 65 0 C), (18, .bp 18 0), (19, .t (.v (.int .i64 (k : Nat)))), (22, .t (.f .f32 (bnX s h m b k))), (23, .bp 23 0), (66, .t (.v (.int .i64 (D : Nat)))), (67, .t (.v (.int .i64 (d : Nat)))), (70, .own 65 0 C), (71, .t (.v (.int .i64 (C : Nat)))), (72, .t (.v (.int .i64 (k : Nat))))] [(65, .nest 24 (WX C (nW d k) (hid 26)) [] noRem), (18, .box 70 [.t (.f .f32 (bnS s h m b k).l), .t (.f .f32 (bnS s h m b k).s), .old (.fl (bnS s h m b k).se), .t (.v (.int .i64 (bnS s h m b k).at_))]), (23, .box 70 [.t (.f .f32 (bnS s h m b (k + 1)).l), .t (.f .f32 (bnS s h m b (k + 1)).s), .old (.fl (bnS s h m b (k + 1)).se), .t (.v (.int .i64 (bnS s h m b (k + 1)).at_))]), (8, .box 72 [.t (.f .f32 h.l), .t (.f .f32 h.s), .t (.f .f32 h.c), .t (.f .f32 h.d)]), (7, .box 70 [.t (.f .f32 s.l), .t (.f .f32 s.s), .old (.fl s.se), .t (.v (.int .i64 s.at_))])] ⟨rfl, .inl rfl, rfl, .inl rfl, rfl, .inl rfl, rfl, .inl rfl, rfl, .inl rfl, rfl, .inl rfl, rfl, .inl rfl, rfl, .inl rfl, rfl, .inl rfl, rfl, .inl rfl, rfl, .inl rfl, rfl, .inl rfl, rfl, .inl rfl, rfl, .inl rfl, rfl, .inl rfl, trivial⟩ ⟨rfl, .inl rfl, rfl, .inl rfl, rfl, .inr ⟨_, _, _, rfl, rfl, .inl rfl, .inl rfl, .inr ⟨_, rfl, .inl rfl⟩, .inl rfl, trivial⟩, rfl, .inl rfl, rfl, .inl rfl, trivial⟩ ?_
          by_cases hd0 : d = 0
          · have hcell : (WX C (nW d k) (hid 26))[k]? = some (.t (.v (.slice none 0 0))) := by rw [WX_get hkC]; unfold cW; rw [nW_ge (Nat.lt_irrefl k), if_pos hd0]
            repeat (first | (refine kx_q (h := ?_)) | (refine kxd_q (h := ?_)) | (refine kw_s (h := ?_)) | (refine kw_t (h := ?_)) | (refine kw_k (h := ?_)) | (refine ky_s (h := ?_)) | (refine ky_t (h := ?_)) | (refine ky_k (h := ?_)) | (refine lex_nil (by kernel_rfl) ?_) | (refine awp_sq ?_) | (refine awp_rg ?_) | (refine awp_rd (by kernel_rfl) (by kernel_rfl) ?_) | (refine awp_block ?_) | (refine awp_exit ?_) | (refine awp_ret ?_) | (refine awp_skip ?_))
            (first | (refine kw_r (q_load_nest (off := 0 + k) (by rw [Nat.zero_add]; exact hcell) (WX_good good_hid0) tyOk rfl rfl rfl rfl rfl rfl rfl) (h := ?_)) | (refine ky_r (q_load_nest (off := 0 + k) (by rw [Nat.zero_add]; exact hcell) (WX_good good_hid0) tyOk rfl rfl rfl rfl rfl rfl rfl) (h := ?_)))
            repeat (first | (refine kx_q (h := ?_)) | (refine kxd_q (h := ?_)) | (refine kw_s (h := ?_)) | (refine kw_t (h := ?_)) | (refine kw_k (h := ?_)) | (refine ky_s (h := ?_)) | (refine ky_t (h := ?_)) | (refine ky_k (h := ?_)) | (refine lex_nil (by kernel_rfl) ?_) | (refine awp_sq ?_) | (refine awp_rg ?_) | (refine awp_rd (by kernel_rfl) (by kernel_rfl) ?_) | (refine awp_block ?_) | (refine awp_exit ?_) | (refine awp_ret ?_) | (refine awp_skip ?_))
            (refine kw_rs (q_app_nil tyOk rfl rfl rfl rfl rfl rfl rfl rfl rfl (by first | exact src_own rfl rfl rfl rfl | exact src_tr rfl rfl) rfl (.inr (.inl rfl)) (by exact Nat.succ_pos _) (by simp [T.len]) (by simp [T.len])) (h := ?_))
            repeat (first | (refine kx_q (h := ?_)) | (refine kxd_q (h := ?_)) | (refine kw_s (h := ?_)) | (refine kw_t (h := ?_)) | (refine kw_k (h := ?_)) | (refine ky_s (h := ?_)) | (refine ky_t (h := ?_)) | (refine ky_k (h := ?_)) | (refine lex_nil (by kernel_rfl) ?_) | (refine awp_sq ?_) | (refine awp_rg ?_) | (refine awp_rd (by kernel_rfl) (by kernel_rfl) ?_) | (refine awp_block ?_) | (refine awp_exit ?_) | (refine awp_ret ?_) | (refine awp_skip ?_))
            refine kw_t (hq := q_store_nest2 (v := .own 114 0 1) [114] (WX_good good_hid0) (by rw [WX_len]; omega) tyOk rfl rfl rfl rfl rfl rfl rfl rfl) (h := ?_)
            rw [Nat.zero_add, show AV.own 114 0 1 = AV.own 114 0 (d + 1) by rw [hd0], WX_set hkC]
            repeat (first | (refine kx_q (h := ?_)) | (refine kxd_q (h := ?_)) | (refine kw_s (h := ?_)) | (refine kw_t (h := ?_)) | (refine kw_k (h := ?_)) | (refine ky_s (h := ?_)) | (refine ky_t (h := ?_)) | (refine ky_k (h := ?_)) | (refine lex_nil (by kernel_rfl) ?_) | (refine awp_sq ?_) | (refine awp_rg ?_) | (refine awp_rd (by kernel_rfl) (by kernel_rfl) ?_) | (refine awp_block ?_) | (refine awp_exit ?_) | (refine awp_ret ?_) | (refine awp_skip ?_))
            exact ⟨k + 1, by omega, famN_of (H := fun k => [(65, .nest 24 (WX C (nW d k) (hid 26)) [] noRem), (18, .box 70 [.t (.f .f32 (bnS s h m b k).l), .t (.f .f32 (bnS s h m b k).s), .old (.fl (bnS s h m b k).se), .t (.v (.int .i64 (bnS s h m b k).at_))]), (8, .box 72 [.t (.f .f32 h.l), .t (.f .f32 h.s), .t (.f .f32 h.c), .t (.f .f32 h.d)]), (7, .box 70 [.t (.f .f32 s.l), .t (.f .f32 s.s), .old (.fl s.se), .t (.v (.int .i64 s.at_))])]) (fm := fun k => famR 30 C (bcR s h m sd C d k) (pW d k)) (k + 1) (one (hid 26 k) 114) ⟨by omega, fun j hj => (Nat.lt_or_eq_of_le (Nat.le_of_lt_succ hj)).elim (fun h' => hokk j h') (fun h' => by rw [h']; exact hO)⟩
              ⟨rfl, rfl, rfl, bp_unJ _ _ _ rfl, bp_unJ _ _ _ rfl, own_unJ _ _ _ _ rfl, bp_unJ _ _ _ rfl, rfl, rfl, own_unJ _ _ _ _ rfl, rfl, iE12 (by omega), trivial⟩ ⟨WX_bto (sm_un rfl rfl) good_upJ (fun t _ => nW_up d k t) (fun t _ _ => up_ip rfl (fun t h => hid_inj h) t), sm_un rfl rfl, sm_un rfl rfl, sm_un rfl rfl, trivial⟩
              (fam_bto (fam_unJ (by rw [bcR_lt (Nat.lt_succ_self k), ← hbS k, hd0, bcL_0]; rfl) fun t _ h1 h2 => ⟨by rw [← pW_ne h1]; exact h2, (bcR_ne h1).symm⟩)) (inj_one (ov_sm rfl rfl))⟩
          · have hnk : nW d k k = d := nW_ge (Nat.lt_irrefl k)
            have hpk : pW d k k = true := by unfold pW; rw [hnk]; exact decide_eq_true (by omega)
            have hcl := bcL_len s h m sd C d k
            refine awp_re (one 500 (hid 26 k)) [(2, .arg 2 (.fl m)), (5, .t (.v (.int .i64 ((sdI b (k + 1) : Nat) : Int)))), (6, .t (.f .f32 sh)), (7, .bp 7 0), (8, .bp 8 0), (17, .own 65 0 C), (18, .bp 18 0), (19, .t (.v (.int .i64 (k : Nat)))), (22, .t (.f .f32 (bnX s h m b k))), (23, .bp 23 0), (66, .t (.v (.int .i64 (D : Nat)))), (67, .t (.v (.int .i64 (d : Nat)))), (70, .own 65 0 C), (71, .t (.v (.int .i64 (C : Nat)))), (72, .t (.v (.int .i64 (k : Nat))))] [(500, .sl 30 (.fl (bcL s h m sd C d k))), (65, .nest 24 (WX C (nW d k) (up (hid 26) k 500)) [500] noRem), (18, .box 70 [.t (.f .f32 (bnS s h m b k).l), .t (.f .f32 (bnS s h m b k).s), .old (.fl (bnS s h m b k).se), .t (.v (.int .i64 (bnS s h m b k).at_))]), (23, .box 70 [.t (.f .f32 (bnS s h m b (k + 1)).l), .t (.f .f32 (bnS s h m b (k + 1)).s), .old (.fl (bnS s h m b (k + 1)).se), .t (.v (.int .i64 (bnS s h m b (k + 1)).at_))]), (8, .box 72 [.t (.f .f32 h.l), .t (.f .f32 h.s), .t (.f .f32 h.c), .t (.f .f32 h.d)]), (7, .box 70 [.t (.f .f32 s.l), .t (.f .f32 s.s), .old (.fl s.se), .t (.v (.int .i64 s.at_))])] (famR 30 C (bcR s h m sd C d k) (but (pW d k) k))
              ⟨rfl, rfl, rfl, rfl, rfl, rfl, rfl, rfl, rfl, rfl, rfl, rfl, rfl, rfl, rfl, trivial⟩ ⟨.inl (by rw [← bcR_ge (Nat.lt_irrefl k)]; exact ov_at hkC hpk), WX_bto rfl good_hid0 (fun _ _ => rfl) (fun t _ _ => up_pi rfl (hid_nei 500 rfl) t), rfl, rfl, rfl, rfl, trivial⟩ (fam_bto (fam_fo rfl fun t h => but_le h)) (inj_one (ov_no (but_eq _ _))) ?_
            have hfm3 := famR_ok 30 C (bcR s h m sd C d k) (but (pW d k) k)
            have hcell : (WX C (nW d k) (up (hid 26) k 500))[k]? = some (.own 500 0 d) := by rw [WX_get hkC]; unfold cW; rw [hnk, if_neg hd0, up_eq]
            repeat (first | (refine kx_q (h := ?_)) | (refine kxd_q (h := ?_)) | (refine kw_s (h := ?_)) | (refine kw_t (h := ?_)) | (refine kw_k (h := ?_)) | (refine ky_s (h := ?_)) | (refine ky_t (h := ?_)) | (refine ky_k (h := ?_)) | (refine lex_nil (by kernel_rfl) ?_) | (refine awp_sq ?_) | (refine awp_rg ?_) | (refine awp_rd (by kernel_rfl) (by kernel_rfl) ?_) | (refine awp_block ?_) | (refine awp_exit ?_) | (refine awp_ret ?_) | (refine awp_skip ?_))
            (first | (refine kw_r (q_load_nest (off := 0 + k) (by rw [Nat.zero_add]; exact hcell) (WX_good good_upJ) tyOk rfl rfl rfl rfl rfl rfl rfl) (h := ?_)) | (refine ky_r (q_load_nest (off := 0 + k) (by rw [Nat.zero_add]; exact hcell) (WX_good good_upJ) tyOk rfl rfl rfl rfl rfl rfl rfl) (h := ?_)))
            repeat (first | (refine kx_q (h := ?_)) | (refine kxd_q (h := ?_)) | (refine kw_s (h := ?_)) | (refine kw_t (h := ?_)) | (refine kw_k (h := ?_)) | (refine ky_s (h := ?_)) | (refine ky_t (h := ?_)) | (refine ky_k (h := ?_)) | (refine lex_nil (by kernel_rfl) ?_) | (refine awp_sq ?_) | (refine awp_rg ?_) | (refine awp_rd (by kernel_rfl) (by kernel_rfl) ?_) | (refine awp_block ?_) | (refine awp_exit ?_) | (refine awp_ret ?_) | (refine awp_skip ?_))
            (first | (refine ka_s (hn := by exact hcl) (h := ?_)) | (refine kb_s (hn := by exact hcl) (h := ?_)))
            repeat (first | (refine kx_q (h := ?_)) | (refine kxd_q (h := ?_)) | (refine kw_s (h := ?_)) | (refine kw_t (h := ?_)) | (refine kw_k (h := ?_)) | (refine ky_s (h := ?_)) | (refine ky_t (h := ?_)) | (refine ky_k (h := ?_)) | (refine lex_nil (by kernel_rfl) ?_) | (refine awp_sq ?_) | (refine awp_rg ?_) | (refine awp_rd (by kernel_rfl) (by kernel_rfl) ?_) | (refine awp_block ?_) | (refine awp_exit ?_) | (refine awp_ret ?_) | (refine awp_skip ?_))
            refine kw_t (hq := q_store_nest3 (off := 0 + k) (v := .own 500 0 (d + 1)) [500] (by rw [Nat.zero_add]; exact hit_up rfl) (by rw [WX_len]; omega) tyOk rfl rfl rfl rfl rfl rfl (by exact own_l2 (by show (bcL s h m sd C d k ++ [bnX s h m b k]).length = d + 1; rw [List.length_append, hcl]; rfl)) rfl) (h := ?_)
            rw [Nat.zero_add, WX_set hkC, upupJ]
            repeat (first | (refine kx_q (h := ?_)) | (refine kxd_q (h := ?_)) | (refine kw_s (h := ?_)) | (refine kw_t (h := ?_)) | (refine kw_k (h := ?_)) | (refine ky_s (h := ?_)) | (refine ky_t (h := ?_)) | (refine ky_k (h := ?_)) | (refine lex_nil (by kernel_rfl) ?_) | (refine awp_sq ?_) | (refine awp_rg ?_) | (refine awp_rd (by kernel_rfl) (by kernel_rfl) ?_) | (refine awp_block ?_) | (refine awp_exit ?_) | (refine awp_ret ?_) | (refine awp_skip ?_))
            exact ⟨k + 1, by omega, famN_of (H := fun k => [(65, .nest 24 (WX C (nW d k) (hid 26)) [] noRem), (18, .box 70 [.t (.f .f32 (bnS s h m b k).l), .t (.f .f32 (bnS s h m b k).s), .old (.fl (bnS s h m b k).se), .t (.v (.int .i64 (bnS s h m b k).at_))]), (8, .box 72 [.t (.f .f32 h.l), .t (.f .f32 h.s), .t (.f .f32 h.c), .t (.f .f32 h.d)]), (7, .box 70 [.t (.f .f32 s.l), .t (.f .f32 s.s), .old (.fl s.se), .t (.v (.int .i64 s.at_))])]) (fm := fun k => famR 30 C (bcR s h m sd C d k) (pW d k)) (k + 1) (one (hid 26 k) 500) ⟨by omega, fun j hj => (Nat.lt_or_eq_of_le (Nat.le_of_lt_succ hj)).elim (fun h' => hokk j h') (fun h' => by rw [h']; exact hO)⟩
              ⟨rfl, rfl, rfl, bp_unJ _ _ _ rfl, bp_unJ _ _ _ rfl, own_unJ _ _ _ _ rfl, bp_unJ _ _ _ rfl, rfl, rfl, own_unJ _ _ _ _ rfl, rfl, iE12 (by omega), trivial⟩ ⟨WX_bto (sm_un rfl rfl) good_upJ (fun t _ => nW_up d k t) (fun t _ _ => up_ip rfl (fun t h => hid_inj h) t), sm_un rfl rfl, sm_un rfl rfl, sm_un rfl rfl, trivial⟩
              (fam_bto (fam_unJ (by rw [bcR_lt (Nat.lt_succ_self k), ← hbS k]; rfl) fun t _ h1 h2 => ⟨by rw [but_ne h1, ← pW_ne h1]; exact h2, (bcR_ne h1).symm⟩)) (inj_one (ov_sm rfl rfl))⟩
    simp only [icmp, decide_eq_false_iff_not] at h2
    obtain rfl : k = C := by omega
    repeat (first | (refine kx_q (h := ?_)) | (refine kxd_q (h := ?_)) | (refine kw_s (h := ?_)) | (refine kw_t (h := ?_)) | (refine kw_k (h := ?_)) | (refine ky_s (h := ?_)) | (refine ky_t (h := ?_)) | (refine ky_k (h := ?_)) | (refine lex_nil (by kernel_rfl) ?_) | (refine awp_sq ?_) | (refine awp_rg ?_) | (refine awp_rd (by kernel_rfl) (by kernel_rfl) ?_) | (refine awp_block ?_) | (refine awp_exit ?_) | (refine awp_ret ?_) | (refine awp_skip ?_))
    exact ⟨d + 1, by omega, famN_of (H := fun d => [(65, .nest 24 (WX k (nW d 0) (hid 26)) [] noRem), (8, .box 72 [.t (.f .f32 h.l), .t (.f .f32 h.s), .t (.f .f32 h.c), .t (.f .f32 h.d)]), (7, .box 70 [.t (.f .f32 s.l), .t (.f .f32 s.s), .old (.fl s.se), .t (.v (.int .i64 s.at_))])]) (fm := fun d => famR 30 k (bcR s h m sd k d 0) (pW d 0)) (d + 1) (fun i => i) ⟨by omega, fun i hi j hj => (Nat.lt_or_eq_of_le (Nat.le_of_lt_succ hi)).elim (fun h' => hok i h' j hj) (fun h' => by rw [h', hbe]; exact hokk j hj)⟩
      ⟨rfl, iE12 (by rw [hnx]), rfl, rfl, rfl, rfl, rfl, iE12 (by omega), trivial⟩ ⟨WX_bto rfl good_hid0 (fun t ht => nW_C ht) (fun _ _ _ => rfl), rfl, rfl, trivial⟩
      (fam_bto fun t ht hp => by rw [show bcR s h m sd k (d + 1) 0 t = bcR s h m sd k d k t by unfold bcR; rw [nW_C ht]]; exact ov_at ht (by unfold pW at hp ⊢; rw [nW_C ht]; exact hp)) (fun _ _ _ _ h => h)⟩
  simp only [icmp, decide_eq_false_iff_not] at h1
  obtain rfl : d = D := by omega
  have hb := bOk_of hok
  refine awp_exit ?_
  rw [WX_all (by omega)]
  refine awp_re (fun i => i) [(5, .t (.v (.int .i64 ((sdI sd (d * C) : Nat) : Int)))), (6, .t (.f .f32 sh)), (17, .own 65 0 C)] [(65, .nest 24 (NL (bcA s h m sd C d)) [] noRem)] noFam ⟨rfl, rfl, rfl, trivial⟩ ⟨HX_dataB rfl (fun t ht => by rw [← bcR_ge (Nat.not_lt_zero t)]; exact ov_at ht (pW_pos hD.1)) (fun t _ => ov_nof t), trivial⟩ (fun i B _ h => by cases h) (fun _ _ _ _ h => h) ?_
  refine awp_off [(5, .t (.v (.int .i64 ((sdI sd (d * C) : Nat) : Int)))), (6, .t (.f .f32 sh)), (17, .own 65 0 C)] [(65, .sl 24 (.ffl (bcA s h m sd C d)))] ⟨rfl, rfl, rfl, trivial⟩ ⟨NL_ffl rfl, trivial⟩ ?_
  exact iB_4 hC hD hs hF hb (hno hb) (hyes hb)
end Go.Proofs.Ytmnpdipiffmnhaa

