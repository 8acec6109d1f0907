import Derived.Test.YtpdnjcblkjjegaaVT136
import Derived.Test.YtpdnjcblkjjegaaVAwN
set_option linter.unusedVariables false
set_option linter.unusedSimpArgs false
set_option maxRecDepth 20000
set_option maxHeartbeats 8000000
namespace Go.Proofs.Ytpdnjcblkjjegaa
open Go.Aw

/-! ### MovingParts, the reference's -/
/-- the rows that are done, 'h' the first -/
def LN (h : T) (g : List Nat) (m : Nat) : List AV := .t h :: ((mpT g m).drop 1).map fun r => .t (.fl r)
theorem LN_len (h : T) (g : List Nat) (m : Nat) : (LN h g m).length = m + 1 := by simp [LN, mpT_len]
theorem LN_get (h : T) (g : List Nat) {m k : Nat} (h1 : 1 ≤ k) (h2 : k ≤ m) : (LN h g m)[k]? = some (.t (.fl ((mpT g m).getD k []))) := by
  obtain ⟨k, rfl⟩ : ∃ n, k = n + 1 := ⟨k - 1, by omega⟩
  unfold LN
  rw [List.getElem?_cons_succ, List.getElem?_map, List.getElem?_drop, List.getD_eq_getElem?_getD, show 1 + k = k + 1 by omega, List.getElem?_eq_getElem (by rw [mpT_len]; omega)]
  rfl
theorem LN_S (h : T) (g : List Nat) (m : Nat) : LN h g (m + 1) = LN h g m ++ [.t (.fl (0 :: (mpR g m).reverse))] := by
  unfold LN
  rw [mpT_S, List.drop_append_of_le_length (by rw [mpT_len]; omega), List.map_append]
  rfl
theorem good_t {L : List T} : GoodN [] (L.map AV.t) := fun v hv j hj => by
  obtain ⟨t, _, rfl⟩ := List.mem_map.1 hv
  simp [AV.ids] at hj
theorem LN_good (h : T) (g : List Nat) (m : Nat) : GoodN [] (LN h g m) := by
  have : LN h g m = (h :: ((mpT g m).drop 1).map T.fl).map AV.t := by
    unfold LN; rw [List.map_cons, List.map_map]; rfl
  rw [this]; exact good_t
theorem own_good (i n : Nat) : GoodN [i] [.own i 0 n] := fun v hv j hj => by
  simp only [List.mem_singleton] at hv
  subst hv
  simp only [AV.ids, List.mem_singleton] at hj
  subst hj; exact .inr (by simp)
theorem LN_good1 (h : T) (g : List Nat) (m i n : Nat) : GoodN [i] (LN h g m ++ [.own i 0 n]) := good_app (LN_good h g m) (own_good i n)
theorem mpTm_def (g : List Nat) (o A : Nat) : List.drop 1 (List.take (o + 1) ((mpT g A).getD A [])) = mpTm g o A := rfl
theorem iE9 {k : IntKind} {a b : Int} (h : a = b) : AV.t (.v (.int k a)) = AV.t (.v (.int k b)) := by rw [h]
theorem mpX_0 (g : List Nat) (t : List (List Nat)) (v : List Nat) (m : Nat) : mpX g t v m 0 = [] := rfl
theorem mpX_S (g : List Nat) (t : List (List Nat)) (v : List Nat) (m k : Nat) : mpX g t v m (k + 1) = mpX g t v m k ++ [fop .quo .f32 (fop .sub .f32 (g.getD (m - k) 0) (mpS (t.getD k []) (mpX g t v m k) v k k)) (v.getD k 0)] := rfl
theorem mpS_0 (r xs v : List Nat) (k : Nat) : mpS r xs v k 0 = 0 := rfl
theorem mpS_S (r xs v : List Nat) (k n : Nat) : mpS r xs v k (n + 1) = fop .add .f32 (mpS r xs v k n) (fop .mul .f32 (fop .mul .f32 (r.getD (k - n) 0) (xs.getD n 0)) (v.getD n 0)) := rfl
theorem mpQ_0 (xs v : List Nat) : mpQ xs v 0 = 0 := rfl
theorem mpQ_S (xs v : List Nat) (n : Nat) : mpQ xs v (n + 1) = fop .add .f32 (mpQ xs v n) (fop .mul .f32 (fop .mul .f32 (xs.getD n 0) (xs.getD n 0)) (v.getD n 0)) := rfl
theorem mpR_def (g : List Nat) (m : Nat) : mpX g (mpT g m) (mpV g m) (m + 1) (m + 1) = mpR g m := rfl
theorem mpW_nil (m : Nat) : List.replicate (m + 1) 0 = mpW [] m 0 := by unfold mpW; simp
theorem LN_ren (h : T) (g : List Nat) (m : Nat) {k : Nat} {v : AV} (hv : (LN h g m)[k]? = some v) : v = ren (fun i => i) v := by
  have := List.mem_of_getElem? hv
  unfold LN at this
  rcases List.mem_cons.1 this with rfl | hm
  · rfl
  · obtain ⟨r, _, rfl⟩ := List.mem_map.1 hm; rfl
theorem LN_bto {η η' : Hp} {h : T} {g : List Nat} {m i len id : Nat} {e ef : TypeId} {vis : List Nat} (h1 : η i = some (.nest e (LN h g m ++ [.own id 0 len]) vis noRem)) (hv : vis = [id]) (h2 : η id = some (.sl ef (.fl (0 :: (mpR g m).reverse)))) (hl : len = m + 2) (h3 : (η' id).isSome = false) :
    BTo (fun i => i) η η' i (.nest e (LN h g (m + 1)) [] noRem) := by
  subst hv; subst hl
  refine .inl ⟨_, _, h1, LN_good1 h g m id _, by rw [LN_len, List.length_append, LN_len]; rfl, fun k v hv => ?_⟩
  rw [LN_S] at hv
  rcases Nat.lt_or_ge k (LN h g m).length with hk | hk
  · rw [List.getElem?_append_left hk] at hv ⊢
    refine ⟨v, hv, .inl ?_⟩
    have := List.mem_of_getElem? hv
    unfold LN at this
    rcases List.mem_cons.1 this with rfl | hm
    · rfl
    · obtain ⟨r, _, rfl⟩ := List.mem_map.1 hm; rfl
  · rw [List.getElem?_append_right hk] at hv ⊢
    have h0 : k - (LN h g m).length = 0 := by
      cases hn : k - (LN h g m).length with
      | zero => rfl
      | succ n => rw [hn] at hv; simp at hv
    rw [h0] at hv ⊢
    simp only [List.getElem?_cons_zero, Option.some.injEq] at hv ⊢
    subst hv
    refine ⟨_, rfl, .inr ⟨.fl (0 :: (mpR g m).reverse), id, ef, rfl, ?_, h2, fun j hj e => ?_⟩⟩
    · show AV.own id 0 (m + 2) = AV.own id 0 (0 :: (mpR g m).reverse).length
      rw [List.length_cons, List.length_reverse, mpR_len]
    · simp only at e; subst e; rw [h3] at hj; cases hj
attribute [local irreducible] mpTm QRun LexD AWp TCall TMut fop fint fcmp fconv mpT mpV LN mpR mpX mpQ mpS mpW
theorem sMP_9 {g : List Nat} {o A : Nat} (h0 : 1 ≤ o) (ho : o ≤ A) (hA : A ≤ 38) (hG : mpG g A = true) (hz : ∀ k, k < A → fcmp .eql .f32 ((mpV g k).getD k 0) 0 = false) :
    AWp Try.prog Try.f29.ntmps (tlF Try.f29 9) (RetQ Try.prog Try.f29 (opR (mpE g o A)) (opH (mpE g o A))) (lkF [(1, .t (.v (.int .i64 (o : Nat)))), (9, .t (.v (.int .i64 (A : Nat)))), (14, .own 72 0 (A + 1)), (15, .own 74 0 (A + 1))])
      (ovH (lkH [(72, .sl 30 (.fl (mpV g A))), (74, .nest 24 (LN (.fl [0]) g A) [] noRem)]) noFam) := by
  have hfm := famOk_no
  have hl := mpV_len g A
  have hL := LN_get (.fl [0]) g (m := A) (k := 0 + A) (by omega) (by omega)
  rw [Nat.zero_add] at hL
  have hr := mpT_row g (m := A) (k := A) (Nat.le_refl _)
  have ht : (mpTm g o A).length = o := mpTm_len ho
  have hT0 := mpTm_def g o A
  have hT : T.app (.fl []) (.fl (mpTm g o A)) = .fl (mpTm g o A) := rfl
  refine V2 ?_
  (first | (refine kw_r (q_load_nest (off := 0 + A) (by rw [Nat.zero_add]; exact hL) (LN_good _ _ _) tyOk rfl rfl rfl rfl rfl rfl rfl) (h := ?_)) | (refine ky_r (q_load_nest (off := 0 + A) (by rw [Nat.zero_add]; exact hL) (LN_good _ _ _) tyOk rfl rfl rfl rfl rfl rfl rfl) (h := ?_)))
  refine V2 ?_
  (first | (refine kw_r (q_slice_tree 1 (o + 1) tyOk rfl rfl rfl rfl rfl rfl rfl (by exact ⟨_, _, rfl, rfl⟩) (by exact ⟨_, _, rfl, rfl⟩) (by omega) (by simp only [T.len]; omega)) (h := ?_)) | (refine ky_r (q_slice_tree 1 (o + 1) tyOk rfl rfl rfl rfl rfl rfl rfl (by exact ⟨_, _, rfl, rfl⟩) (by exact ⟨_, _, rfl, rfl⟩) (by omega) (by simp only [T.len]; omega)) (h := ?_)))
  rw [hT0]
  refine V2 ?_
  (first | refine ka_s (hn := by exact rfl) (h := ?_) | refine kb_s (hn := by exact rfl) (h := ?_))
  rw [hT]
  refine V2 ?_
  rw [mpE_good ho hG hz]
  refine ret_ok tyOk (by first | exact .inr rfl | exact .inl rfl) (pi1 187) rfl (by repeat (first | exact .nil | (apply ResAl.cons; first | exact .tmp | exact .cell rfl rfl rfl rfl rfl rfl | exact .cell1 rfl rfl rfl rfl rfl))) ?_ ⟨rfl, trivial⟩ (injO_1 _ _ _)
  repeat' (first | exact RetRelL.nil | refine RetRel.nil rfl ?_ | refine RetRelL.cons ?_ ?_ | refine rr_tup ?_ | refine rr_agg ?_ | refine rr_own rfl ?_ | exact RetRel.arg | exact RetRel.argc | refine rr_t ?_)
  all_goals first | rfl | exact ht.symm | (simp only [Nat.zero_add])
theorem sMP_8 {g : List Nat} {o A : Nat} (h0 : 1 ≤ o) (ho : o ≤ A) (hA : A ≤ 38) (hg : g.length = A + 1) :
    AWp Try.prog Try.f29.ntmps (tlF Try.f29 8) (RetQ Try.prog Try.f29 (opR (mpE g o A)) (opH (mpE g o A))) (lkF [(1, .t (.v (.int .i64 (o : Nat)))), (9, .t (.v (.int .i64 (A : Nat)))), (11, .own 42 0 (A + 1)), (14, .own 72 0 1), (15, .own 74 0 1)])
      (ovH (lkH [(42, .sl 30 (.fl g)), (72, .sl 30 (.fl (mpV g 0))), (74, .nest 24 (LN (.fl [0]) g 0) [] noRem)]) noFam) := by
  have hfm := famOk_no
  refine V2 ?_
  refine awp_loopN (X := Nat) (fun m => m ≤ A ∧ (∀ k, k < m → fcmp .eql .f32 ((mpV g k).getD k 0) 0 = false) ∧ ∀ k, k < m → mpG g (k + 1) = true)
    (fun m => [(1, .t (.v (.int .i64 (o : Nat)))), (9, .t (.v (.int .i64 (A : Nat)))), (11, .own 42 0 (A + 1)), (14, .own 72 0 (m + 1)), (15, .own 74 0 (m + 1)), (16, .t (.v (.int .i64 (m + 1 : Nat))))])
    (fun m => ovH (lkH [(42, .sl 30 (.fl g)), (72, .sl 30 (.fl (mpV g m))), (74, .nest 24 (LN (.fl [0]) g m) [] noRem)]) noFam) (fun m => A - m)
    0 (famN_0 (H := fun m => [(42, .sl 30 (.fl g)), (72, .sl 30 (.fl (mpV g m))), (74, .nest 24 (LN (.fl [0]) g m) [] noRem)]) 0 ⟨by omega, fun k hk => by omega, fun k hk => by omega⟩ ⟨rfl, rfl, rfl, rfl, rfl, rfl, trivial⟩ ⟨.inl rfl, .inl rfl, .inl ⟨_, _, rfl, LN_good _ _ _, rfl, fun k v hv => ⟨v, hv, .inl (LN_ren _ _ _ hv)⟩⟩, trivial⟩) (fun m hm => ?_)
  obtain ⟨hm, hz, hG⟩ := hm
  have hVl := mpV_len g m
  refine V2 ?_
  refine awp_cond (b := _) rfl (fun h => ?_) (fun h => ?_)
  · simp only [icmp, decide_eq_true_eq] at h
    have hmA : m + 1 ≤ A := by omega
    refine V2 ?_
    (refine kw_rs (q_make (m + 2) tyOk rfl rfl rfl rfl rfl rfl rfl rfl rfl (by omega) rfl (by simp only []; omega) (by omega)) (h := ?_))
    refine V2 ?_
    have e0 : List.replicate (m + 2) 0 = mpW [] (m + 1) 0 := mpW_nil (m + 1)
    rw [e0]
    -- the row
    refine awp_loopN (X := Nat) (fun k => k ≤ m + 1 ∧ ∀ j, j < k → fcmp .eql .f32 ((mpV g j).getD j 0) 0 = false)
      (fun k => [(1, .t (.v (.int .i64 (o : Nat)))), (9, .t (.v (.int .i64 (A : Nat)))), (11, .own 42 0 (A + 1)), (14, .own 72 0 (m + 1)), (15, .own 74 0 (m + 1)), (16, .t (.v (.int .i64 (m + 1 : Nat)))), (17, .own 82 0 (m + 2)), (18, .t (.v (.int .i64 (k : Nat))))])
      (fun k => ovH (lkH [(82, .sl 30 (.fl (mpW (mpX g (mpT g m) (mpV g m) (m + 1) k) (m + 1) k))), (42, .sl 30 (.fl g)), (72, .sl 30 (.fl (mpV g m))), (74, .nest 24 (LN (.fl [0]) g m) [] noRem)]) noFam) (fun k => m + 1 - k)
      0 (famN_0 (H := fun k => [(82, .sl 30 (.fl (mpW (mpX g (mpT g m) (mpV g m) (m + 1) k) (m + 1) k))), (42, .sl 30 (.fl g)), (72, .sl 30 (.fl (mpV g m))), (74, .nest 24 (LN (.fl [0]) g m) [] noRem)]) 0 ⟨by omega, fun k hk => by omega⟩ ⟨rfl, rfl, rfl, rfl, rfl, rfl, rfl, rfl, trivial⟩ ⟨.inl (sl_eq (by rw [mpX_0])), .inl rfl, .inl rfl, .inl ⟨_, _, rfl, LN_good _ _ _, rfl, fun k v hv => ⟨v, hv, .inl (LN_ren _ _ _ hv)⟩⟩, trivial⟩) (fun k hk => ?_)
    obtain ⟨hk, hzk⟩ := hk
    have hX := mpX_len g (mpT g m) (mpV g m) (m + 1) k
    have hW := mpW_len (m := m + 1) hX (by omega)
    refine V2 ?_
    refine awp_cond (b := _) rfl (fun hc => ?_) (fun hc => ?_)
    · simp only [icmp, decide_eq_true_eq] at hc
      have hkm : k ≤ m := by omega
      have hro := mpT_row g hkm
      refine V2 ?_
      -- the sum
      refine awp_loopN (X := Nat) (fun j => j ≤ k)
        (fun j => [(1, .t (.v (.int .i64 (o : Nat)))), (9, .t (.v (.int .i64 (A : Nat)))), (11, .own 42 0 (A + 1)), (14, .own 72 0 (m + 1)), (15, .own 74 0 (m + 1)), (16, .t (.v (.int .i64 (m + 1 : Nat)))), (17, .own 82 0 (m + 2)), (18, .t (.v (.int .i64 (k : Nat)))), (19, .t (.f .f32 (mpS ((mpT g m).getD k []) (mpX g (mpT g m) (mpV g m) (m + 1) k) (mpV g m) k j))), (20, .t (.v (.int .i64 (j : Nat))))])
        (fun j => ovH (lkH [(82, .sl 30 (.fl (mpW (mpX g (mpT g m) (mpV g m) (m + 1) k) (m + 1) k))), (42, .sl 30 (.fl g)), (72, .sl 30 (.fl (mpV g m))), (74, .nest 24 (LN (.fl [0]) g m) [] noRem)]) noFam) (fun j => k - j)
        0 (famN_0 (H := fun j => [(82, .sl 30 (.fl (mpW (mpX g (mpT g m) (mpV g m) (m + 1) k) (m + 1) k))), (42, .sl 30 (.fl g)), (72, .sl 30 (.fl (mpV g m))), (74, .nest 24 (LN (.fl [0]) g m) [] noRem)]) 0 (by omega) ⟨rfl, rfl, rfl, rfl, rfl, rfl, rfl, rfl, fE (mpS_0 _ _ _ _).symm, rfl, trivial⟩ ⟨.inl rfl, .inl rfl, .inl rfl, .inl ⟨_, _, rfl, LN_good _ _ _, rfl, fun k v hv => ⟨v, hv, .inl (LN_ren _ _ _ hv)⟩⟩, trivial⟩) (fun j hj => ?_)
      refine V2 ?_
      refine awp_cond (b := _) rfl (fun hd => ?_) (fun hd => ?_)
      · simp only [icmp, decide_eq_true_eq] at hd
        have hL := LN_get (.fl [0]) g (m := m) (k := k) (by omega) (by omega)
        have hjk : j < k := by omega
        refine V2 ?_
        (first | (refine kw_r (q_load_nest (off := 0 + k) (by rw [Nat.zero_add]; exact hL) (LN_good _ _ _) tyOk rfl rfl rfl rfl rfl rfl rfl) (h := ?_)) | (refine ky_r (q_load_nest (off := 0 + k) (by rw [Nat.zero_add]; exact hL) (LN_good _ _ _) tyOk rfl rfl rfl rfl rfl rfl rfl) (h := ?_)))
        refine V2 ?_
        (first | (refine kw_r (q_idx_tree (k - j) tyOk rfl rfl rfl rfl rfl rfl rfl rfl (by omega) (by first | omega | (simp only [T.len]; omega) | assumption)) (h := ?_)) | (refine ky_r (q_idx_tree (k - j) tyOk rfl rfl rfl rfl rfl rfl rfl rfl (by omega) (by first | omega | (simp only [T.len]; omega) | assumption)) (h := ?_)))
        refine V2 ?_
        (first | (refine kw_r (q_idx_own (m + 1 - j) tyOk rfl rfl rfl rfl rfl rfl rfl (by omega) (by first | omega | (simp only [T.len]; omega) | assumption)) (h := ?_)) | (refine ky_r (q_idx_own (m + 1 - j) tyOk rfl rfl rfl rfl rfl rfl rfl (by omega) (by first | omega | (simp only [T.len]; omega) | assumption)) (h := ?_)))
        refine V2 ?_
        exact ⟨j + 1, by omega, famN_0 (H := fun j => [(82, .sl 30 (.fl (mpW (mpX g (mpT g m) (mpV g m) (m + 1) k) (m + 1) k))), (42, .sl 30 (.fl g)), (72, .sl 30 (.fl (mpV g m))), (74, .nest 24 (LN (.fl [0]) g m) [] noRem)]) (j + 1) (by omega)
          ⟨rfl, rfl, rfl, rfl, rfl, rfl, rfl, rfl, fE (by rw [Nat.zero_add, Nat.zero_add, mpW_get hX (by omega) hjk, mpS_S]), iE9 (by omega), trivial⟩ ⟨.inl rfl, .inl rfl, .inl rfl, .inl ⟨_, _, rfl, LN_good _ _ _, rfl, fun k v hv => ⟨v, hv, .inl (LN_ren _ _ _ hv)⟩⟩, trivial⟩⟩
      simp only [icmp, decide_eq_false_iff_not] at hd
      obtain rfl : j = k := by omega
      refine V2 ?_
      have hva := mpV_at g hkm
      rw [Nat.zero_add, hva]
      refine V2 ?_
      refine awp_cond (b := _) rfl (fun he => ?_) (fun he => ?_)
      · refine V2 ?_
        rw [mpE_zero (by omega) he]
        (refine u_1 ?_; (repeat' (first | exact RetRelL.nil | refine RetRel.nil rfl ?_ | refine RetRelL.cons ?_ ?_ | refine rr_tup ?_ | refine rr_agg ?_ | refine rr_own rfl ?_ | exact RetRel.arg | exact RetRel.argc | refine rr_t ?_)); all_goals rfl)
      refine u_s ?_
      refine V2 ?_
      (first | (refine kw_r (q_idx_own (m + 1 - j) tyOk rfl rfl rfl rfl rfl rfl rfl (by omega) (by first | omega | (simp only [T.len]; omega) | assumption)) (h := ?_)) | (refine ky_r (q_idx_own (m + 1 - j) tyOk rfl rfl rfl rfl rfl rfl rfl (by omega) (by first | omega | (simp only [T.len]; omega) | assumption)) (h := ?_)))
      refine V2 ?_
      (first | (refine kw_r (q_idx_own (m + 1 - j) tyOk rfl rfl rfl rfl rfl rfl rfl (by omega) (by first | omega | (simp only [T.len]; omega) | assumption)) (h := ?_)) | (refine ky_r (q_idx_own (m + 1 - j) tyOk rfl rfl rfl rfl rfl rfl rfl (by omega) (by first | omega | (simp only [T.len]; omega) | assumption)) (h := ?_)))
      refine V2 ?_
      have hst := mpW_set (m := m + 1) (x := fop .quo .f32 (fop .sub .f32 (g.getD (m + 1 - j) 0) (mpS ((mpT g m).getD j []) (mpX g (mpT g m) (mpV g m) (m + 1) j) (mpV g m) j j)) ((mpV g m).getD j 0)) hX (by omega)
      exact ⟨j + 1, by omega, famN_0 (H := fun k => [(82, .sl 30 (.fl (mpW (mpX g (mpT g m) (mpV g m) (m + 1) k) (m + 1) k))), (42, .sl 30 (.fl g)), (72, .sl 30 (.fl (mpV g m))), (74, .nest 24 (LN (.fl [0]) g m) [] noRem)]) (j + 1) ⟨by omega, fun i hi => by by_cases hij : i = j; (subst hij; simpa using he); exact hzk i (by omega)⟩
        ⟨rfl, rfl, rfl, rfl, rfl, rfl, rfl, iE9 (by omega), trivial⟩ ⟨.inl (sl_eq (congrArg T.fl (by simp only [Nat.zero_add]; rw [mpX_S]; exact hst))), .inl rfl, .inl rfl, .inl ⟨_, _, rfl, LN_good _ _ _, rfl, fun k v hv => ⟨v, hv, .inl (LN_ren _ _ _ hv)⟩⟩, trivial⟩⟩
    simp only [icmp, decide_eq_false_iff_not] at hc
    obtain rfl : k = m + 1 := by omega
    rw [mpR_def] at hX hW ⊢
    refine V2 ?_
    -- squares
    refine awp_loopN (X := Nat) (fun i => i ≤ m + 1)
      (fun i => [(1, .t (.v (.int .i64 (o : Nat)))), (9, .t (.v (.int .i64 (A : Nat)))), (11, .own 42 0 (A + 1)), (14, .own 72 0 (m + 1)), (15, .own 74 0 (m + 1)), (16, .t (.v (.int .i64 (m + 1 : Nat)))), (17, .own 82 0 (m + 2)), (21, .t (.f .f32 (mpQ (mpR g m) (mpV g m) i))), (22, .t (.v (.int .i64 (i : Nat))))])
      (fun i => ovH (lkH [(82, .sl 30 (.fl (mpW (mpR g m) (m + 1) (m + 1)))), (42, .sl 30 (.fl g)), (72, .sl 30 (.fl (mpV g m))), (74, .nest 24 (LN (.fl [0]) g m) [] noRem)]) noFam) (fun i => m + 1 - i)
      0 (famN_0 (H := fun i => [(82, .sl 30 (.fl (mpW (mpR g m) (m + 1) (m + 1)))), (42, .sl 30 (.fl g)), (72, .sl 30 (.fl (mpV g m))), (74, .nest 24 (LN (.fl [0]) g m) [] noRem)]) 0 (by omega) ⟨rfl, rfl, rfl, rfl, rfl, rfl, rfl, fE (mpQ_0 _ _).symm, rfl, trivial⟩ ⟨.inl rfl, .inl rfl, .inl rfl, .inl ⟨_, _, rfl, LN_good _ _ _, rfl, fun k v hv => ⟨v, hv, .inl (LN_ren _ _ _ hv)⟩⟩, trivial⟩) (fun i hi => ?_)
    refine V2 ?_
    refine awp_cond (b := _) rfl (fun hd => ?_) (fun hd => ?_)
    · simp only [icmp, decide_eq_true_eq] at hd
      have him : i < m + 1 := by omega
      refine V2 ?_
      (first | (refine kw_r (q_idx_own (m + 1 - i) tyOk rfl rfl rfl rfl rfl rfl rfl (by omega) (by first | omega | (simp only [T.len]; omega) | assumption)) (h := ?_)) | (refine ky_r (q_idx_own (m + 1 - i) tyOk rfl rfl rfl rfl rfl rfl rfl (by omega) (by first | omega | (simp only [T.len]; omega) | assumption)) (h := ?_)))
      refine V2 ?_
      (first | (refine kw_r (q_idx_own (m + 1 - i) tyOk rfl rfl rfl rfl rfl rfl rfl (by omega) (by first | omega | (simp only [T.len]; omega) | assumption)) (h := ?_)) | (refine ky_r (q_idx_own (m + 1 - i) tyOk rfl rfl rfl rfl rfl rfl rfl (by omega) (by first | omega | (simp only [T.len]; omega) | assumption)) (h := ?_)))
      refine V2 ?_
      have hwi := mpW_get (m := m + 1) hX (by omega) him
      exact ⟨i + 1, by omega, famN_0 (H := fun i => [(82, .sl 30 (.fl (mpW (mpR g m) (m + 1) (m + 1)))), (42, .sl 30 (.fl g)), (72, .sl 30 (.fl (mpV g m))), (74, .nest 24 (LN (.fl [0]) g m) [] noRem)]) (i + 1) (by omega)
        ⟨rfl, rfl, rfl, rfl, rfl, rfl, rfl, fE (by rw [Nat.zero_add, Nat.zero_add, hwi, mpQ_S]), iE9 (by omega), trivial⟩ ⟨.inl rfl, .inl rfl, .inl rfl, .inl ⟨_, _, rfl, LN_good _ _ _, rfl, fun k v hv => ⟨v, hv, .inl (LN_ren _ _ _ hv)⟩⟩, trivial⟩⟩
    simp only [icmp, decide_eq_false_iff_not] at hd
    obtain rfl : i = m + 1 := by omega
    refine V2 ?_
    (refine kw_rs (q_bslice_nest (L := [.own 82 0 (m + 2)]) [82] tyOk rfl rfl rfl rfl rfl rfl rfl rfl rfl rfl rfl rfl rfl) (h := ?_))
    refine V2 ?_
    (refine kw_rs (q_app_nest (m := 1) (LN_good _ _ _) (own_good _ _) (LN_len _ _ _) rfl tyOk rfl rfl rfl rfl rfl rfl rfl rfl rfl rfl rfl rfl rfl rfl rfl (by simp only []; omega) (by omega)) (h := ?_))
    refine V2 ?_
    (first | refine ka_s (hn := by exact hVl) (h := ?_) | refine kb_s (hn := by exact hVl) (h := ?_))
    have eV : (T.fl (mpV g m)).app (T.fl [fop .sub .f32 (g.getD 0 0) (mpQ (mpR g m) (mpV g m) (m + 1))]) = T.fl (mpV g (m + 1)) := by rw [mpV_S]; rfl
    have hV2 := mpV_len g (m + 1)
    have el : (T.fl (mpV g (m + 1))).len = m + 2 := hV2
    rw [eV, el, mpW_all]
    refine V2 ?_
    have hRl := mpR_len g m
    have hGm : mpG g (m + 1) = ((0 :: (mpR g m).reverse).all fin && fin ((mpV g (m + 1)).getD (m + 1) 0)) := by unfold mpG; rw [mpT_last]
    have hrl : (0 :: (mpR g m).reverse).length = m + 2 := by rw [List.length_cons, List.length_reverse, hRl]
    (first | (refine kc_q (l02Finite_c (0 :: (mpR g m).reverse) (by omega)) (h := ?_)) | (refine kz_q (l02Finite_c (0 :: (mpR g m).reverse) (by omega)) (h := ?_)))
    refine V2 ?_
    refine nlex_if rfl rfl rfl (fun h1 => ?_) (fun h1 => ?_)
    · refine V2 ?_
      refine awp_ifT rfl rfl ?_
      refine V2 ?_
      simp only [Bool.not_eq_true'] at h1
      rw [mpE_bad (m := m) (by rw [hGm, h1]; rfl) hmA]
      (refine u_1 ?_; (repeat' (first | exact RetRelL.nil | refine RetRel.nil rfl ?_ | refine RetRelL.cons ?_ ?_ | refine rr_tup ?_ | refine rr_agg ?_ | refine rr_own rfl ?_ | exact RetRel.arg | exact RetRel.argc | refine rr_t ?_)); all_goals rfl)
    simp only [Bool.not_eq_false'] at h1
    refine V2 ?_
    (first | refine kc_q (l01Finite_c _) (h := ?_) | refine kz_q (l01Finite_c _) (h := ?_))
    refine V2 ?_
    refine awp_cond (b := _) rfl (fun h2 => ?_) (fun h2 => ?_)
    · simp only [Bool.not_eq_true', Nat.zero_add] at h2
      refine V2 ?_
      rw [mpE_bad (m := m) (by rw [hGm, h2, Bool.and_false]) hmA]
      (refine u_1 ?_; (repeat' (first | exact RetRelL.nil | refine RetRel.nil rfl ?_ | refine RetRelL.cons ?_ ?_ | refine rr_tup ?_ | refine rr_agg ?_ | refine rr_own rfl ?_ | exact RetRel.arg | exact RetRel.argc | refine rr_t ?_)); all_goals rfl)
    simp only [Bool.not_eq_false', Nat.zero_add] at h2
    refine u_s ?_
    refine V2 ?_
    exact ⟨m + 1, by omega, famN_0 (H := fun m => [(42, .sl 30 (.fl g)), (72, .sl 30 (.fl (mpV g m))), (74, .nest 24 (LN (.fl [0]) g m) [] noRem)]) (m + 1)
      ⟨by omega, fun k hk => by by_cases hkm : k = m; (subst hkm; exact hzk _ (by omega)); exact hz k (by omega), fun k hk => by by_cases hkm : k = m; (subst hkm; rw [hGm, h1, h2]; rfl); exact hG k (by omega)⟩
      ⟨rfl, rfl, rfl, rfl, rfl, iE9 (by omega), trivial⟩ ⟨.inl rfl, .inl rfl, LN_bto rfl rfl rfl rfl rfl, trivial⟩⟩
  simp only [icmp, decide_eq_false_iff_not] at h
  obtain rfl : m = A := by omega
  refine u_x ?_
  refine awp_wk0 [(1, .t (.v (.int .i64 (o : Nat)))), (9, .t (.v (.int .i64 (m : Nat)))), (14, .own 72 0 (m + 1)), (15, .own 74 0 (m + 1))] [(72, .sl 30 (.fl (mpV g m))), (74, .nest 24 (LN (.fl [0]) g m) [] noRem)]
    ⟨rfl, rfl, rfl, rfl, trivial⟩ ⟨.inl rfl, .inl ⟨_, _, rfl, LN_good _ _ _, rfl, fun k v hv => ⟨v, hv, .inl (LN_ren _ _ _ hv)⟩⟩, trivial⟩ (sMP_9 h0 ho hA ?_ hz)
  have := hG (m - 1) (by omega)
  rwa [show m - 1 + 1 = m by omega] at this
end Go.Proofs.Ytpdnjcblkjjegaa

