import Derived.Test.YtjjpjnhjnpplcaaYT116
import Derived.Test.YtjjpjnhjnpplcaaYT98
set_option linter.unusedVariables false
set_option linter.unusedSimpArgs false
set_option maxRecDepth 20000
set_option maxHeartbeats 16000000
namespace Go.Proofs.Ytjjpjnhjnpplcaa
open Go.Aw

/-! ### what the law draws -/
def xV (l : List Nat) (i : Nat) : Int := 1 + r8F l (i : Int) 16
theorem xV_rng (l : List Nat) (i : Nat) : 1 ≤ xV l i ∧ xV l i ≤ 16 := by
  have := r8F_lt (l := l) (k := (i : Int)) (n := 16) (by omega)
  unfold xV; omega
def vV (l : List Nat) (n : Nat) : List Nat := (List.range n).map fun i : Nat => hw .f32 (xV l i)
theorem vV_len (l : List Nat) (n : Nat) : (vV l n).length = n := by simp [vV]
theorem vV_get {l : List Nat} {n i : Nat} (h : i < n) : (vV l n).getD i 0 = hw .f32 (xV l i) := getD_mapR _ h
theorem smI_16 {f : Nat → Int} {m : Nat} (h : ∀ k, k < m → f k ≤ 16) : smI f m ≤ 16 * m := by
  induction m with
  | zero => exact Int.le_refl _
  | succ m ih => have := ih (fun k hk => h k (by omega)); have := h m (by omega); simp only [smI]; push_cast; omega
theorem trV {p : List Int} {l : List Nat} (hT : isTree p = true) : TrH p (vV l p.length) (xV l) := by
  have hl := isTree_len hT
  refine ⟨hT, vV_len _ _, fun j hj => vV_get hj, fun j _ => by have := xV_rng l j; omega, fun i hi => ?_⟩
  have := smI_16 (f := fun k => if p.getD k 0 = (i : Int) then xV l k else 0) (m := p.length) (fun k _ => by
    have := xV_rng l k
    by_cases hc : p.getD k 0 = (i : Int)
    · rw [if_pos hc]; omega
    · rw [if_neg hc]; omega)
  unfold kI; omega
theorem trS {p : List Int} {l : List Nat} (hT : isTree p = true) : TrH p (smT p (vV l p.length) p.length) (sI p (xV l)) := by
  have hx : ∀ j, j < p.length → 1 ≤ xV l j ∧ xV l j ≤ 16 := fun j _ => xV_rng l j
  have hw := smT_hw hT (v := vV l p.length) (vV_len _ _) hx (fun j hj => vV_get hj) p.length (Nat.le_refl _)
  refine ⟨hT, by rw [smT_len, vV_len], fun j hj => hw.1 j hj (by omega), fun j hj => ⟨sI_pos hT (fun m hm => (hx m hm).1) p.length j hj (by omega), sI_le hT hx hj⟩, fun i hi => kI_le hT hx hi⟩
theorem all_fin {l : List Nat} (h : ∀ i, i < l.length → Fnt .f32 (l.getD i 0)) : l.all fin = true := List.all_eq_true.2 fun c hc => by
  obtain ⟨i, hi, rfl⟩ := List.getElem_of_mem hc
  have := h i hi
  rw [List.getD_eq_getElem?_getD, List.getElem?_eq_getElem hi] at this
  exact finB_Fn this
theorem TrH.fins {p : List Int} {u : List Nat} {y : Nat → Int} (h : TrH p u y) : u.all fin = true := all_fin fun i hi => by
  rw [h.wd i (by rw [← h.len]; exact hi)]
  exact (hw_rv (by have := h.rng i (by rw [← h.len]; exact hi); omega)).1
/-- sums are a tree's sum -/
theorem ts_self {p : List Int} {u : List Nat} {y : Nat → Int} (h : TrH p u y) (hs : ∀ i, i < p.length → hasK p i p.length = true → y i = kI p y i p.length) : isTreeSum p u 981668463 = (true, true) := by
  unfold isTreeSum
  rw [if_pos (by rw [h.both, near_01.2.2.2]; rfl)]
  have : (List.range u.length).all (okTree p u 981668463) = true := by
    refine List.all_eq_true.2 fun i hi => ?_
    have hi' : i < p.length := by have := List.mem_range.1 hi; rw [h.len] at this; exact this
    unfold okTree
    by_cases hh : hasK p i p.length = true
    · rw [hh, (h.kidF hi').1, ← hs i hi' hh, h.wd i hi', sub_same (hw_rv (by have := h.rng i hi'; omega)).1]
      have : fcmp .leq .f32 (absF 0) 981668463 = true := by decide +kernel
      rw [this]; rfl
    · have hf : hasK p i p.length = false := by simpa using hh
      rw [hf]; rfl
  rw [this]
def lsI (p : List Int) (x : Nat → Int) (i : Nat) : Int := smI (fun k => if hasK p k p.length = false then x k else 0) i
def lvW (p : List Int) (v : List Nat) (i : Nat) : List Nat := (leafN p i).map fun k => v.getD k 0
theorem lvW_len (p : List Int) (v : List Nat) (i : Nat) : (lvW p v i).length = (leafN p i).length := by simp [lvW]
theorem lvW_t {p : List Int} {v : List Nat} {i : Nat} (h : hasK p i p.length = true) : lvW p v (i + 1) = lvW p v i := by unfold lvW; rw [leafN_S, if_pos h]
theorem lvW_f {p : List Int} {v : List Nat} {i : Nat} (h : hasK p i p.length = false) : lvW p v (i + 1) = lvW p v i ++ [v.getD i 0] := by unfold lvW; rw [leafN_S, if_neg (by rw [h]; exact Bool.false_ne_true)]; simp
theorem lsI_t {p : List Int} {x : Nat → Int} {i : Nat} (h : hasK p i p.length = true) : lsI p x (i + 1) = lsI p x i := by
  show lsI p x i + (if hasK p i p.length = false then x i else 0) = _
  rw [if_neg (by rw [h]; exact Bool.noConfusion), Int.add_zero]
theorem lsI_f {p : List Int} {x : Nat → Int} {i : Nat} (h : hasK p i p.length = false) : lsI p x (i + 1) = lsI p x i + x i := by
  show lsI p x i + (if hasK p i p.length = false then x i else 0) = _
  rw [if_pos h]
theorem lsI_rng {p : List Int} {l : List Nat} (i : Nat) : 0 ≤ lsI p (xV l) i ∧ lsI p (xV l) i ≤ 16 * i := by
  unfold lsI
  refine ⟨smI_nn fun k _ => ?_, smI_16 fun k _ => ?_⟩
  · have := xV_rng l k; split <;> omega
  · have := xV_rng l k; split <;> omega
theorem wide_int_tab : (List.range 257).all (fun n => decide (fconv .f32 .f64 (hw .f32 (n : Int)) = hw .f64 (n : Int)) && decide (fconv .f64 .f32 (hw .f64 (n : Int)) = hw .f32 (n : Int)) && fconvOk .f64 .f32 (hw .f64 (n : Int))) = true := by decide +kernel
theorem wide_int {x : Int} (h : 0 ≤ x ∧ x ≤ 256) : fconv .f32 .f64 (hw .f32 x) = hw .f64 x ∧ fconv .f64 .f32 (hw .f64 x) = hw .f32 x ∧ fconvOk .f64 .f32 (hw .f64 x) = true := by
  obtain ⟨n, rfl⟩ : ∃ n : Nat, x = (n : Int) := ⟨x.toNat, by omega⟩
  have := List.all_eq_true.1 wide_int_tab n (List.mem_range.2 (by omega))
  simp only [Bool.and_eq_true, decide_eq_true_eq] at this
  exact ⟨this.1.1, this.1.2, this.2⟩
theorem hw64_0 : hw .f64 0 = 0 := by decide +kernel
theorem nb_eq {p : List Int} {i m : Nat} (h : hasK p i m = false) : icmp .neq (p.getD m 0) (i : Int) = !hasK p i (m + 1) := by
  rw [hasK_S, h, Bool.false_or]; rfl
theorem bE {a b : Bool} (h : a = b) : AV.t (.v (.bool a)) = AV.t (.v (.bool b)) := by rw [h]
theorem fE2 {k : FloatKind} {a b : Nat} (h : a = b) : AV.t (.f k a) = AV.t (.f k b) := by rw [h]
theorem gapc (a b : Nat) : TCall Try.prog 21 [.f .f32 a, .f .f32 b] (.t (.f .f64 (gapR a b))) [] := r8Gap_c a b
theorem r8N2 {l : List Nat} {k n : Int} (hn : 1 ≤ n) : ∃ x : Nat, r8F l k n = (x : Int) ∧ (x : Int) < n := by
  have := r8F_lt (l := l) (k := k) hn
  exact ⟨(r8F l k n).toNat, by omega, by omega⟩
attribute [local irreducible] QRun LexD AWp TCall TMut fop fint fcmp fconv hw fmx fmn dvD r8F gapR
theorem lawReconciled_c (code more : List Nat) (hc : code.length ≤ 9223372036854775807) (hm : more.length ≤ 9223372036854775807) (bc : ∀ i, i < code.length → code.getD i 0 < 256) (bm : ∀ i, i < more.length → more.getD i 0 < 256) :
    TCall Try.prog 3 [BY code, BY more] (.t (.v (.bool true))) [] := by
  by_cases hLg : r8Lg code more = true
  · refine tcall_of Try.func3 rfl (by kernel_rfl) (Nat.le_of_ble_eq_true rfl) rfl ?_
    simp only [argsL, argAV, argCs, argS]
    repeat (first | (refine x_q (h := ?_)) | (refine xd_q (h := ?_)) | (refine w_q (h := ?_)) | (refine w_s (h := ?_)) | (refine w_t (h := ?_)) | (refine w_k (h := ?_)) | (refine y_q (h := ?_)) | (refine y_s (h := ?_)) | (refine y_t (h := ?_)) | (refine y_k (h := ?_)) | (refine lex_nil (by kernel_rfl) ?_) | (refine awp_sq ?_) | (refine awp_rg ?_) | (refine awp_rd (by kernel_rfl) (by kernel_rfl) ?_) | (refine awp_block ?_) | (refine awp_exit ?_) | (refine awp_ret ?_) | (refine awp_skip ?_))
    (first | (refine c_q (r8Long_c code more hc hm) (h := ?_)) | (refine z_q (r8Long_c code more hc hm) (h := ?_)))
    repeat (first | (refine x_q (h := ?_)) | (refine xd_q (h := ?_)) | (refine w_q (h := ?_)) | (refine w_s (h := ?_)) | (refine w_t (h := ?_)) | (refine w_k (h := ?_)) | (refine y_q (h := ?_)) | (refine y_s (h := ?_)) | (refine y_t (h := ?_)) | (refine y_k (h := ?_)) | (refine lex_nil (by kernel_rfl) ?_) | (refine awp_sq ?_) | (refine awp_rg ?_) | (refine awp_rd (by kernel_rfl) (by kernel_rfl) ?_) | (refine awp_block ?_) | (refine awp_exit ?_) | (refine awp_ret ?_) | (refine awp_skip ?_))
    refine awp_ifT rfl hLg ?_
    repeat (first | (refine x_q (h := ?_)) | (refine xd_q (h := ?_)) | (refine w_q (h := ?_)) | (refine w_s (h := ?_)) | (refine w_t (h := ?_)) | (refine w_k (h := ?_)) | (refine y_q (h := ?_)) | (refine y_s (h := ?_)) | (refine y_t (h := ?_)) | (refine y_k (h := ?_)) | (refine lex_nil (by kernel_rfl) ?_) | (refine awp_sq ?_) | (refine awp_rg ?_) | (refine awp_rd (by kernel_rfl) (by kernel_rfl) ?_) | (refine awp_block ?_) | (refine awp_exit ?_) | (refine awp_ret ?_) | (refine awp_skip ?_))
    (refine ret_ok tyOk (by first | exact .inr rfl | exact .inl rfl) pi0 rfl (by first | exact .cons (by first | exact .tmp | exact .cell rfl rfl rfl rfl rfl rfl | exact .cell1 rfl rfl rfl rfl rfl) .nil | exact .cons (by first | exact .tmp | exact .cell rfl rfl rfl rfl rfl rfl | exact .cell1 rfl rfl rfl rfl rfl) (.cons (by first | exact .tmp | exact .cell rfl rfl rfl rfl rfl rfl | exact .cell1 rfl rfl rfl rfl rfl) .nil) | exact .cons (by first | exact .tmp | exact .cell rfl rfl rfl rfl rfl rfl | exact .cell1 rfl rfl rfl rfl rfl) (.cons (by first | exact .tmp | exact .cell rfl rfl rfl rfl rfl rfl | exact .cell1 rfl rfl rfl rfl rfl) (.cons (by first | exact .tmp | exact .cell rfl rfl rfl rfl rfl rfl | exact .cell1 rfl rfl rfl rfl rfl) .nil)) | exact .cons (by first | exact .tmp | exact .cell rfl rfl rfl rfl rfl rfl | exact .cell1 rfl rfl rfl rfl rfl) (.cons (by first | exact .tmp | exact .cell rfl rfl rfl rfl rfl rfl | exact .cell1 rfl rfl rfl rfl rfl) (.cons (by first | exact .tmp | exact .cell rfl rfl rfl rfl rfl rfl | exact .cell1 rfl rfl rfl rfl rfl) (.cons (by first | exact .tmp | exact .cell rfl rfl rfl rfl rfl rfl | exact .cell1 rfl rfl rfl rfl rfl) .nil)))) ?_ trivial (injO_0 _); (repeat' (first | exact RetRelL.nil | (refine RetRel.nil rfl ?_) | refine RetRelL.cons ?_ ?_ | refine rr_tup ?_ | refine rr_agg ?_ | refine rr_own rfl ?_ | exact RetRel.arg | exact RetRel.argc | refine rr_t ?_)); all_goals rfl)
  have hLg' : code.length ≤ 48 ∧ more.length ≤ 48 := by
    unfold r8Lg at hLg
    simp only [Bool.or_eq_true, decide_eq_true_eq] at hLg
    omega
  have hB : Byt code := ⟨by omega, bc⟩
  obtain ⟨n0, e40, l40⟩ := r8N2 (l := more) (k := 40) (n := 10) (by omega)
  obtain ⟨ht, e41, l41⟩ := r8N2 (l := more) (k := 41) (n := 40) (by omega)
  have t40 := r8At_c more 40 10 hm bm (by omega) (by omega)
  have t41 := r8At_c more 41 40 hm bm (by omega) (by omega)
  rw [e40] at t40; rw [e41] at t41
  obtain ⟨n, hn⟩ : ∃ n, n = n0 + 1 := ⟨_, rfl⟩
  have w40 : (1 : Int) + (n0 : Int) = (n : Int) := by omega
  have rn : 1 ≤ n ∧ n ≤ 10 := by omega
  have tP := r8Parents_c hB n (by omega)
  have hT := parL_tree hB (n := n) (by omega)
  have hpl := parL_len code n
  generalize parL code n = p at *
  subst hpl
  have hV := trV (p := p) (l := more) hT
  have hS := trS (p := p) (l := more) hT
  have hx : ∀ i, 1 ≤ xV more i ∧ xV more i ≤ 16 := xV_rng more
  have hsk : ∀ i, i < p.length → hasK p i p.length = true → sI p (xV more) i = kI p (sI p (xV more)) i p.length := fun i hi hh => by rw [sI_eq hT (xV more) hi, if_pos hh]
  have hvg : ∀ i, i < p.length → (vV more p.length).getD i 0 = hw .f32 (xV more i) := fun i hi => vV_get hi
  have hvl := vV_len more p.length
  have hxe : ∀ i : Nat, 1 + r8F more (i : Int) 16 = xV more i := fun i => rfl
  -- sums
  have hSU : sumUp p (vV more p.length) = (smT p (vV more p.length) p.length, true) := by
    unfold sumUp
    rw [if_pos hV.both]
    unfold ifAllF
    rw [if_pos hS.fins]
  have hTS : treeS p (lvW p (vV more p.length) p.length) = (smT p (vV more p.length) p.length, true) := by
    have h1 : tsOk p (lvW p (vV more p.length) p.length) = true := by
      unfold tsOk
      rw [hT, decide_eq_true (show (lvW p (vV more p.length) p.length).length = (leafL p).length by rw [lvW_len]; rfl)]
      simp only [Bool.true_and, Bool.and_true]
      refine List.all_eq_true.2 fun c hc => ?_
      obtain ⟨i, hi, rfl⟩ := List.mem_map.1 hc
      have hil := (leafN_mem.1 hi).1
      rw [hvg i hil]
      exact finB_Fn (hw_rv (by have := hx i; omega)).1
    have h2 : lvW p (vV more p.length) p.length = (leafL p).map (fun i => (vV more p.length).getD i 0) := rfl
    unfold treeS
    rw [if_pos h1, h2, sumUp_leaves hT hvl]
    unfold ifAllF
    rw [if_pos hS.fins]
  have hlw := lvW_len p (vV more p.length)
  have hln := leafN_len p
  have tTS := implTs_c p (lvW p (vV more p.length) p.length) (by omega) (by have := hln p.length; have := hlw p.length; omega)
  rw [hTS] at tTS
  have tSU := implSu_c p (vV more p.length) (by omega) (by omega)
  rw [hSU] at tSU
  have h8 := fun j (hj : j < p.length) => sp_8 hV (fun j _ => (hx j).2) p.length j hj hj
  have hAg := fun j (hj : j < p.length) => sp_again hS hsk p.length j hj hj
  have hDl : (spN p (vV more p.length) (p.length - 1)).length = p.length := by rw [spN_len]; omega
  have hGl : (spN p (smT p (vV more p.length) p.length) (p.length - 1)).length = p.length := by rw [spN_len]; omega
  have tSD := splitDown_c p (vV more p.length) (by omega) hvl hV.both (fun i h1 h2 => hV.guard h1 h2) (all_fin fun i hi => by rw [spAll (by omega) (by omega)]; exact (h8 i (by omega)).1)
  have tSA := splitDown_c p (smT p (vV more p.length) p.length) (by omega) hS.len hS.both (fun i h1 h2 => hS.guard h1 h2) (all_fin fun i hi => by rw [spAll (by omega) (by omega)]; exact (hAg i (by omega)).1)
  have tI1 := implTreeSum_c p (smT p (vV more p.length) p.length) 981668463 (by omega) (by rw [hS.len]; omega)
  rw [ts_self hS hsk] at tI1
  have tI2 := implTreeSum_c p (spN p (vV more p.length) (p.length - 1)) 1008981770 (by omega) (by omega)
  rw [sp_tree hV (fun j _ => (hx j).2)] at tI2
  have hn1 := nat_cast_le (show p.length ≤ 10 by omega)
  -- the middle
  have hM := mid_fact (h := ht) (v := vV more p.length) (x := xV more) (by omega) (fun j hj => hvg j (by omega)) (fun j _ => hx j) (by omega) (by omega)
  have tM := implMeet_c (hw .f32 (2 * (ht : Int))) (vV more p.length) (by omega)
  rw [hM.mf] at tM
  have hLl : (meetL (hw .f32 (2 * (ht : Int))) (vV more p.length)).length = p.length := by unfold meetL; simp [hvl]
  have hie := int_hw' (n := ht) (by omega)
  -- what is compared
  have c0 : fcmp .neq .f32 ((spN p (vV more p.length) (p.length - 1)).getD 0 0) ((vV more p.length).getD 0 0) = false := by
    rw [spAll (by omega) (by omega)]
    exact neq_same (h8 0 (by omega)).1
  have cU : ∀ i, i < p.length → fcmp .neq .f32 ((smT p (vV more p.length) p.length).getD i 0) ((smT p (vV more p.length) p.length).getD i 0) = false := fun i hi => by
    rw [hS.wd i hi]; exact neq_same (hw_rv (by have := hS.rng i hi; omega)).1
  have cG : ∀ i, i < p.length → fcmp .gtr .f64 (gapR ((spN p (smT p (vV more p.length) p.length) (p.length - 1)).getD i 0) ((smT p (vV more p.length) p.length).getD i 0)) 4562254508917369340 = false := fun i hi => by
    rw [spAll (by omega) hi, hS.wd i hi]
    have ha := hAg i hi
    have hr := hS.rng i hi
    have hwi := hw_rv (x := sI p (xV more) i) (by omega)
    have hy1 : (1 : Rat) ≤ ((sI p (xV more) i : Int) : Rat) := Rat.intCast_le_intCast.2 hr.1
    have hy2 : ((sI p (xV more) i : Int) : Rat) ≤ 192 := Rat.intCast_le_intCast.2 hr.2
    have hni := nat_cast_le (show i ≤ 9 by omega)
    have ha2 := ha.2
    exact gap_gtr (ε := 7 / 10000) ⟨ha.1, by grind, by grind⟩ ⟨hwi.1, by grind, by grind⟩ (by grind) (by grind) (by grind)
  have hroot : sI p (xV more) 0 = lsI p (xV more) p.length := sI_root hT (xV more)
  have hls := lsI_rng (p := p) (l := more) p.length
  have hS0 := hS.wd 0 (by omega)
  have hthin := wide_int (x := lsI p (xV more) p.length) (by omega)
  have cR : fcmp .gtr .f64 (gapR ((smT p (vV more p.length) p.length).getD 0 0) (hw .f32 (lsI p (xV more) p.length))) 4562254508917369340 = false := by
    rw [hS0, hroot]
    have hwi := hw_rv (x := lsI p (xV more) p.length) (by omega)
    have hy1 : (0 : Rat) ≤ ((lsI p (xV more) p.length : Int) : Rat) := Rat.intCast_le_intCast.2 hls.1
    have hy2 : ((lsI p (xV more) p.length : Int) : Rat) ≤ 192 := Rat.intCast_le_intCast.2 (show lsI p (xV more) p.length ≤ 192 by omega)
    exact gap_gtr (ε := 0) ⟨hwi.1, by grind, by grind⟩ ⟨hwi.1, by grind, by grind⟩ (by grind) (by grind) (by grind)
  have cM := hM.gp
  have cL := hM.ls
  have hnar := narrow_bd hM.tb (by grind)
  rw [hvl] at cM cL hnar
  have hSl := hS.len
  clear hM hAg h8 hSU hTS hS0 hroot
  generalize hSg : smT p (vV more p.length) p.length = S at *
  generalize spN p (vV more p.length) (p.length - 1) = D at *
  generalize spN p S (p.length - 1) = G at *
  generalize meetL (hw .f32 (2 * (ht : Int))) (vV more p.length) = L at *
  generalize meetD (hw .f32 (2 * (ht : Int))) (vV more p.length) = md at *
  generalize hvv : vV more p.length = v at *
  dsimp only [flR2, flH2] at tTS tSU tM
  refine tcall_of Try.func3 rfl (by kernel_rfl) (Nat.le_of_ble_eq_true rfl) rfl ?_
  simp only [argsL, argAV, argCs, argS]
  repeat (first | (refine x_q (h := ?_)) | (refine xd_q (h := ?_)) | (refine w_q (h := ?_)) | (refine w_s (h := ?_)) | (refine w_t (h := ?_)) | (refine w_k (h := ?_)) | (refine y_q (h := ?_)) | (refine y_s (h := ?_)) | (refine y_t (h := ?_)) | (refine y_k (h := ?_)) | (refine lex_nil (by kernel_rfl) ?_) | (refine awp_sq ?_) | (refine awp_rg ?_) | (refine awp_rd (by kernel_rfl) (by kernel_rfl) ?_) | (refine awp_block ?_) | (refine awp_exit ?_) | (refine awp_ret ?_) | (refine awp_skip ?_))
  (first | (refine c_q (r8Long_c code more hc hm) (h := ?_)) | (refine z_q (r8Long_c code more hc hm) (h := ?_)))
  repeat (first | (refine x_q (h := ?_)) | (refine xd_q (h := ?_)) | (refine w_q (h := ?_)) | (refine w_s (h := ?_)) | (refine w_t (h := ?_)) | (refine w_k (h := ?_)) | (refine y_q (h := ?_)) | (refine y_s (h := ?_)) | (refine y_t (h := ?_)) | (refine y_k (h := ?_)) | (refine lex_nil (by kernel_rfl) ?_) | (refine awp_sq ?_) | (refine awp_rg ?_) | (refine awp_rd (by kernel_rfl) (by kernel_rfl) ?_) | (refine awp_block ?_) | (refine awp_exit ?_) | (refine awp_ret ?_) | (refine awp_skip ?_))
  refine awp_ifF rfl (by simpa using hLg) ?_
  repeat (first | (refine x_q (h := ?_)) | (refine xd_q (h := ?_)) | (refine w_q (h := ?_)) | (refine w_s (h := ?_)) | (refine w_t (h := ?_)) | (refine w_k (h := ?_)) | (refine y_q (h := ?_)) | (refine y_s (h := ?_)) | (refine y_t (h := ?_)) | (refine y_k (h := ?_)) | (refine lex_nil (by kernel_rfl) ?_) | (refine awp_sq ?_) | (refine awp_rg ?_) | (refine awp_rd (by kernel_rfl) (by kernel_rfl) ?_) | (refine awp_block ?_) | (refine awp_exit ?_) | (refine awp_ret ?_) | (refine awp_skip ?_))
  (first | (refine c_q (t40) (h := ?_)) | (refine z_q (t40) (h := ?_)))
  repeat (first | (refine x_q (h := ?_)) | (refine xd_q (h := ?_)) | (refine w_q (h := ?_)) | (refine w_s (h := ?_)) | (refine w_t (h := ?_)) | (refine w_k (h := ?_)) | (refine y_q (h := ?_)) | (refine y_s (h := ?_)) | (refine y_t (h := ?_)) | (refine y_k (h := ?_)) | (refine lex_nil (by kernel_rfl) ?_) | (refine awp_sq ?_) | (refine awp_rg ?_) | (refine awp_rd (by kernel_rfl) (by kernel_rfl) ?_) | (refine awp_block ?_) | (refine awp_exit ?_) | (refine awp_ret ?_) | (refine awp_skip ?_))
  rw [w40]
  repeat (first | (refine x_q (h := ?_)) | (refine xd_q (h := ?_)) | (refine w_q (h := ?_)) | (refine w_s (h := ?_)) | (refine w_t (h := ?_)) | (refine w_k (h := ?_)) | (refine y_q (h := ?_)) | (refine y_s (h := ?_)) | (refine y_t (h := ?_)) | (refine y_k (h := ?_)) | (refine lex_nil (by kernel_rfl) ?_) | (refine awp_sq ?_) | (refine awp_rg ?_) | (refine awp_rd (by kernel_rfl) (by kernel_rfl) ?_) | (refine awp_block ?_) | (refine awp_exit ?_) | (refine awp_ret ?_) | (refine awp_skip ?_))
  (first | (refine c_s (tP) (h := ?_)) | (refine z_s (tP) (h := ?_)))
  repeat (first | (refine x_q (h := ?_)) | (refine xd_q (h := ?_)) | (refine w_q (h := ?_)) | (refine w_s (h := ?_)) | (refine w_t (h := ?_)) | (refine w_k (h := ?_)) | (refine y_q (h := ?_)) | (refine y_s (h := ?_)) | (refine y_t (h := ?_)) | (refine y_k (h := ?_)) | (refine lex_nil (by kernel_rfl) ?_) | (refine awp_sq ?_) | (refine awp_rg ?_) | (refine awp_rd (by kernel_rfl) (by kernel_rfl) ?_) | (refine awp_block ?_) | (refine awp_exit ?_) | (refine awp_ret ?_) | (refine awp_skip ?_))
  refine awp_loop (X := Nat) (fun i => i ≤ p.length) (fun i => [(1, .arg 1 (BY more)), (5, .t (.v (.int .i64 p.length))), (6, .own 41 0 p.length), (7, .own 42 0 i), (8, .own 43 0 (lvW p v i).length), (9, .t (.f .f64 (hw .f64 (lsI p (xV more) i)))), (10, .t (.v (.int .i64 i)))])
    (fun i => [(41, .sl 2 (.il p)), (42, .sl 29 (.fl (v.take i))), (43, .sl 29 (.fl (lvW p v i)))]) (fun i => p.length - i)
    0 ⟨by omega, fun i => i, ⟨rfl, rfl, rfl, rfl, rfl, fE2 hw64_0.symm, rfl, trivial⟩, ⟨rfl, rfl, rfl, trivial⟩, injOn_id _⟩ (fun i hi => ?_)
  have hz : (v.take i).length = i := by simp [hvl]; omega
  have hlwi := hlw i
  have hlni := hln i
  repeat (first | (refine x_q (h := ?_)) | (refine xd_q (h := ?_)) | (refine w_q (h := ?_)) | (refine w_s (h := ?_)) | (refine w_t (h := ?_)) | (refine w_k (h := ?_)) | (refine y_q (h := ?_)) | (refine y_s (h := ?_)) | (refine y_t (h := ?_)) | (refine y_k (h := ?_)) | (refine lex_nil (by kernel_rfl) ?_) | (refine awp_sq ?_) | (refine awp_rg ?_) | (refine awp_rd (by kernel_rfl) (by kernel_rfl) ?_) | (refine awp_block ?_) | (refine awp_exit ?_) | (refine awp_ret ?_) | (refine awp_skip ?_))
  refine awp_if rfl (fun h => ?_) (fun h => ?_)
  · -- [[
    simp only [icmp, decide_eq_true_eq] at h
    have hi' : i < p.length := by omega
    have ti := r8At_c more (i : Int) 16 hm bm (by omega) (by omega)
    obtain ⟨dd, ed, ld⟩ := r8N2 (l := more) (k := (i : Int)) (n := 16) (by omega)
    have hxd : (1 : Int) + (dd : Int) = xV more i := by rw [← hxe, ed]
    rw [ed] at ti
    have hxi := hx i
    have hhf := half_hw (x := xV more i) (by omega)
    have hz1 : (v.take (i + 1)).length = i + 1 := by simp [hvl]; omega
    repeat (first | (refine x_q (h := ?_)) | (refine xd_q (h := ?_)) | (refine w_q (h := ?_)) | (refine w_s (h := ?_)) | (refine w_t (h := ?_)) | (refine w_k (h := ?_)) | (refine y_q (h := ?_)) | (refine y_s (h := ?_)) | (refine y_t (h := ?_)) | (refine y_k (h := ?_)) | (refine lex_nil (by kernel_rfl) ?_) | (refine awp_sq ?_) | (refine awp_rg ?_) | (refine awp_rd (by kernel_rfl) (by kernel_rfl) ?_) | (refine awp_block ?_) | (refine awp_exit ?_) | (refine awp_ret ?_) | (refine awp_skip ?_))
    (first | (refine c_q (ti) (h := ?_)) | (refine z_q (ti) (h := ?_)))
    repeat (first | (refine x_q (h := ?_)) | (refine xd_q (h := ?_)) | (refine w_q (h := ?_)) | (refine w_s (h := ?_)) | (refine w_t (h := ?_)) | (refine w_k (h := ?_)) | (refine y_q (h := ?_)) | (refine y_s (h := ?_)) | (refine y_t (h := ?_)) | (refine y_k (h := ?_)) | (refine lex_nil (by kernel_rfl) ?_) | (refine awp_sq ?_) | (refine awp_rg ?_) | (refine awp_rd (by kernel_rfl) (by kernel_rfl) ?_) | (refine awp_block ?_) | (refine awp_exit ?_) | (refine awp_ret ?_) | (refine awp_skip ?_))
    rw [hxd]
    repeat (first | (refine x_q (h := ?_)) | (refine xd_q (h := ?_)) | (refine w_q (h := ?_)) | (refine w_s (h := ?_)) | (refine w_t (h := ?_)) | (refine w_k (h := ?_)) | (refine y_q (h := ?_)) | (refine y_s (h := ?_)) | (refine y_t (h := ?_)) | (refine y_k (h := ?_)) | (refine lex_nil (by kernel_rfl) ?_) | (refine awp_sq ?_) | (refine awp_rg ?_) | (refine awp_rd (by kernel_rfl) (by kernel_rfl) ?_) | (refine awp_block ?_) | (refine awp_exit ?_) | (refine awp_ret ?_) | (refine awp_skip ?_))
    rw [hhf]
    repeat (first | (refine x_q (h := ?_)) | (refine xd_q (h := ?_)) | (refine w_q (h := ?_)) | (refine w_s (h := ?_)) | (refine w_t (h := ?_)) | (refine w_k (h := ?_)) | (refine y_q (h := ?_)) | (refine y_s (h := ?_)) | (refine y_t (h := ?_)) | (refine y_k (h := ?_)) | (refine lex_nil (by kernel_rfl) ?_) | (refine awp_sq ?_) | (refine awp_rg ?_) | (refine awp_rd (by kernel_rfl) (by kernel_rfl) ?_) | (refine awp_block ?_) | (refine awp_exit ?_) | (refine awp_ret ?_) | (refine awp_skip ?_))
    (first | (refine a_s (hn := by exact hz) (h := ?_)) | (refine b_s (hn := by exact hz) (h := ?_)))
    repeat (first | (refine x_q (h := ?_)) | (refine xd_q (h := ?_)) | (refine w_q (h := ?_)) | (refine w_s (h := ?_)) | (refine w_t (h := ?_)) | (refine w_k (h := ?_)) | (refine y_q (h := ?_)) | (refine y_s (h := ?_)) | (refine y_t (h := ?_)) | (refine y_k (h := ?_)) | (refine lex_nil (by kernel_rfl) ?_) | (refine awp_sq ?_) | (refine awp_rg ?_) | (refine awp_rd (by kernel_rfl) (by kernel_rfl) ?_) | (refine awp_block ?_) | (refine awp_exit ?_) | (refine awp_ret ?_) | (refine awp_skip ?_))
    refine awp_loop (X := Nat) (fun m => i + 1 ≤ m ∧ m ≤ p.length) (fun m => [(1, .arg 1 (BY more)), (5, .t (.v (.int .i64 p.length))), (6, .own 41 0 p.length), (7, .own 42 0 (i + 1)), (8, .own 43 0 (lvW p v i).length), (9, .t (.f .f64 (hw .f64 (lsI p (xV more) i)))), (10, .t (.v (.int .i64 i))), (11, .t (.f .f32 (hw .f32 (xV more i)))), (12, .t (.v (.bool (!hasK p i m)))), (13, .t (.v (.int .i64 m)))])
      (fun m => [(41, .sl 2 (.il p)), (42, .sl 29 (.fl (v.take (i + 1)))), (43, .sl 29 (.fl (lvW p v i)))]) (fun m => p.length - m)
      (i + 1) ⟨⟨by omega, by omega⟩, fun i => i, ⟨rfl, rfl, rfl, own_eq (by simp only [T.app, T.len, List.length_append, hz]; rfl), rfl, rfl, rfl, rfl, bE (by rw [hasK_le hT (by omega) (by omega)]; rfl), iE (by omega), trivial⟩, ⟨rfl, sl_eq (congrArg T.fl (take_snoc (by omega) (hvg i hi'))), rfl, trivial⟩, injOn_id _⟩ (fun m hm2 => ?_)
    repeat (first | (refine x_q (h := ?_)) | (refine xd_q (h := ?_)) | (refine w_q (h := ?_)) | (refine w_s (h := ?_)) | (refine w_t (h := ?_)) | (refine w_k (h := ?_)) | (refine y_q (h := ?_)) | (refine y_s (h := ?_)) | (refine y_t (h := ?_)) | (refine y_k (h := ?_)) | (refine lex_nil (by kernel_rfl) ?_) | (refine awp_sq ?_) | (refine awp_rg ?_) | (refine awp_rd (by kernel_rfl) (by kernel_rfl) ?_) | (refine awp_block ?_) | (refine awp_exit ?_) | (refine awp_ret ?_) | (refine awp_skip ?_))
    refine awp_if rfl (fun h2 => ?_) (fun h2 => ?_)
    · simp only [icmp, decide_eq_true_eq] at h2
      cases hb : hasK p i m with
      | false =>
        have hne := nb_eq hb
        repeat (first | (refine x_q (h := ?_)) | (refine xd_q (h := ?_)) | (refine w_q (h := ?_)) | (refine w_s (h := ?_)) | (refine w_t (h := ?_)) | (refine w_k (h := ?_)) | (refine y_q (h := ?_)) | (refine y_s (h := ?_)) | (refine y_t (h := ?_)) | (refine y_k (h := ?_)) | (refine lex_nil (by kernel_rfl) ?_) | (refine awp_sq ?_) | (refine awp_rg ?_) | (refine awp_rd (by kernel_rfl) (by kernel_rfl) ?_) | (refine awp_block ?_) | (refine awp_exit ?_) | (refine awp_ret ?_) | (refine awp_skip ?_))
        exact ⟨m + 1, by omega, ⟨by omega, by omega⟩, fun i => i, ⟨rfl, rfl, rfl, rfl, rfl, rfl, rfl, rfl, bE (by rw [Nat.zero_add]; exact hne), rfl, trivial⟩, ⟨rfl, rfl, rfl, trivial⟩, injOn_id _⟩
      | true =>
        have hne : hasK p i (m + 1) = true := by rw [hasK_S, hb]; rfl
        repeat (first | (refine x_q (h := ?_)) | (refine xd_q (h := ?_)) | (refine w_q (h := ?_)) | (refine w_s (h := ?_)) | (refine w_t (h := ?_)) | (refine w_k (h := ?_)) | (refine y_q (h := ?_)) | (refine y_s (h := ?_)) | (refine y_t (h := ?_)) | (refine y_k (h := ?_)) | (refine lex_nil (by kernel_rfl) ?_) | (refine awp_sq ?_) | (refine awp_rg ?_) | (refine awp_rd (by kernel_rfl) (by kernel_rfl) ?_) | (refine awp_block ?_) | (refine awp_exit ?_) | (refine awp_ret ?_) | (refine awp_skip ?_))
        exact ⟨m + 1, by omega, ⟨by omega, by omega⟩, fun i => i, ⟨rfl, rfl, rfl, rfl, rfl, rfl, rfl, rfl, bE (by rw [hne]; rfl), rfl, trivial⟩, ⟨rfl, rfl, rfl, trivial⟩, injOn_id _⟩
    simp only [icmp, decide_eq_false_iff_not] at h2
    obtain rfl : m = p.length := by omega
    have hlsi := lsI_rng (p := p) (l := more) i
    cases hb : hasK p i p.length with
    | true =>
      repeat (first | (refine x_q (h := ?_)) | (refine xd_q (h := ?_)) | (refine w_q (h := ?_)) | (refine w_s (h := ?_)) | (refine w_t (h := ?_)) | (refine w_k (h := ?_)) | (refine y_q (h := ?_)) | (refine y_s (h := ?_)) | (refine y_t (h := ?_)) | (refine y_k (h := ?_)) | (refine lex_nil (by kernel_rfl) ?_) | (refine awp_sq ?_) | (refine awp_rg ?_) | (refine awp_rd (by kernel_rfl) (by kernel_rfl) ?_) | (refine awp_block ?_) | (refine awp_exit ?_) | (refine awp_ret ?_) | (refine awp_skip ?_))
      refine awp_ifF rfl rfl ?_
      repeat (first | (refine x_q (h := ?_)) | (refine xd_q (h := ?_)) | (refine w_q (h := ?_)) | (refine w_s (h := ?_)) | (refine w_t (h := ?_)) | (refine w_k (h := ?_)) | (refine y_q (h := ?_)) | (refine y_s (h := ?_)) | (refine y_t (h := ?_)) | (refine y_k (h := ?_)) | (refine lex_nil (by kernel_rfl) ?_) | (refine awp_sq ?_) | (refine awp_rg ?_) | (refine awp_rd (by kernel_rfl) (by kernel_rfl) ?_) | (refine awp_block ?_) | (refine awp_exit ?_) | (refine awp_ret ?_) | (refine awp_skip ?_))
      exact ⟨i + 1, by omega, by omega, fun i => i, ⟨rfl, rfl, rfl, rfl, own_eq (by rw [lvW_t hb]), fE2 (by rw [lsI_t hb]), rfl, trivial⟩, ⟨rfl, rfl, by rw [lvW_t hb]; rfl, trivial⟩, injOn_id _⟩
    | false =>
      have hwd := (wide_int (x := xV more i) (by omega)).1
      have hls1 : hw .f64 (lsI p (xV more) (i + 1)) = fop .add .f64 (hw .f64 (lsI p (xV more) i)) (hw .f64 (xV more i)) := by
        rw [hw_add .f64 (by omega) (by omega) (by omega), lsI_f hb]
      repeat (first | (refine x_q (h := ?_)) | (refine xd_q (h := ?_)) | (refine w_q (h := ?_)) | (refine w_s (h := ?_)) | (refine w_t (h := ?_)) | (refine w_k (h := ?_)) | (refine y_q (h := ?_)) | (refine y_s (h := ?_)) | (refine y_t (h := ?_)) | (refine y_k (h := ?_)) | (refine lex_nil (by kernel_rfl) ?_) | (refine awp_sq ?_) | (refine awp_rg ?_) | (refine awp_rd (by kernel_rfl) (by kernel_rfl) ?_) | (refine awp_block ?_) | (refine awp_exit ?_) | (refine awp_ret ?_) | (refine awp_skip ?_))
      refine awp_ifT rfl rfl ?_
      repeat (first | (refine x_q (h := ?_)) | (refine xd_q (h := ?_)) | (refine w_q (h := ?_)) | (refine w_s (h := ?_)) | (refine w_t (h := ?_)) | (refine w_k (h := ?_)) | (refine y_q (h := ?_)) | (refine y_s (h := ?_)) | (refine y_t (h := ?_)) | (refine y_k (h := ?_)) | (refine lex_nil (by kernel_rfl) ?_) | (refine awp_sq ?_) | (refine awp_rg ?_) | (refine awp_rd (by kernel_rfl) (by kernel_rfl) ?_) | (refine awp_block ?_) | (refine awp_exit ?_) | (refine awp_ret ?_) | (refine awp_skip ?_))
      (first | (refine a_s (hn := by exact rfl) (h := ?_)) | (refine b_s (hn := by exact rfl) (h := ?_)))
      repeat (first | (refine x_q (h := ?_)) | (refine xd_q (h := ?_)) | (refine w_q (h := ?_)) | (refine w_s (h := ?_)) | (refine w_t (h := ?_)) | (refine w_k (h := ?_)) | (refine y_q (h := ?_)) | (refine y_s (h := ?_)) | (refine y_t (h := ?_)) | (refine y_k (h := ?_)) | (refine lex_nil (by kernel_rfl) ?_) | (refine awp_sq ?_) | (refine awp_rg ?_) | (refine awp_rd (by kernel_rfl) (by kernel_rfl) ?_) | (refine awp_block ?_) | (refine awp_exit ?_) | (refine awp_ret ?_) | (refine awp_skip ?_))
      have hap : lvW p v (i + 1) = lvW p v i ++ [hw .f32 (xV more i)] := by rw [lvW_f hb, hvg i hi']
      exact ⟨i + 1, by omega, by omega, fun i => i, ⟨rfl, rfl, rfl, rfl, own_eq (by rw [hap]; simp only [T.app, T.len, List.length_append]), fE2 (by rw [hls1, hwd]), rfl, trivial⟩, ⟨rfl, rfl, sl_eq (congrArg T.fl hap.symm), trivial⟩, injOn_id _⟩
    -- ]]
  simp only [icmp, decide_eq_false_iff_not] at h
  obtain rfl : i = p.length := by omega
  rw [List.take_of_length_le (by omega : v.length ≤ p.length)]
  repeat (first | (refine x_q (h := ?_)) | (refine xd_q (h := ?_)) | (refine w_q (h := ?_)) | (refine w_s (h := ?_)) | (refine w_t (h := ?_)) | (refine w_k (h := ?_)) | (refine y_q (h := ?_)) | (refine y_s (h := ?_)) | (refine y_t (h := ?_)) | (refine y_k (h := ?_)) | (refine lex_nil (by kernel_rfl) ?_) | (refine awp_sq ?_) | (refine awp_rg ?_) | (refine awp_rd (by kernel_rfl) (by kernel_rfl) ?_) | (refine awp_block ?_) | (refine awp_exit ?_) | (refine awp_ret ?_) | (refine awp_skip ?_))
  (first | (refine c_s (tTS) (h := ?_)) | (refine z_s (tTS) (h := ?_)))
  repeat (first | (refine x_q (h := ?_)) | (refine xd_q (h := ?_)) | (refine w_q (h := ?_)) | (refine w_s (h := ?_)) | (refine w_t (h := ?_)) | (refine w_k (h := ?_)) | (refine y_q (h := ?_)) | (refine y_s (h := ?_)) | (refine y_t (h := ?_)) | (refine y_k (h := ?_)) | (refine lex_nil (by kernel_rfl) ?_) | (refine awp_sq ?_) | (refine awp_rg ?_) | (refine awp_rd (by kernel_rfl) (by kernel_rfl) ?_) | (refine awp_block ?_) | (refine awp_exit ?_) | (refine awp_ret ?_) | (refine awp_skip ?_))
  (first | (refine c_s (tSU) (h := ?_)) | (refine z_s (tSU) (h := ?_)))
  repeat (first | (refine x_q (h := ?_)) | (refine xd_q (h := ?_)) | (refine w_q (h := ?_)) | (refine w_s (h := ?_)) | (refine w_t (h := ?_)) | (refine w_k (h := ?_)) | (refine y_q (h := ?_)) | (refine y_s (h := ?_)) | (refine y_t (h := ?_)) | (refine y_k (h := ?_)) | (refine lex_nil (by kernel_rfl) ?_) | (refine awp_sq ?_) | (refine awp_rg ?_) | (refine awp_rd (by kernel_rfl) (by kernel_rfl) ?_) | (refine awp_block ?_) | (refine awp_exit ?_) | (refine awp_ret ?_) | (refine awp_skip ?_))
  (first | (refine c_s (tSD) (h := ?_)) | (refine z_s (tSD) (h := ?_)))
  repeat (first | (refine x_q (h := ?_)) | (refine xd_q (h := ?_)) | (refine w_q (h := ?_)) | (refine w_s (h := ?_)) | (refine w_t (h := ?_)) | (refine w_k (h := ?_)) | (refine y_q (h := ?_)) | (refine y_s (h := ?_)) | (refine y_t (h := ?_)) | (refine y_k (h := ?_)) | (refine lex_nil (by kernel_rfl) ?_) | (refine awp_sq ?_) | (refine awp_rg ?_) | (refine awp_rd (by kernel_rfl) (by kernel_rfl) ?_) | (refine awp_block ?_) | (refine awp_exit ?_) | (refine awp_ret ?_) | (refine awp_skip ?_))
  (first | (refine c_q (tI1) (h := ?_)) | (refine z_q (tI1) (h := ?_)))
  repeat (first | (refine x_q (h := ?_)) | (refine xd_q (h := ?_)) | (refine w_q (h := ?_)) | (refine w_s (h := ?_)) | (refine w_t (h := ?_)) | (refine w_k (h := ?_)) | (refine y_q (h := ?_)) | (refine y_s (h := ?_)) | (refine y_t (h := ?_)) | (refine y_k (h := ?_)) | (refine lex_nil (by kernel_rfl) ?_) | (refine awp_sq ?_) | (refine awp_rg ?_) | (refine awp_rd (by kernel_rfl) (by kernel_rfl) ?_) | (refine awp_block ?_) | (refine awp_exit ?_) | (refine awp_ret ?_) | (refine awp_skip ?_))
  (first | (refine c_q (tI2) (h := ?_)) | (refine z_q (tI2) (h := ?_)))
  repeat (first | (refine x_q (h := ?_)) | (refine xd_q (h := ?_)) | (refine w_q (h := ?_)) | (refine w_s (h := ?_)) | (refine w_t (h := ?_)) | (refine w_k (h := ?_)) | (refine y_q (h := ?_)) | (refine y_s (h := ?_)) | (refine y_t (h := ?_)) | (refine y_k (h := ?_)) | (refine lex_nil (by kernel_rfl) ?_) | (refine awp_sq ?_) | (refine awp_rg ?_) | (refine awp_rd (by kernel_rfl) (by kernel_rfl) ?_) | (refine awp_block ?_) | (refine awp_exit ?_) | (refine awp_ret ?_) | (refine awp_skip ?_))
  (first | (refine c_s (tSA) (h := ?_)) | (refine z_s (tSA) (h := ?_)))
  repeat (first | (refine x_q (h := ?_)) | (refine xd_q (h := ?_)) | (refine w_q (h := ?_)) | (refine w_s (h := ?_)) | (refine w_t (h := ?_)) | (refine w_k (h := ?_)) | (refine y_q (h := ?_)) | (refine y_s (h := ?_)) | (refine y_t (h := ?_)) | (refine y_k (h := ?_)) | (refine lex_nil (by kernel_rfl) ?_) | (refine awp_sq ?_) | (refine awp_rg ?_) | (refine awp_rd (by kernel_rfl) (by kernel_rfl) ?_) | (refine awp_block ?_) | (refine awp_exit ?_) | (refine awp_ret ?_) | (refine awp_skip ?_))
  have c0' : fcmp .neq .f32 (D.getD (0 + 0) 0) (v.getD (0 + 0) 0) = false := c0
  rw [c0']
  repeat (first | (refine x_q (h := ?_)) | (refine xd_q (h := ?_)) | (refine w_q (h := ?_)) | (refine w_s (h := ?_)) | (refine w_t (h := ?_)) | (refine w_k (h := ?_)) | (refine y_q (h := ?_)) | (refine y_s (h := ?_)) | (refine y_t (h := ?_)) | (refine y_k (h := ?_)) | (refine lex_nil (by kernel_rfl) ?_) | (refine awp_sq ?_) | (refine awp_rg ?_) | (refine awp_rd (by kernel_rfl) (by kernel_rfl) ?_) | (refine awp_block ?_) | (refine awp_exit ?_) | (refine awp_ret ?_) | (refine awp_skip ?_))
  (first | (refine w_r (q_cv_ff tyOk rfl rfl rfl rfl rfl (by decide) rfl hthin.2.2) (h := ?_)) | (refine y_r (q_cv_ff tyOk rfl rfl rfl rfl rfl (by decide) rfl hthin.2.2) (h := ?_)))
  rw [hthin.2.1]
  repeat (first | (refine x_q (h := ?_)) | (refine xd_q (h := ?_)) | (refine w_q (h := ?_)) | (refine w_s (h := ?_)) | (refine w_t (h := ?_)) | (refine w_k (h := ?_)) | (refine y_q (h := ?_)) | (refine y_s (h := ?_)) | (refine y_t (h := ?_)) | (refine y_k (h := ?_)) | (refine lex_nil (by kernel_rfl) ?_) | (refine awp_sq ?_) | (refine awp_rg ?_) | (refine awp_rd (by kernel_rfl) (by kernel_rfl) ?_) | (refine awp_block ?_) | (refine awp_exit ?_) | (refine awp_ret ?_) | (refine awp_skip ?_))
  (first | (refine c_q (gapc _ _) (h := ?_)) | (refine z_q (gapc _ _) (h := ?_)))
  repeat (first | (refine x_q (h := ?_)) | (refine xd_q (h := ?_)) | (refine w_q (h := ?_)) | (refine w_s (h := ?_)) | (refine w_t (h := ?_)) | (refine w_k (h := ?_)) | (refine y_q (h := ?_)) | (refine y_s (h := ?_)) | (refine y_t (h := ?_)) | (refine y_k (h := ?_)) | (refine lex_nil (by kernel_rfl) ?_) | (refine awp_sq ?_) | (refine awp_rg ?_) | (refine awp_rd (by kernel_rfl) (by kernel_rfl) ?_) | (refine awp_block ?_) | (refine awp_exit ?_) | (refine awp_ret ?_) | (refine awp_skip ?_))
  have cR' : fcmp .gtr .f64 (gapR (S.getD (0 + 0) 0) (hw .f32 (lsI p (xV more) p.length))) 4562254508917369340 = false := cR
  rw [cR']
  repeat (first | (refine x_q (h := ?_)) | (refine xd_q (h := ?_)) | (refine w_q (h := ?_)) | (refine w_s (h := ?_)) | (refine w_t (h := ?_)) | (refine w_k (h := ?_)) | (refine y_q (h := ?_)) | (refine y_s (h := ?_)) | (refine y_t (h := ?_)) | (refine y_k (h := ?_)) | (refine lex_nil (by kernel_rfl) ?_) | (refine awp_sq ?_) | (refine awp_rg ?_) | (refine awp_rd (by kernel_rfl) (by kernel_rfl) ?_) | (refine awp_block ?_) | (refine awp_exit ?_) | (refine awp_ret ?_) | (refine awp_skip ?_))
  refine awp_ifF rfl rfl ?_
  repeat (first | (refine x_q (h := ?_)) | (refine xd_q (h := ?_)) | (refine w_q (h := ?_)) | (refine w_s (h := ?_)) | (refine w_t (h := ?_)) | (refine w_k (h := ?_)) | (refine y_q (h := ?_)) | (refine y_s (h := ?_)) | (refine y_t (h := ?_)) | (refine y_k (h := ?_)) | (refine lex_nil (by kernel_rfl) ?_) | (refine awp_sq ?_) | (refine awp_rg ?_) | (refine awp_rd (by kernel_rfl) (by kernel_rfl) ?_) | (refine awp_block ?_) | (refine awp_exit ?_) | (refine awp_ret ?_) | (refine awp_skip ?_))
  refine awp_weak (fun i => i) [(1, .arg 1 (BY more)), (5, .t (.v (.int .i64 p.length))), (7, .own 42 0 p.length), (14, .own 87 0 S.length), (16, .own 93 0 S.length), (24, .own 117 0 G.length), (26, .t (.v (.int .i64 0)))] [(42, .sl 29 (.fl v)), (87, .sl 29 (.fl S)), (93, .sl 29 (.fl S)), (117, .sl 29 (.fl G))] (by repeat (first | exact trivial | refine ⟨rfl, ?_⟩)) (by repeat (first | exact trivial | refine ⟨rfl, ?_⟩)) (injOn_id _) ?_
  refine awp_loop (X := Nat) (fun i => i ≤ p.length) (fun i => [(1, .arg 1 (BY more)), (5, .t (.v (.int .i64 p.length))), (7, .own 42 0 p.length), (14, .own 87 0 S.length), (16, .own 93 0 S.length), (24, .own 117 0 G.length), (26, .t (.v (.int .i64 i)))])
    (fun i => [(42, .sl 29 (.fl v)), (87, .sl 29 (.fl S)), (93, .sl 29 (.fl S)), (117, .sl 29 (.fl G))]) (fun i => p.length - i)
    0 ⟨by omega, fun i => i, ⟨rfl, rfl, rfl, rfl, rfl, rfl, rfl, trivial⟩, ⟨rfl, rfl, rfl, rfl, trivial⟩, injOn_id _⟩ (fun i hi => ?_)
  repeat (first | (refine x_q (h := ?_)) | (refine xd_q (h := ?_)) | (refine w_q (h := ?_)) | (refine w_s (h := ?_)) | (refine w_t (h := ?_)) | (refine w_k (h := ?_)) | (refine y_q (h := ?_)) | (refine y_s (h := ?_)) | (refine y_t (h := ?_)) | (refine y_k (h := ?_)) | (refine lex_nil (by kernel_rfl) ?_) | (refine awp_sq ?_) | (refine awp_rg ?_) | (refine awp_rd (by kernel_rfl) (by kernel_rfl) ?_) | (refine awp_block ?_) | (refine awp_exit ?_) | (refine awp_ret ?_) | (refine awp_skip ?_))
  refine awp_if rfl (fun h => ?_) (fun h => ?_)
  · simp only [icmp, decide_eq_true_eq] at h
    have hi' : i < p.length := by omega
    have cUi : fcmp .neq .f32 (S.getD (0 + i) 0) (S.getD (0 + i) 0) = false := by rw [Nat.zero_add]; exact cU i hi'
    have cGi : fcmp .gtr .f64 (gapR (G.getD (0 + i) 0) (S.getD (0 + i) 0)) 4562254508917369340 = false := by rw [Nat.zero_add]; exact cG i hi'
    repeat (first | (refine x_q (h := ?_)) | (refine xd_q (h := ?_)) | (refine w_q (h := ?_)) | (refine w_s (h := ?_)) | (refine w_t (h := ?_)) | (refine w_k (h := ?_)) | (refine y_q (h := ?_)) | (refine y_s (h := ?_)) | (refine y_t (h := ?_)) | (refine y_k (h := ?_)) | (refine lex_nil (by kernel_rfl) ?_) | (refine awp_sq ?_) | (refine awp_rg ?_) | (refine awp_rd (by kernel_rfl) (by kernel_rfl) ?_) | (refine awp_block ?_) | (refine awp_exit ?_) | (refine awp_ret ?_) | (refine awp_skip ?_))
    rw [cUi]
    repeat (first | (refine x_q (h := ?_)) | (refine xd_q (h := ?_)) | (refine w_q (h := ?_)) | (refine w_s (h := ?_)) | (refine w_t (h := ?_)) | (refine w_k (h := ?_)) | (refine y_q (h := ?_)) | (refine y_s (h := ?_)) | (refine y_t (h := ?_)) | (refine y_k (h := ?_)) | (refine lex_nil (by kernel_rfl) ?_) | (refine awp_sq ?_) | (refine awp_rg ?_) | (refine awp_rd (by kernel_rfl) (by kernel_rfl) ?_) | (refine awp_block ?_) | (refine awp_exit ?_) | (refine awp_ret ?_) | (refine awp_skip ?_))
    (first | (refine c_q (gapc _ _) (h := ?_)) | (refine z_q (gapc _ _) (h := ?_)))
    repeat (first | (refine x_q (h := ?_)) | (refine xd_q (h := ?_)) | (refine w_q (h := ?_)) | (refine w_s (h := ?_)) | (refine w_t (h := ?_)) | (refine w_k (h := ?_)) | (refine y_q (h := ?_)) | (refine y_s (h := ?_)) | (refine y_t (h := ?_)) | (refine y_k (h := ?_)) | (refine lex_nil (by kernel_rfl) ?_) | (refine awp_sq ?_) | (refine awp_rg ?_) | (refine awp_rd (by kernel_rfl) (by kernel_rfl) ?_) | (refine awp_block ?_) | (refine awp_exit ?_) | (refine awp_ret ?_) | (refine awp_skip ?_))
    rw [cGi]
    repeat (first | (refine x_q (h := ?_)) | (refine xd_q (h := ?_)) | (refine w_q (h := ?_)) | (refine w_s (h := ?_)) | (refine w_t (h := ?_)) | (refine w_k (h := ?_)) | (refine y_q (h := ?_)) | (refine y_s (h := ?_)) | (refine y_t (h := ?_)) | (refine y_k (h := ?_)) | (refine lex_nil (by kernel_rfl) ?_) | (refine awp_sq ?_) | (refine awp_rg ?_) | (refine awp_rd (by kernel_rfl) (by kernel_rfl) ?_) | (refine awp_block ?_) | (refine awp_exit ?_) | (refine awp_ret ?_) | (refine awp_skip ?_))
    refine awp_ifF rfl rfl ?_
    repeat (first | (refine x_q (h := ?_)) | (refine xd_q (h := ?_)) | (refine w_q (h := ?_)) | (refine w_s (h := ?_)) | (refine w_t (h := ?_)) | (refine w_k (h := ?_)) | (refine y_q (h := ?_)) | (refine y_s (h := ?_)) | (refine y_t (h := ?_)) | (refine y_k (h := ?_)) | (refine lex_nil (by kernel_rfl) ?_) | (refine awp_sq ?_) | (refine awp_rg ?_) | (refine awp_rd (by kernel_rfl) (by kernel_rfl) ?_) | (refine awp_block ?_) | (refine awp_exit ?_) | (refine awp_ret ?_) | (refine awp_skip ?_))
    exact ⟨i + 1, by omega, by omega, fun i => i, ⟨rfl, rfl, rfl, rfl, rfl, rfl, iE (by omega), trivial⟩, ⟨rfl, rfl, rfl, rfl, trivial⟩, injOn_id _⟩
  simp only [icmp, decide_eq_false_iff_not] at h
  obtain rfl : i = p.length := by omega
  repeat (first | (refine x_q (h := ?_)) | (refine xd_q (h := ?_)) | (refine w_q (h := ?_)) | (refine w_s (h := ?_)) | (refine w_t (h := ?_)) | (refine w_k (h := ?_)) | (refine y_q (h := ?_)) | (refine y_s (h := ?_)) | (refine y_t (h := ?_)) | (refine y_k (h := ?_)) | (refine lex_nil (by kernel_rfl) ?_) | (refine awp_sq ?_) | (refine awp_rg ?_) | (refine awp_rd (by kernel_rfl) (by kernel_rfl) ?_) | (refine awp_block ?_) | (refine awp_exit ?_) | (refine awp_ret ?_) | (refine awp_skip ?_))
  (first | (refine c_q (t41) (h := ?_)) | (refine z_q (t41) (h := ?_)))
  repeat (first | (refine x_q (h := ?_)) | (refine xd_q (h := ?_)) | (refine w_q (h := ?_)) | (refine w_s (h := ?_)) | (refine w_t (h := ?_)) | (refine w_k (h := ?_)) | (refine y_q (h := ?_)) | (refine y_s (h := ?_)) | (refine y_t (h := ?_)) | (refine y_k (h := ?_)) | (refine lex_nil (by kernel_rfl) ?_) | (refine awp_sq ?_) | (refine awp_rg ?_) | (refine awp_rd (by kernel_rfl) (by kernel_rfl) ?_) | (refine awp_block ?_) | (refine awp_exit ?_) | (refine awp_ret ?_) | (refine awp_skip ?_))
  rw [hie]
  repeat (first | (refine x_q (h := ?_)) | (refine xd_q (h := ?_)) | (refine w_q (h := ?_)) | (refine w_s (h := ?_)) | (refine w_t (h := ?_)) | (refine w_k (h := ?_)) | (refine y_q (h := ?_)) | (refine y_s (h := ?_)) | (refine y_t (h := ?_)) | (refine y_k (h := ?_)) | (refine lex_nil (by kernel_rfl) ?_) | (refine awp_sq ?_) | (refine awp_rg ?_) | (refine awp_rd (by kernel_rfl) (by kernel_rfl) ?_) | (refine awp_block ?_) | (refine awp_exit ?_) | (refine awp_ret ?_) | (refine awp_skip ?_))
  (first | (refine c_s (tM) (h := ?_)) | (refine z_s (tM) (h := ?_)))
  repeat (first | (refine x_q (h := ?_)) | (refine xd_q (h := ?_)) | (refine w_q (h := ?_)) | (refine w_s (h := ?_)) | (refine w_t (h := ?_)) | (refine w_k (h := ?_)) | (refine y_q (h := ?_)) | (refine y_s (h := ?_)) | (refine y_t (h := ?_)) | (refine y_k (h := ?_)) | (refine lex_nil (by kernel_rfl) ?_) | (refine awp_sq ?_) | (refine awp_rg ?_) | (refine awp_rd (by kernel_rfl) (by kernel_rfl) ?_) | (refine awp_block ?_) | (refine awp_exit ?_) | (refine awp_ret ?_) | (refine awp_skip ?_))
  refine awp_ifF rfl rfl ?_
  repeat (first | (refine x_q (h := ?_)) | (refine xd_q (h := ?_)) | (refine w_q (h := ?_)) | (refine w_s (h := ?_)) | (refine w_t (h := ?_)) | (refine w_k (h := ?_)) | (refine y_q (h := ?_)) | (refine y_s (h := ?_)) | (refine y_t (h := ?_)) | (refine y_k (h := ?_)) | (refine lex_nil (by kernel_rfl) ?_) | (refine awp_sq ?_) | (refine awp_rg ?_) | (refine awp_rd (by kernel_rfl) (by kernel_rfl) ?_) | (refine awp_block ?_) | (refine awp_exit ?_) | (refine awp_ret ?_) | (refine awp_skip ?_))
  refine awp_loop (X := Nat) (fun i => i ≤ p.length) (fun i => [(5, .t (.v (.int .i64 p.length))), (7, .own 42 0 p.length), (27, .t (.f .f32 (hw .f32 (2 * (ht : Int))))), (28, .t (.f .f32 (fop .sub .f32 (hw .f32 (2 * (ht : Int))) md))), (29, .own 224 0 L.length), (31, .t (.f .f64 (t64 L i))), (32, .t (.v (.int .i64 i)))])
    (fun i => [(42, .sl 29 (.fl v)), (224, .sl 29 (.fl L))]) (fun i => p.length - i)
    0 ⟨by omega, fun i => i, ⟨rfl, rfl, rfl, rfl, rfl, rfl, rfl, trivial⟩, ⟨rfl, rfl, trivial⟩, injOn_id _⟩ (fun i hi => ?_)
  repeat (first | (refine x_q (h := ?_)) | (refine xd_q (h := ?_)) | (refine w_q (h := ?_)) | (refine w_s (h := ?_)) | (refine w_t (h := ?_)) | (refine w_k (h := ?_)) | (refine y_q (h := ?_)) | (refine y_s (h := ?_)) | (refine y_t (h := ?_)) | (refine y_k (h := ?_)) | (refine lex_nil (by kernel_rfl) ?_) | (refine awp_sq ?_) | (refine awp_rg ?_) | (refine awp_rd (by kernel_rfl) (by kernel_rfl) ?_) | (refine awp_block ?_) | (refine awp_exit ?_) | (refine awp_ret ?_) | (refine awp_skip ?_))
  refine awp_if rfl (fun h => ?_) (fun h => ?_)
  · simp only [icmp, decide_eq_true_eq] at h
    have hi' : i < p.length := by omega
    have cMi : fcmp .gtr .f64 (gapR (fop .sub .f32 (L.getD (0 + i) 0) (v.getD (0 + i) 0)) (fop .sub .f32 (hw .f32 (2 * (ht : Int))) (fop .sub .f32 (hw .f32 (2 * (ht : Int))) md))) 4562254508917369340 = false := by rw [Nat.zero_add]; exact cM i hi'
    repeat (first | (refine x_q (h := ?_)) | (refine xd_q (h := ?_)) | (refine w_q (h := ?_)) | (refine w_s (h := ?_)) | (refine w_t (h := ?_)) | (refine w_k (h := ?_)) | (refine y_q (h := ?_)) | (refine y_s (h := ?_)) | (refine y_t (h := ?_)) | (refine y_k (h := ?_)) | (refine lex_nil (by kernel_rfl) ?_) | (refine awp_sq ?_) | (refine awp_rg ?_) | (refine awp_rd (by kernel_rfl) (by kernel_rfl) ?_) | (refine awp_block ?_) | (refine awp_exit ?_) | (refine awp_ret ?_) | (refine awp_skip ?_))
    (first | (refine c_q (gapc _ _) (h := ?_)) | (refine z_q (gapc _ _) (h := ?_)))
    repeat (first | (refine x_q (h := ?_)) | (refine xd_q (h := ?_)) | (refine w_q (h := ?_)) | (refine w_s (h := ?_)) | (refine w_t (h := ?_)) | (refine w_k (h := ?_)) | (refine y_q (h := ?_)) | (refine y_s (h := ?_)) | (refine y_t (h := ?_)) | (refine y_k (h := ?_)) | (refine lex_nil (by kernel_rfl) ?_) | (refine awp_sq ?_) | (refine awp_rg ?_) | (refine awp_rd (by kernel_rfl) (by kernel_rfl) ?_) | (refine awp_block ?_) | (refine awp_exit ?_) | (refine awp_ret ?_) | (refine awp_skip ?_))
    rw [cMi]
    repeat (first | (refine x_q (h := ?_)) | (refine xd_q (h := ?_)) | (refine w_q (h := ?_)) | (refine w_s (h := ?_)) | (refine w_t (h := ?_)) | (refine w_k (h := ?_)) | (refine y_q (h := ?_)) | (refine y_s (h := ?_)) | (refine y_t (h := ?_)) | (refine y_k (h := ?_)) | (refine lex_nil (by kernel_rfl) ?_) | (refine awp_sq ?_) | (refine awp_rg ?_) | (refine awp_rd (by kernel_rfl) (by kernel_rfl) ?_) | (refine awp_block ?_) | (refine awp_exit ?_) | (refine awp_ret ?_) | (refine awp_skip ?_))
    refine awp_ifF rfl rfl ?_
    repeat (first | (refine x_q (h := ?_)) | (refine xd_q (h := ?_)) | (refine w_q (h := ?_)) | (refine w_s (h := ?_)) | (refine w_t (h := ?_)) | (refine w_k (h := ?_)) | (refine y_q (h := ?_)) | (refine y_s (h := ?_)) | (refine y_t (h := ?_)) | (refine y_k (h := ?_)) | (refine lex_nil (by kernel_rfl) ?_) | (refine awp_sq ?_) | (refine awp_rg ?_) | (refine awp_rd (by kernel_rfl) (by kernel_rfl) ?_) | (refine awp_block ?_) | (refine awp_exit ?_) | (refine awp_ret ?_) | (refine awp_skip ?_))
    exact ⟨i + 1, by omega, by omega, fun i => i, ⟨rfl, rfl, rfl, rfl, rfl, fE2 (by rw [Nat.zero_add]; rfl), iE (by omega), trivial⟩, ⟨rfl, rfl, trivial⟩, injOn_id _⟩
  simp only [icmp, decide_eq_false_iff_not] at h
  obtain rfl : i = p.length := by omega
  repeat (first | (refine x_q (h := ?_)) | (refine xd_q (h := ?_)) | (refine w_q (h := ?_)) | (refine w_s (h := ?_)) | (refine w_t (h := ?_)) | (refine w_k (h := ?_)) | (refine y_q (h := ?_)) | (refine y_s (h := ?_)) | (refine y_t (h := ?_)) | (refine y_k (h := ?_)) | (refine lex_nil (by kernel_rfl) ?_) | (refine awp_sq ?_) | (refine awp_rg ?_) | (refine awp_rd (by kernel_rfl) (by kernel_rfl) ?_) | (refine awp_block ?_) | (refine awp_exit ?_) | (refine awp_ret ?_) | (refine awp_skip ?_))
  (first | (refine w_r (q_cv_ff tyOk rfl rfl rfl rfl rfl (by decide) rfl hnar) (h := ?_)) | (refine y_r (q_cv_ff tyOk rfl rfl rfl rfl rfl (by decide) rfl hnar) (h := ?_)))
  repeat (first | (refine x_q (h := ?_)) | (refine xd_q (h := ?_)) | (refine w_q (h := ?_)) | (refine w_s (h := ?_)) | (refine w_t (h := ?_)) | (refine w_k (h := ?_)) | (refine y_q (h := ?_)) | (refine y_s (h := ?_)) | (refine y_t (h := ?_)) | (refine y_k (h := ?_)) | (refine lex_nil (by kernel_rfl) ?_) | (refine awp_sq ?_) | (refine awp_rg ?_) | (refine awp_rd (by kernel_rfl) (by kernel_rfl) ?_) | (refine awp_block ?_) | (refine awp_exit ?_) | (refine awp_ret ?_) | (refine awp_skip ?_))
  (first | (refine c_q (gapc _ _) (h := ?_)) | (refine z_q (gapc _ _) (h := ?_)))
  repeat (first | (refine x_q (h := ?_)) | (refine xd_q (h := ?_)) | (refine w_q (h := ?_)) | (refine w_s (h := ?_)) | (refine w_t (h := ?_)) | (refine w_k (h := ?_)) | (refine y_q (h := ?_)) | (refine y_s (h := ?_)) | (refine y_t (h := ?_)) | (refine y_k (h := ?_)) | (refine lex_nil (by kernel_rfl) ?_) | (refine awp_sq ?_) | (refine awp_rg ?_) | (refine awp_rd (by kernel_rfl) (by kernel_rfl) ?_) | (refine awp_block ?_) | (refine awp_exit ?_) | (refine awp_ret ?_) | (refine awp_skip ?_))
  rw [cL]
  repeat (first | (refine x_q (h := ?_)) | (refine xd_q (h := ?_)) | (refine w_q (h := ?_)) | (refine w_s (h := ?_)) | (refine w_t (h := ?_)) | (refine w_k (h := ?_)) | (refine y_q (h := ?_)) | (refine y_s (h := ?_)) | (refine y_t (h := ?_)) | (refine y_k (h := ?_)) | (refine lex_nil (by kernel_rfl) ?_) | (refine awp_sq ?_) | (refine awp_rg ?_) | (refine awp_rd (by kernel_rfl) (by kernel_rfl) ?_) | (refine awp_block ?_) | (refine awp_exit ?_) | (refine awp_ret ?_) | (refine awp_skip ?_))
  (refine ret_ok tyOk (by first | exact .inr rfl | exact .inl rfl) pi0 rfl (by first | exact .cons (by first | exact .tmp | exact .cell rfl rfl rfl rfl rfl rfl | exact .cell1 rfl rfl rfl rfl rfl) .nil | exact .cons (by first | exact .tmp | exact .cell rfl rfl rfl rfl rfl rfl | exact .cell1 rfl rfl rfl rfl rfl) (.cons (by first | exact .tmp | exact .cell rfl rfl rfl rfl rfl rfl | exact .cell1 rfl rfl rfl rfl rfl) .nil) | exact .cons (by first | exact .tmp | exact .cell rfl rfl rfl rfl rfl rfl | exact .cell1 rfl rfl rfl rfl rfl) (.cons (by first | exact .tmp | exact .cell rfl rfl rfl rfl rfl rfl | exact .cell1 rfl rfl rfl rfl rfl) (.cons (by first | exact .tmp | exact .cell rfl rfl rfl rfl rfl rfl | exact .cell1 rfl rfl rfl rfl rfl) .nil)) | exact .cons (by first | exact .tmp | exact .cell rfl rfl rfl rfl rfl rfl | exact .cell1 rfl rfl rfl rfl rfl) (.cons (by first | exact .tmp | exact .cell rfl rfl rfl rfl rfl rfl | exact .cell1 rfl rfl rfl rfl rfl) (.cons (by first | exact .tmp | exact .cell rfl rfl rfl rfl rfl rfl | exact .cell1 rfl rfl rfl rfl rfl) (.cons (by first | exact .tmp | exact .cell rfl rfl rfl rfl rfl rfl | exact .cell1 rfl rfl rfl rfl rfl) .nil)))) ?_ trivial (injO_0 _); (repeat' (first | exact RetRelL.nil | (refine RetRel.nil rfl ?_) | refine RetRelL.cons ?_ ?_ | refine rr_tup ?_ | refine rr_agg ?_ | refine rr_own rfl ?_ | exact RetRel.arg | exact RetRel.argc | refine rr_t ?_)); all_goals rfl)
end Go.Proofs.Ytjjpjnhjnpplcaa
