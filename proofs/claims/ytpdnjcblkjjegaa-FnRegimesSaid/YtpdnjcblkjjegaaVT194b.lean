import Derived.Test.YtpdnjcblkjjegaaVT188
import Derived.Test.YtpdnjcblkjjegaaVT94
import Derived.Test.YtpdnjcblkjjegaaVT118n
set_option linter.unusedVariables false
set_option linter.unusedSimpArgs false
set_option maxRecDepth 100000
set_option maxHeartbeats 8000000
namespace Go.Proofs.Ytpdnjcblkjjegaa
open Go.Aw

/-! ### regimes that are drawn, as data -/
theorem own_flj {args : List Value} {w w' : World} {μ : Nat → Option Nat} {ok : Nat → Prop} {hs : List (Nat × Blk)} {j : Nat} {e : TypeId} {l : List Nat} {n : Nat} {y : Value} (hc : HC ⟨args, w.heap.size, noLoan⟩ w μ (lkH hs) w') (hj : lkH hs j = some (.sl e (.fl l)))
    (hr : RRel args w' μ ok (.own j n) y) (hn : n = l.length) : TR w' (okF ⟨args, w.heap.size, noLoan⟩ (okOf (fun _ => none) (lkH []))) (.fl l) y := by
  rw [TR]
  refine gf_fl ?_
  rw [RRel.eq_def] at hr
  simp only [] at hr
  rw [TR]
  obtain ⟨hsl, hB⟩ := hc.blk j _ hj
  rcases hr with ⟨h1, h2, rfl⟩ | ⟨b, cap, e1, m, hb, rfl, hs, hcap, hle⟩
  · exact ⟨none, 0, 0, rfl, by omega, Nat.le_refl _, .inl rfl⟩
  · rcases hB with ⟨h0, _⟩ | ⟨b', cs, hb', hbase, hw, hlen, hcs⟩
    · rw [h0] at hb; cases hb
    · rw [hb] at hb'; cases hb'
      rw [size_shape hw] at hs; cases hs
      refine ⟨_, _, _, rfl, hn, hle, .inr ⟨b, cs, e, rfl, (Array.getElem?_eq_some_iff.1 hw).1, ⟨fun i hi => by simp [lkH] at hi, hbase.elim .inl False.elim⟩, hw, hcap, fun i hi => ?_⟩⟩
      have hi' : i < l.length := by omega
      obtain ⟨x, hx, hr⟩ := ((TRl_iff ..).1 hcs).2 i (.f .f32 l[i]) (by simp [T.elems, hi'])
      rw [List.getElem?_take] at hx
      split at hx
      · rw [TR] at hr
        obtain ⟨z, rfl, hf⟩ := hr
        exact ⟨z, by simpa using hx, by simpa [List.getD_eq_getElem?_getD, hi'] using hf⟩
      · cases hx
theorem tcall_r4 {P : Program} {f : FuncId} {ts : List T} {e : TypeId} {a b c d : List Nat} {n0 n1 n2 n3 : Nat} (h : TCall P f ts (.agg [.own 0 n0, .own 1 n1, .own 2 n2, .own 3 n3]) [(0, .sl e (.fl a)), (1, .sl e (.fl b)), (2, .sl e (.fl c)), (3, .sl e (.fl d))])
    (h0 : n0 = a.length) (h1 : n1 = b.length) (h2 : n2 = c.length) (h3 : n3 = d.length) : TCall P f ts (.t (R4 a b c d)) [] := by
  refine ⟨h.1, fun w args ha => (h.2 w args ha).mono ?_⟩
  rintro e' w' ⟨y, μ, rfl, hc, hr⟩
  refine ⟨y, fun _ => none, rfl, hc_none hc, ?_⟩
  rw [RRel] at hr
  obtain ⟨xs, rfl, hr⟩ := hr
  simp only [RRell] at hr
  obtain ⟨x1, r1, e1, g1, x2, r2, e2, g2, x3, r3, e3, g3, x4, r4, e4, g4, e5⟩ := hr
  rw [RRel, TR]
  refine ⟨xs, rfl, ?_⟩
  rw [e1, e2, e3, e4, e5]
  simp only [TRl]
  exact ⟨_, _, rfl, own_flj hc rfl g1 h0, _, _, rfl, own_flj hc rfl g2 h1, _, _, rfl, own_flj hc rfl g3 h2, _, _, rfl, own_flj hc rfl g4 h3, rfl⟩
attribute [local irreducible] QRun LexD AWp TCall TMut PBox PBoxM fop fint fcmp fconv hw dvD rwL rgA rgB rgC rgD rgN rgP q4
theorem b10Reg_c {l : List Nat} (h : Byt l) : TCall Try.prog 6 [BY l] (.agg [.own 0 (rgN l), .own 1 (rgN l), .own 2 (rgN l), .own 3 (rgN l * rgN l)])
      [(0, .sl 30 (.fl (rgA l (rgN l)))), (1, .sl 30 (.fl (rgB l (rgN l)))), (2, .sl 30 (.fl (rgC l))), (3, .sl 30 (.fl (rgD l (rgN l))))] := by
  refine tcall_of Try.func6 rfl (by kernel_rfl) (Nat.le_of_ble_eq_true rfl) rfl ?_
  simp only [argsL, argAV, argCs, argS]
  repeat (first | refine w_q ?_ | refine w_s ?_ | refine w_t ?_ | refine w_k ?_ | refine y_q ?_ | refine y_s ?_ | refine y_t ?_ | refine y_k ?_ | refine u_n ?_ | refine u_q ?_ | refine u_g ?_ | refine u_d ?_ | refine u_b ?_ | refine u_x ?_ | refine u_r ?_ | refine u_s ?_)
  (refine w_rs (q_from (from_n) rfl rfl rfl rfl) (hH := by first | (simp only [scrubF, scrubHL, scrub, scrubL, scrubB, cB, List.map, cblk, cids, cid, relab, sg, List.contains_cons, List.contains_nil, Nat.reduceBEq, Bool.or_false, Bool.or_true, cond_true, cond_false, List.cons_append, List.nil_append, Nat.reduceMul, Nat.reduceAdd, List.set, List.take, List.drop, List.length, List.append_nil]; rfl) | rfl) (h := ?_))
  repeat (first | refine w_q ?_ | refine w_s ?_ | refine w_t ?_ | refine w_k ?_ | refine y_q ?_ | refine y_s ?_ | refine y_t ?_ | refine y_k ?_ | refine u_n ?_ | refine u_q ?_ | refine u_g ?_ | refine u_d ?_ | refine u_b ?_ | refine u_x ?_ | refine u_r ?_ | refine u_s ?_)
  (refine w_rs (q_dev (drawReg_c h) rfl rfl rfl rfl rfl rfl rfl rfl rfl rfl rfl) (hH := by first | (simp only [scrubF, scrubHL, scrub, scrubL, scrubB, cB, List.map, cblk, cids, cid, relab, sg, List.contains_cons, List.contains_nil, Nat.reduceBEq, Bool.or_false, Bool.or_true, cond_true, cond_false, List.cons_append, List.nil_append, Nat.reduceMul, Nat.reduceAdd, List.set, List.take, List.drop, List.length, List.append_nil]; rfl) | rfl) (h := ?_))
  repeat (first | refine w_q ?_ | refine w_s ?_ | refine w_t ?_ | refine w_k ?_ | refine y_q ?_ | refine y_s ?_ | refine y_t ?_ | refine y_k ?_ | refine u_n ?_ | refine u_q ?_ | refine u_g ?_ | refine u_d ?_ | refine u_b ?_ | refine u_x ?_ | refine u_r ?_ | refine u_s ?_)
  refine ret_ok tyOk (by first | exact .inr rfl | exact .inl rfl) (piL [(0, 7), (1, 1007), (2, 2007), (3, 3007)]) rfl (by repeat (first | exact .nil | (apply ResAl.cons; first | exact .tmp | exact .cell rfl rfl rfl rfl rfl rfl | exact .cell1 rfl rfl rfl rfl rfl))) ?_ ⟨rfl, rfl, rfl, rfl, trivial⟩ (injO_dec rfl)
  repeat' (first | exact RetRelL.nil | refine RetRel.nil rfl ?_ | refine RetRelL.cons ?_ ?_ | refine rr_tup ?_ | refine rr_agg ?_ | refine rr_own rfl ?_ | exact RetRel.arg | exact RetRel.argc | refine rr_t ?_)
  all_goals rfl
theorem b10Reg_t {l : List Nat} (h : Byt l) : TCall Try.prog 6 [BY l] (.t (R4 (rgA l (rgN l)) (rgB l (rgN l)) (rgC l) (rgD l (rgN l)))) [] :=
  tcall_r4 (b10Reg_c h) (rgA_len l _).symm (rgB_len l _).symm (rgC_len l).symm (rgD_len l _).symm
end Go.Proofs.Ytpdnjcblkjjegaa

set_option linter.unusedVariables false
set_option linter.unusedSimpArgs false
set_option maxRecDepth 100000
set_option maxHeartbeats 8000000
namespace Go.Proofs.Ytpdnjcblkjjegaa
open Go.Aw

/-! ### regimes that are drawn are valid -/
def rw0 (vs : List Nat) : Nat → Nat
  | 0 => 0
  | j + 1 => fop .add .f32 (rw0 vs j) (fint .f32 (1 + (vs.getD j 0 : Nat)))
def rw1 (vs : List Nat) : List Nat := (List.range vs.length).map fun j => fop .quo .f32 (fint .f32 (1 + (vs.getD j 0 : Nat))) (rw0 vs vs.length)
def rwOk (vs : List Nat) : Bool := chOk (rw1 vs) && (rw1 vs).all fun x => decide (x ≤ I1)
theorem rw_tab1 : (List.range 6).all (fun x => rwOk [x]) = true := by decide +kernel
theorem rw_tab2 : (List.range 6).all (fun x => (List.range 6).all fun y => rwOk [x, y]) = true := by decide +kernel
theorem rw_tab3 : (List.range 6).all (fun x => (List.range 6).all fun y => (List.range 6).all fun z => rwOk [x, y, z]) = true := by decide +kernel
theorem rw_all {vs : List Nat} (h1 : 1 ≤ vs.length) (h3 : vs.length ≤ 3) (h : ∀ x ∈ vs, x < 6) : rwOk vs = true := by
  match vs, h1, h3, h with
  | [x], _, _, h => exact List.all_eq_true.1 rw_tab1 x (List.mem_range.2 (h x (by simp)))
  | [x, y], _, _, h => exact List.all_eq_true.1 (List.all_eq_true.1 rw_tab2 x (List.mem_range.2 (h x (by simp)))) y (List.mem_range.2 (h y (by simp)))
  | [x, y, z], _, _, h => exact List.all_eq_true.1 (List.all_eq_true.1 (List.all_eq_true.1 rw_tab3 x (List.mem_range.2 (h x (by simp)))) y (List.mem_range.2 (h y (by simp)))) z (List.mem_range.2 (h z (by simp)))
  | x :: y :: z :: u :: r, _, h3, _ => simp at h3
def dvV (l : List Nat) (k n : Nat) : List Nat := (List.range n).map fun j => (dvD l (k + j) 6).toNat
theorem dvV_get {l : List Nat} {k n j : Nat} (h : Byt l) (hj : j < n) : ((dvV l k n).getD j 0 : Int) = dvD l (k + j) 6 := by
  have := dvD_rng h (k + j) (n := 6) (by omega)
  have e : (dvV l k n).getD j 0 = (dvD l (k + j) 6).toNat := getD_mapR _ hj
  rw [e]; omega
theorem rwL_eq {l : List Nat} (h : Byt l) (k n : Nat) : rwL l k n = rw1 (dvV l k n) := by
  have hl : (dvV l k n).length = n := by simp [dvV]
  have hS : ∀ j, j ≤ n → rwS l k j = rw0 (dvV l k n) j := fun j => by
    induction j with
    | zero => intro _; rfl
    | succ j ih => intro hj; rw [rwS, rw0, ih (by omega), dvV_get h (by omega)]; rfl
  unfold rwL rw1
  rw [hl]
  refine List.map_congr_left fun j hj => ?_
  have hj' := List.mem_range.1 hj
  unfold rwQ rwA
  rw [hS n (Nat.le_refl _), dvV_get h hj']
theorem rwL_ok {l : List Nat} (h : Byt l) (k : Nat) {n : Nat} (h1 : 1 ≤ n) (h3 : n ≤ 3) : chOk (rwL l k n) = true ∧ ∀ j, j < n → (rwL l k n).getD j 0 ≤ I1 := by
  have hl : (dvV l k n).length = n := by simp [dvV]
  have := rw_all (vs := dvV l k n) (by omega) (by omega) (fun x hx => by
    obtain ⟨j, _, rfl⟩ := List.mem_map.1 hx
    have := dvD_rng h (k + j) (n := 6) (by omega)
    omega)
  unfold rwOk at this
  rw [← rwL_eq h, Bool.and_eq_true] at this
  refine ⟨this.1, fun j hj => ?_⟩
  have hjl : j < (rwL l k n).length := by rw [rwL_len]; exact hj
  have h2 := List.all_eq_true.1 this.2 _ (List.getElem_mem hjl)
  rw [List.getD_eq_getElem?_getD, List.getElem?_eq_getElem hjl]
  exact of_decide_eq_true h2
theorem rgD_row (l : List Nat) {i m : Nat} (h : i < m) : rowR (rgD l m) (rgN l) i = rwL l (rgP l i + 2) (rgN l) := by
  unfold rowR
  induction m with
  | zero => omega
  | succ m ih =>
    rcases Nat.lt_or_ge i m with hi | hi
    · have hlen := rgD_len l m
      have m3 : (i + 1) * rgN l ≤ m * rgN l := Nat.mul_le_mul_right _ hi
      rw [rgD, List.take_append_of_le_length (by omega)]
      exact ih hi
    · obtain rfl : i = m := by omega
      have hlen := rgD_len l i
      rw [rgD, List.take_of_length_le (by rw [List.length_append, hlen, rwL_len, Nat.add_mul, Nat.one_mul]; exact Nat.le_refl _)]
      rw [← hlen, List.drop_left]
theorem rgD_get (l : List Nat) {i j m : Nat} (h : i < m) (hj : j < rgN l) : (rgD l m).getD (i * rgN l + j) 0 = (rwL l (rgP l i + 2) (rgN l)).getD j 0 := by
  rw [← rgD_row l h]
  unfold rowR
  have m4 : (i + 1) * rgN l = i * rgN l + rgN l := by rw [Nat.add_mul, Nat.one_mul]
  simp only [List.getD_eq_getElem?_getD, List.getElem?_drop]
  rw [List.getElem?_take_of_lt (by omega)]
theorem fin_q4 {x : Int} (h : -32 ≤ x ∧ x ≤ 32) : fin (q4 x) = true := finB_Fn (q4_rv h).1
theorem drawn_I {code more : List Nat} (h : Byt code) (h' : Byt more) {m : Nat} (hm : 1 ≤ m ∧ m ≤ 12) : RgI (rgA code (rgN code)) (rgB code (rgN code)) (rgC code) (rgD code (rgN code)) (l3L more m) := by
  have hN := rgN_b h
  have lA := rgA_len code (rgN code)
  have lB := rgB_len code (rgN code)
  have lC := rgC_len code
  have lD := rgD_len code (rgN code)
  have lS := l3L_len more m
  refine ⟨by omega, by omega, by omega, by omega, by rw [lD, lA], fun i hi => ?_, fun i hi => ?_, fun i hi => ?_, fun i hi => ?_, fun i hi => ?_, by omega, by omega⟩
  · have := dvD_rng h (rgP code i) (n := 17) (by omega)
    exact ⟨dvD code (rgP code i) 17 - 8, by omega, by omega, getD_mapR _ (by omega)⟩
  · have := dvD_rng h (rgP code i + 1) (n := 8) (by omega)
    exact ⟨1 + dvD code (rgP code i + 1) 8, by omega, by omega, getD_mapR _ (by omega)⟩
  · rw [← rgC_d]; exact (rwL_ok h 1 hN.1 hN.2).2 i (by omega)
  · rw [lA] at hi
    have e : i = i / rgN code * rgN code + i % rgN code := (Nat.div_add_mod' i (rgN code)).symm
    have h1 : i % rgN code < rgN code := Nat.mod_lt _ (by omega)
    have h2 : i / rgN code < rgN code := Nat.div_lt_of_lt_mul hi
    rw [e, rgD_get code h2 h1]
    exact (rwL_ok h _ hN.1 hN.2).2 _ h1
  · have := dvD_rng h' i (n := 33) (by omega)
    exact ⟨dvD more i 33 - 16, by omega, by omega, l3L_get (by omega)⟩
theorem drawn_V {code : List Nat} (h : Byt code) : valR4 (rgA code (rgN code)) (rgB code (rgN code)) (rgC code) (rgD code (rgN code)) = true := by
  have hN := rgN_b h
  have lA := rgA_len code (rgN code)
  have lB := rgB_len code (rgN code)
  have lC := rgC_len code
  have lD := rgD_len code (rgN code)
  have hI := drawn_I (more := code) (m := 1) h h ⟨by omega, by omega⟩
  simp only [valR4, Bool.and_eq_true, decide_eq_true_eq, and_assoc]
  refine ⟨by omega, by omega, by omega, by omega, by rw [lD, lA], ?_, hI.babove, ?_, ?_⟩
  · refine List.all_eq_true.2 fun x hx => ?_
    obtain ⟨i, hi, rfl⟩ := List.mem_map.1 hx
    have := dvD_rng h (rgP code i) (n := 17) (by omega)
    exact fin_q4 (by omega)
  · rw [← rgC_d]; exact (rwL_ok h 1 hN.1 hN.2).1
  · refine List.all_eq_true.2 fun i hi => ?_
    rw [lA] at hi ⊢
    rw [rgD_row code (List.mem_range.1 hi)]
    exact (rwL_ok h _ hN.1 hN.2).1
theorem drawn_ser {more : List Nat} (h : Byt more) {m : Nat} (hm : 1 ≤ m ∧ m ≤ 12) : isSer (l3L more m) = true := by
  have lS := l3L_len more m
  unfold isSer
  rw [Bool.and_eq_true, Bool.and_eq_true, decide_eq_true_eq, decide_eq_true_eq]
  refine ⟨⟨by omega, by omega⟩, List.all_eq_true.2 fun x hx => ?_⟩
  obtain ⟨i, hi, rfl⟩ := List.mem_map.1 hx
  have := dvD_rng h i (n := 33) (by omega)
  exact fin_q4 (by omega)
end Go.Proofs.Ytpdnjcblkjjegaa

