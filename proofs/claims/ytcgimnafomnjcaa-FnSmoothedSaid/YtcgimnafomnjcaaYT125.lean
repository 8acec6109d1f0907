import Derived.Test.YtcgimnafomnjcaaYT124
set_option linter.unusedVariables false
set_option linter.unusedSimpArgs false
set_option maxRecDepth 20000
set_option maxHeartbeats 8000000
namespace Go.Proofs.Ytcgimnafomnjcaa
open Go.Aw

/-! ### the straight line goes on -/
theorem one_tab : (List.range 9).all (fun s => decide (fop .mul .f32 1065353216 (hw .f32 ((s : Int) - 4)) = hw .f32 ((s : Int) - 4))) = true := by decide +kernel
theorem one_mul {s : Int} (h : -4 ≤ s ∧ s ≤ 4) : fop .mul .f32 1065353216 (hw .f32 s) = hw .f32 s := by
  obtain ⟨n, hn⟩ : ∃ n : Nat, s = (n : Int) - 4 := ⟨(s + 4).toNat, by omega⟩
  have := List.all_eq_true.1 one_tab n (List.mem_range.2 (by omega))
  subst hn
  simpa using this
theorem hw0 : (0 : Nat) = hw .f32 0 := by decide +kernel
theorem s_mul {s : Int} (h : -4 ≤ s ∧ s ≤ 4) {n : Nat} (hn : n ≤ 12) : -48 ≤ s * n ∧ s * n ≤ 48 := by
  have : s = -4 ∨ s = -3 ∨ s = -2 ∨ s = -1 ∨ s = 0 ∨ s = 1 ∨ s = 2 ∨ s = 3 ∨ s = 4 := by omega
  rcases this with rfl | rfl | rfl | rfl | rfl | rfl | rfl | rfl | rfl <;> omega
theorem s_suc (s : Int) (n : Nat) : s * ((n + 1 : Nat) : Int) = s * n + s := by
  rw [show ((n + 1 : Nat) : Int) = (n : Int) + 1 from rfl, Int.mul_add, Int.mul_one]
/-- the list behind the first -/
theorem lin_tail {L s : Int} {i : Nat} (h : i < 7) : ((linL L s 8).drop 1).getD i 0 = hw .f32 (L + s * ((i + 1 : Nat) : Int)) := by
  rw [List.getD_eq_getElem?_getD, List.getElem?_drop, ← List.getD_eq_getElem?_getD, Nat.add_comm 1 i]
  exact linL_get (by omega)
/-- one shares that keep all of the slope -/
def st1 (l : List Nat) : SH := ⟨(shD l).l, (shD l).s, (shD l).c, 1065353216⟩
def lnS (L s : Int) (i : Nat) : ST := ⟨hw .f32 (L + s * i), hw .f32 s, [0], 0⟩
theorem ln_guess {l : List Nat} {L s : Int} (hL : -40 ≤ L ∧ L ≤ 40) (hs : -4 ≤ s ∧ s ≤ 4) {i : Nat} (hi : i ≤ 8) : gsF (lnS L s i) (st1 l) = hw .f32 (L + s * ((i + 1 : Nat) : Int)) := by
  have h1 := s_mul hs (n := i) (by omega)
  have h2 := s_mul hs (n := i + 1) (by omega)
  have h3 := s_suc s i
  show fop .add .f32 (fop .add .f32 (hw .f32 (L + s * i)) (fop .mul .f32 1065353216 (hw .f32 s))) 0 = _
  rw [one_mul hs, hw_add .f32 (by omega) (by omega) (by omega)]
  rw [show ∀ x, fop .add .f32 x 0 = fop .add .f32 x (hw .f32 0) from fun x => by rw [← hw0], hw_add .f32 (by omega) (by omega) (by omega), h3]
  congr 1
  omega
theorem ln_step {l : List Nat} (h : Byt l) {L s : Int} (hL : -40 ≤ L ∧ L ≤ 40) (hs : -4 ≤ s ∧ s ≤ 4) {i : Nat} (hi : i < 7) : nxF (lnS L s i) (st1 l) (((linL L s 8).drop 1).getD i 0) = lnS L s (i + 1) := by
  have h1 := s_mul hs (n := i) (by omega)
  have h2 := s_mul hs (n := i + 1) (by omega)
  have h3 := s_suc s i
  obtain ⟨z1, z2, z3⟩ := shD_0 h
  have he : erF (lnS L s i) (st1 l) (((linL L s 8).drop 1).getD i 0) = 0 := by
    unfold erF
    rw [ln_guess hL hs (by omega), lin_tail hi, hw_sub .f32 (by omega) (by omega) (by omega), Int.sub_self, ← hw0]
  have e1 : fop .add .f32 (fop .add .f32 (hw .f32 (L + s * i)) (fop .mul .f32 1065353216 (hw .f32 s))) (fop .mul .f32 (shD l).l 0) = hw .f32 (L + s * ((i + 1 : Nat) : Int)) := by
    rw [z1, one_mul hs, hw_add .f32 (by omega) (by omega) (by omega)]
    rw [show ∀ x, fop .add .f32 x 0 = fop .add .f32 x (hw .f32 0) from fun x => by rw [← hw0], hw_add .f32 (by omega) (by omega) (by omega), h3]
    congr 1
    omega
  have e2 : fop .add .f32 (fop .mul .f32 1065353216 (hw .f32 s)) (fop .mul .f32 (fop .mul .f32 (shD l).l (shD l).s) 0) = hw .f32 s := by
    rw [z2, one_mul hs]
    rw [show ∀ x, fop .add .f32 x 0 = fop .add .f32 x (hw .f32 0) from fun x => by rw [← hw0], hw_add .f32 (by omega) (by omega) (by omega), Int.add_zero]
  have e3 : fop .add .f32 0 (fop .mul .f32 (fop .mul .f32 (shD l).c (fop .sub .f32 1065353216 (shD l).l)) 0) = 0 := by
    rw [z3]; decide +kernel
  have a4 : ((lnS L s i).at_ + 1) % ((lnS L s i).se.length : Int) = 0 := by
    show ((0 : Int) + 1) % ((1 : Nat) : Int) = 0
    decide
  unfold nxF
  rw [he, a4]
  show (⟨fop .add .f32 (fop .add .f32 (hw .f32 (L + s * i)) (fop .mul .f32 1065353216 (hw .f32 s))) (fop .mul .f32 (shD l).l 0), fop .add .f32 (fop .mul .f32 1065353216 (hw .f32 s)) (fop .mul .f32 (fop .mul .f32 (shD l).l (shD l).s) 0), [fop .add .f32 0 (fop .mul .f32 (fop .mul .f32 (shD l).c (fop .sub .f32 1065353216 (shD l).l)) 0)], 0⟩ : ST) = _
  rw [e1, e2, e3]
  rfl
theorem ln_run {l : List Nat} (h : Byt l) {L s : Int} (hL : -40 ≤ L ∧ L ≤ 40) (hs : -4 ≤ s ∧ s ≤ 4) : ∀ i, i ≤ 7 → rnS (lnS L s 0) (st1 l) ((linL L s 8).drop 1) i = lnS L s i
  | 0, _ => rfl
  | i + 1, hi => by
    show nxF (rnS _ _ _ i) (st1 l) _ = _
    rw [ln_run h hL hs i (by omega)]
    exact ln_step h hL hs (by omega)
theorem lin_hwL {L s : Int} (hL : -40 ≤ L ∧ L ≤ 40) (hs : -4 ≤ s ∧ s ≤ 4) : HwL (linL L s 8) fun i => L + s * i := fun i hi => by
  rw [linL_len] at hi
  have := lin_bd hL hs (n := i) (by omega)
  exact ⟨linL_get hi, by dsimp only; omega, by dsimp only; omega⟩
theorem ln_start {L s : Int} (hL : -40 ≤ L ∧ L ≤ 40) (hs : -4 ≤ s ∧ s ≤ 4) : startF (linL L s 8) 1 = (lnS L s 0, true) ∧ StB 64 (lnS L s 0) := by
  have e1 : (L + s * ((1 : Nat) : Int)) - (L + s * ((0 : Nat) : Int)) = s := by simp; omega
  have := start1 (lin_hwL hL hs) (by rw [linL_len]; omega) (by rw [linL_len]; omega) (by rw [e1]; omega)
  rw [if_pos (by rw [linL_len]; omega)] at this
  rw [e1] at this
  refine ⟨this.1, ?_⟩
  have h2 := this.2
  rw [this.1] at h2
  exact h2
theorem ln_behind {l : List Nat} (h : Byt l) {L s : Int} (hL : -40 ≤ L ∧ L ≤ 40) (hs : -4 ≤ s ∧ s ≤ 4) : ∃ g e, runF (lnS L s 0) (st1 l) ((linL L s 8).drop 1) = ⟨lnS L s 7, g, e, true⟩ := by
  have hl : ((linL L s 8).drop 1).length = 7 := by rw [List.length_drop, linL_len]
  have hr := run_ok (h := st1 l) (ln_start hL hs).2 (shD_1 h) (a := (linL L s 8).drop 1) (fun i hi => by
    rw [hl] at hi
    rw [lin_tail hi]
    have := lin_bd hL hs (n := i + 1) (by omega)
    exact hw_64 (by omega)) (by omega) (by omega)
  refine ⟨rnG (lnS L s 0) (st1 l) ((linL L s 8).drop 1), rnE (lnS L s 0) (st1 l) ((linL L s 8).drop 1), ?_⟩
  rw [hr, hl, ln_run h hL hs 7 (by omega)]
theorem ah_tab (d : Nat) (hd : d = 1065353216) : ∀ l s c, (ahF ⟨l, s, c, d⟩ 0).1 = fint .f32 1 ∧ (ahF ⟨l, s, c, d⟩ 1).1 = fint .f32 2 ∧ (ahF ⟨l, s, c, d⟩ 2).1 = fint .f32 3 ∧ (ahF ⟨l, s, c, d⟩ 3).1 = fint .f32 4 := by
  intro l s c
  subst hd
  have k : fop .mul .f32 1065353216 1065353216 = 1065353216 := by decide +kernel
  have a1 : fop .add .f32 1065353216 1065353216 = fint .f32 2 := by decide +kernel
  have a2 : fop .add .f32 (fint .f32 2) 1065353216 = fint .f32 3 := by decide +kernel
  have a3 : fop .add .f32 (fint .f32 3) 1065353216 = fint .f32 4 := by decide +kernel
  refine ⟨show 1065353216 = fint .f32 1 by decide +kernel, ?_, ?_, ?_⟩
  · simp only [ahF, k, a1]
  · simp only [ahF, k, a1, a2]
  · simp only [ahF, k, a1, a2, a3]
theorem ah_st1 (l : List Nat) {k : Nat} (hk : k < 4) : (ahF (st1 l) k).1 = fint .f32 ((k + 1 : Nat) : Int) := by
  obtain ⟨h0, h1, h2, h3⟩ := ah_tab 1065353216 rfl (shD l).l (shD l).s (shD l).c
  have : k = 0 ∨ k = 1 ∨ k = 2 ∨ k = 3 := by omega
  rcases this with rfl | rfl | rfl | rfl
  · exact h0
  · exact h1
  · exact h2
  · exact h3
theorem ln_ahead (l : List Nat) {L s : Int} (hL : -40 ≤ L ∧ L ≤ 40) (hs : -4 ≤ s ∧ s ≤ 4) {k : Nat} (hk : k < 4) : (ahL (lnS L s 7) (st1 l) 4).getD k 0 = hw .f32 (L + s * ((8 + k : Nat) : Int)) := by
  rw [ahL_get hk]
  have h1 := s_mul hs (n := 7) (by omega)
  have h2 := s_mul hs (n := k + 1) (by omega)
  have h3 : s * ((8 + k : Nat) : Int) = s * ((7 : Nat) : Int) + s * ((k + 1 : Nat) : Int) := by rw [← Int.mul_add]; congr 1; omega
  have h4 := s_mul hs (n := 8 + k) (by omega)
  show fop .add .f32 (fop .add .f32 (hw .f32 (L + s * ((7 : Nat) : Int))) (fop .mul .f32 (ahF (st1 l) k).1 (hw .f32 s))) (([0] : List Nat).getD ((0 + k) % 1) 0) = _
  rw [ah_st1 l hk, (sl_mul hs (n := k + 1) (by omega)).2, show (0 + k) % 1 = 0 by omega, hw_add .f32 (by omega) (by omega) (by omega)]
  rw [show ([0] : List Nat).getD 0 0 = hw .f32 0 from hw0, hw_add .f32 (by omega) (by omega) (by omega), h3]
  congr 1
  omega
theorem gapHw_tab : (List.range 353).all (fun n => decide (fcmp .gtr .f64 (gapR (hw .f32 ((n : Int) - 176)) (hw .f32 ((n : Int) - 176))) 4576918229304087675 = false)) = true := by decide +kernel
theorem gapHw {x : Int} (h : -176 ≤ x ∧ x ≤ 176) : fcmp .gtr .f64 (gapR (hw .f32 x) (hw .f32 x)) 4576918229304087675 = false := by
  obtain ⟨n, hn⟩ : ∃ n : Nat, x = (n : Int) - 176 := ⟨(x + 176).toNat, by omega⟩
  have := List.all_eq_true.1 gapHw_tab n (List.mem_range.2 (by omega))
  subst hn
  simpa using this
theorem leqR {a b : Nat} (ha : Fnt .f32 a) (hb : Fnt .f32 b) (h : rv .f32 a ≤ rv .f32 b) : fcmp .leq .f32 a b = true := by
  simp only [fcmp]
  rw [order_sv .f32 ha.notnan hb.notnan]
  have hs := sv_rv .f32 (a := a) (b := b)
  have hs2 := sv_rv .f32 (a := b) (b := a)
  rcases Int.lt_trichotomy (sv .f32 a) (sv .f32 b) with h1 | h1 | h1
  · rw [cmp_lt h1]; rfl
  · rw [cmp_eq h1]; rfl
  · have := hs2.1.1 h1; grind
theorem eqlR {a : Nat} (ha : Fnt .f32 a) : fcmp .eql .f32 a a = true := by
  simp only [fcmp]
  rw [order_sv .f32 ha.notnan ha.notnan, cmp_eq rfl]; rfl
theorem neqR {a : Nat} (ha : Fnt .f32 a) : fcmp .neq .f32 a a = false := by
  rw [neq_rv ha ha]; simp
theorem lss0R {a : Nat} (ha : Fnt .f32 a) (h : 0 ≤ rv .f32 a) : fcmp .lss .f32 a 0 = false := by
  rw [lss_rv ha f0_32.1, f0_32.2]
  exact decide_eq_false (by grind)
/-! ### the best shares, and those that are tried beside them -/
def oth (r : Int) : SH := ⟨1056964608, fop .quo .f32 (fint .f32 r) 1073741824, 1065353216, 1065353216⟩
theorem oth_tab : (List.range 3).all (fun r => decide ((oth (r : Int)).l = (bsT 2 ((9 + 3 * r + 2 : Nat) : Int)).l) && decide ((oth (r : Int)).s = (bsT 2 ((9 + 3 * r + 2 : Nat) : Int)).s) && decide ((oth (r : Int)).c = (bsT 2 ((9 + 3 * r + 2 : Nat) : Int)).c) && decide ((oth (r : Int)).d = (bsT 2 ((9 + 3 * r + 2 : Nat) : Int)).d)) = true := by decide +kernel
theorem oth_eq {r : Nat} (h : r < 3) : oth (r : Int) = bsT 2 ((9 + 3 * r + 2 : Nat) : Int) := by
  have := List.all_eq_true.1 oth_tab r (List.mem_range.2 h)
  simp only [Bool.and_eq_true, decide_eq_true_eq] at this
  have e : ∀ x y : SH, x.l = y.l → x.s = y.s → x.c = y.c → x.d = y.d → x = y := fun x y h1 h2 h3 h4 => by
    rcases x with ⟨a, b, c, d⟩; rcases y with ⟨a', b', c', d'⟩
    simp only at h1 h2 h3 h4
    rw [h1, h2, h3, h4]
  exact e _ _ this.1.1.1 this.1.1.2 this.1.2 this.2
theorem bestSh_ok {a : List Nat} {x : Nat → Int} (h : HwL a x) (h1 : 1 ≤ a.length) (hl : a.length ≤ 12) (hd : -128 ≤ x 1 - x 0 ∧ x 1 - x 0 ≤ 128) :
    ∃ s0 b m, startF a 1 = (s0, true) ∧ s0.se.length = 1 ∧ bestS a 1 2 = ⟨b, m, true⟩ ∧ missSh s0 b a = (m, true) ∧ Fnt .f32 m ∧ ∀ r : Nat, r < 3 → ∃ m', missSh s0 (oth (r : Int)) a = (m', true) ∧ Fnt .f32 m' ∧ fcmp .leq .f32 m m' = true := by
  obtain ⟨e1, e2⟩ := start1 h h1 (by omega) hd
  rw [e1] at e2
  have hm : ∀ j : Nat, j < 27 → (bsM a 1 (bsT 2 (j : Int))).2 = true ∧ Fnt .f32 (bsM a 1 (bsT 2 (j : Int))).1 := fun j hj => by
    unfold bsM
    rw [e1]
    obtain ⟨m, hm1, hm2, hm3⟩ := miss_ok e2 (bsT_b hj) h.bd h1 hl
    rw [hm1]
    exact ⟨rfl, hm3.fm.1⟩
  obtain ⟨g1, g2, ⟨j, g3, g4, g5⟩, g6⟩ := bs_fact hm 27 (by omega) (by omega)
  have hB : bestS a 1 2 = bsA (bsM a 1) 2 27 := by
    unfold bestS
    rw [e1]; rfl
  have hM : ∀ j : Nat, j < 27 → missSh ⟨hw .f32 (x 0), (if 2 ≤ a.length then hw .f32 (x 1 - x 0) else 0), [0], 0⟩ (bsT 2 (j : Int)) a = ((bsM a 1 (bsT 2 (j : Int))).1, true) := fun j hj => by
    have h2 := (hm j hj).1
    have h3 : bsM a 1 (bsT 2 (j : Int)) = missSh ⟨hw .f32 (x 0), (if 2 ≤ a.length then hw .f32 (x 1 - x 0) else 0), [0], 0⟩ (bsT 2 (j : Int)) a := by unfold bsM; rw [e1]
    rw [← h3, ← h2]
  refine ⟨_, (bsA (bsM a 1) 2 27).h, (bsA (bsM a 1) 2 27).x, e1, rfl, hB.trans (show bsA (bsM a 1) 2 27 = ⟨(bsA (bsM a 1) 2 27).h, (bsA (bsM a 1) 2 27).x, true⟩ by rw [← g1]), ?_, g2, fun r hr => ?_⟩
  · rw [g4, hM j g3, g5]
  · refine ⟨_, by rw [oth_eq hr, hM _ (by omega)], (hm _ (by omega)).2, ?_⟩
    exact leqR g2 (hm _ (by omega)).2 (g6 _ (by omega))
/-- a list of lists that the caller has built -/
theorem tcall_ffl {P : Program} {f : FuncId} {ls : List (List Nat)} {ts : List T} {rv : RV} {hs : List (Nat × Blk)} (h : TCall P f (.ffl ls :: ts) rv hs) : TCall P f (.tl (ls.map T.fl) :: ts) rv hs := by
  refine ⟨h.1, fun w args ha => h.2 w args ?_⟩
  rw [TRl] at ha ⊢
  obtain ⟨x, ys, rfl, h1, h2⟩ := ha
  refine ⟨x, ys, rfl, ?_, h2⟩
  rw [TR_sl _ _ _ rfl] at h1 ⊢
  have e1 : (T.tl (ls.map T.fl)).len = (T.ffl ls).len := by simp [T.len]
  have e2 : (T.tl (ls.map T.fl)).elems = (T.ffl ls).elems := rfl
  rw [e1, e2] at h1
  exact h1
end Go.Proofs.Ytcgimnafomnjcaa

