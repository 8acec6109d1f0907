import Derived.Test.YtpdnjcblkjjegaaVT190
import Derived.Test.YtpdnjcblkjjegaaVT194e
import Derived.Test.YtpdnjcblkjjegaaVT193
import Derived.Test.YtpdnjcblkjjegaaVT23
import Derived.Test.YtpdnjcblkjjegaaVT94
import Derived.Test.YtpdnjcblkjjegaaVT118n
import Derived.Test.YtpdnjcblkjjegaaVAwM
set_option linter.unusedVariables false
set_option linter.unusedSimpArgs false
set_option maxRecDepth 100000
set_option maxHeartbeats 8000000
namespace Go.Proofs.Ytpdnjcblkjjegaa
open Go.Aw

/-! ### numbers that show their means tell the states -/
def a2 : List Nat := [3229614080, 1082130432]
def b2 : List Nat := [1056964608, 1056964608]
def d2 : List Nat := [1061158912, 1048576000, 1048576000, 1061158912]
def x2 (k : Nat) : Nat := fint .f32 (8 * (k : Int) - 4)
def st0 (k : Nat) : List Nat := rzL a2 b2 b2 (x2 k)
def stZ (B : List Nat) (k : Nat) : List Nat := wyZ a2 b2 d2 B (x2 k)
def wS0 : List (Nat × List Nat) := [(0, st0 0), (1, st0 1)]
def nxS2 (L : List (Nat × List Nat)) : List (Nat × List Nat) := L.flatMap fun p => [(0, wyN (stZ p.2 0)), (1, wyN (stZ p.2 1))]
def wS : List (Nat × List Nat) := wS0 ++ nxS2 wS0 ++ nxS2 (nxS2 wS0)
def okS (p : Nat × List Nat) : Bool := fsI p.2 2 == p.1 && wyI d2 p.2 2 0 2 == p.1 && wyI d2 p.2 2 1 2 == p.1 && [0, 1].all fun k => wS.contains (k, wyN (stZ p.2 k)) && fcmp .gtr .f32 (wyG (stZ p.2 k)) 0
theorem wS_tab : wS.all okS && fcmp .gtr .f32 (wyG (st0 0)) 0 && fcmp .gtr .f32 (wyG (st0 1)) 0 = true := by decide +kernel
theorem two_V : valR4 a2 b2 b2 d2 = true := by decide +kernel
theorem x2_fin : fin (x2 0) = true ∧ fin (x2 1) = true := by decide +kernel
def clr (ks : List Nat) : List Nat := ks.map x2
theorem clr_len (ks : List Nat) : (clr ks).length = ks.length := by simp [clr]
theorem clr_get {ks : List Nat} {t : Nat} (h : t < ks.length) : (clr ks).getD t 0 = x2 (ks.getD t 0) := by simp [clr, List.getD_eq_getElem?_getD, h]
theorem wS_ok {p : Nat × List Nat} (h : p ∈ wS) : okS p = true := by
  have := wS_tab
  rw [Bool.and_eq_true, Bool.and_eq_true] at this
  exact List.all_eq_true.1 this.1.1 p h
theorem okS_of {k : Nat} {B : List Nat} (h : (k, B) ∈ wS) : fsI B 2 = k ∧ (∀ j, j < 2 → wyI d2 B 2 j 2 = k) ∧ ∀ k', k' < 2 → (k', wyN (stZ B k')) ∈ wS ∧ fcmp .gtr .f32 (wyG (stZ B k')) 0 = true := by
  have := wS_ok h
  unfold okS at this
  simp only [Bool.and_eq_true, beq_iff_eq, List.all_cons, List.all_nil, Bool.and_true] at this
  obtain ⟨⟨⟨h1, h2⟩, h3⟩, ⟨h4, h5⟩, h6, h7⟩ := this
  refine ⟨h1, fun j hj => ?_, fun k' hk => ?_⟩
  · have hc : j = 0 ∨ j = 1 := by omega
    rcases hc with rfl | rfl
    · exact h2
    · exact h3
  · have hc : k' = 0 ∨ k' = 1 := by omega
    rcases hc with rfl | rfl
    · exact ⟨List.contains_iff_mem.1 h4, h5⟩
    · exact ⟨List.contains_iff_mem.1 h6, h7⟩
theorem clr_st {ks : List Nat} (h : ∀ t, t < ks.length → ks.getD t 0 < 2) : ∀ t, t < ks.length → (ks.getD t 0, wyB a2 b2 b2 d2 (clr ks) t) ∈ wS ∧ wyO a2 b2 b2 d2 (clr ks) t = true
  | 0, ht => by
    have hk := h 0 ht
    have e : wyB a2 b2 b2 d2 (clr ks) 0 = st0 (ks.getD 0 0) := by rw [wyB_0, clr_get ht]; rfl
    have e2 : wyO a2 b2 b2 d2 (clr ks) 0 = fcmp .gtr .f32 (wyG (st0 (ks.getD 0 0))) 0 := by unfold wyO; rw [wyT_0, clr_get ht]; rfl
    rw [e, e2]
    have := wS_tab
    rw [Bool.and_eq_true, Bool.and_eq_true] at this
    generalize ks.getD 0 0 = k at *
    have hc : k = 0 ∨ k = 1 := by omega
    rcases hc with rfl | rfl
    · exact ⟨List.mem_append_left _ (List.mem_append_left _ List.mem_cons_self), this.1.2⟩
    · exact ⟨List.mem_append_left _ (List.mem_append_left _ (List.mem_cons_of_mem _ List.mem_cons_self)), this.2⟩
  | t + 1, ht => by
    obtain ⟨ih, _⟩ := clr_st h t (by omega)
    obtain ⟨_, _, h3⟩ := okS_of ih
    have e : wyT a2 b2 b2 d2 (clr ks) (t + 1) = stZ (wyB a2 b2 b2 d2 (clr ks) t) (ks.getD (t + 1) 0) := by rw [wyT_S, clr_get ht]; rfl
    have e2 : wyO a2 b2 b2 d2 (clr ks) (t + 1) = fcmp .gtr .f32 (wyG (wyT a2 b2 b2 d2 (clr ks) (t + 1))) 0 := rfl
    rw [wyB_S, e2, e]
    exact h3 _ (h _ ht)
theorem clr_A {ks : List Nat} (h : ∀ t, t < ks.length → ks.getD t 0 < 2) : ∀ j, j < ks.length → wyA a2 b2 b2 d2 (clr ks) (clr ks).length j = ks.getD (ks.length - 1 - j) 0
  | 0, hj => by
    obtain ⟨h1, _, _⟩ := okS_of (clr_st h (ks.length - 1) (by omega)).1
    show fsI (wyB a2 b2 b2 d2 (clr ks) ((clr ks).length - 1)) 2 = _
    rw [clr_len]; exact h1
  | j + 1, hj => by
    have ih := clr_A h j (by omega)
    obtain ⟨_, h2, _⟩ := okS_of (clr_st h (ks.length - 2 - j) (by omega)).1
    show wyI d2 (wyB a2 b2 b2 d2 (clr ks) ((clr ks).length - 2 - j)) 2 (wyA a2 b2 b2 d2 (clr ks) (clr ks).length j) 2 = _
    rw [ih, clr_len, h2 _ (h _ (by omega)), show ks.length - 1 - (j + 1) = ks.length - 2 - j by omega]
theorem clr_way {ks : List Nat} (h : ∀ t, t < ks.length → ks.getD t 0 < 2) (h1 : 1 ≤ ks.length) (h2 : ks.length ≤ 96) : wayF a2 b2 b2 d2 (clr ks) = (ks.map (fun k : Nat => (k : Int)), true) := by
  have hl := clr_len ks
  rw [wayF_yes two_V ?_ (fun t ht => (clr_st h t (by omega)).2)]
  · refine Prod.ext ?_ rfl
    refine List.ext_getElem (by simp [wyR, hl]) fun t q1 q2 => ?_
    simp only [List.length_map] at q2
    simp only [wyR, List.getElem_map, List.getElem_range]
    have e := clr_A h (ks.length - 1 - t) (by omega)
    rw [← hl] at e
    rw [e, hl, show ks.length - 1 - (ks.length - 1 - t) = t by omega, List.getD_eq_getElem?_getD, List.getElem?_eq_getElem q2]
    rfl
  · unfold isSer
    rw [Bool.and_eq_true, Bool.and_eq_true, decide_eq_true_eq, decide_eq_true_eq]
    refine ⟨⟨by omega, by omega⟩, List.all_eq_true.2 fun x hx => ?_⟩
    obtain ⟨k, hk, rfl⟩ := List.mem_map.1 hx
    obtain ⟨i, hi, rfl⟩ := List.getElem_of_mem hk
    have := h i hi
    rw [List.getD_eq_getElem?_getD, List.getElem?_eq_getElem hi] at this
    have this' : ks[i] < 2 := this
    generalize ks[i] = k at *
    have hc : k = 0 ∨ k = 1 := by omega
    rcases hc with rfl | rfl
    · exact x2_fin.1
    · exact x2_fin.2
end Go.Proofs.Ytpdnjcblkjjegaa

set_option linter.unusedVariables false
set_option linter.unusedSimpArgs false
set_option maxRecDepth 20000
set_option maxHeartbeats 8000000
namespace Go.Proofs.Ytpdnjcblkjjegaa
open Go.Aw

/-! ### what the law asks of a run of levels -/
abbrev W (c : Nat) : Nat := fconv .f32 .f64 c
theorem sameN_self {c : Nat} (h : Fnt .f32 c) : sameN c c = true := by
  have hn : nn c = false := by rw [nn_eq]; exact h.notnan
  unfold sameN
  rw [hn]
  have ho : fcmp .eql .f32 c c = true := order_refl h.notnan
  simp only [Bool.or_self, Bool.false_eq_true, if_false, ho, beq_self_eq_true, Bool.and_self]
end Go.Proofs.Ytpdnjcblkjjegaa

set_option linter.unusedVariables false
set_option linter.unusedSimpArgs false
set_option maxRecDepth 100000
set_option maxHeartbeats 8000000
namespace Go.Proofs.Ytpdnjcblkjjegaa
open Go.Aw

/-! ### results as data -/
theorem own_il {args : List Value} {w w' : World} {μ : Nat → Option Nat} {ok : Nat → Prop} {e : TypeId} {l : List Int} {n : Nat} {y : Value} (hc : HC ⟨args, w.heap.size, noLoan⟩ w μ (lkH [(0, .sl e (.il l))]) w') (hr : RRel args w' μ ok (.own 0 n) y) (hn : n = l.length) :
    TR w' (okF ⟨args, w.heap.size, noLoan⟩ (okOf (fun _ => none) (lkH []))) (.il l) y := by
  rw [TR]
  rw [RRel.eq_def] at hr
  simp only [] at hr
  obtain ⟨hsl, hB⟩ := hc.blk 0 _ rfl
  rcases hr with ⟨h1, h2, rfl⟩ | ⟨b, cap, e1, m, hb, rfl, hs, hcap, hle⟩
  · exact ⟨none, 0, 0, rfl, by omega, Nat.le_refl _, .inl rfl⟩
  · rcases hB with ⟨h0, _⟩ | ⟨b', cs, hb', hbase, hw, hlen, hcs⟩
    · rw [h0] at hb; cases hb
    · rw [hb] at hb'; cases hb'
      refine ⟨_, _, _, rfl, hn, hle, .inr ⟨b, 0, rfl, (Array.getElem?_eq_some_iff.1 hw).1, ⟨fun i hi => by simp [lkH] at hi, hbase.elim .inl False.elim⟩, fun i hi => ?_⟩⟩
      have hi' : i < l.length := by omega
      obtain ⟨x, hx, hr⟩ := ((TRl_iff ..).1 hcs).2 i (.v (.int .i64 l[i])) (by simp [T.elems, hi'])
      rw [List.getElem?_take] at hx
      split at hx
      · rw [TR] at hr
        subst hr
        rw [cell_of_block hw, Nat.zero_add]
        simpa [List.getD_eq_getElem?_getD, hi'] using hx
      · cases hx
theorem dat_vR {args : List Value} {w' : World} {μ : Nat → Option Nat} {ok ok' : Nat → Prop} {v : Value} {y : Value} (h : RRel args w' μ ok (.t (.v v)) y) : TR w' ok' (.v v) y := by
  rw [RRel, TR] at h; rw [TR]; exact h
theorem dat_fR {args : List Value} {w' : World} {μ : Nat → Option Nat} {ok ok' : Nat → Prop} {k : FloatKind} {c : Nat} {y : Value} (h : RRel args w' μ ok (.t (.f k c)) y) : TR w' ok' (.f k c) y := by
  rw [RRel, TR] at h; rw [TR]; exact h
theorem tcall_il2R {P : Program} {f : FuncId} {ts : List T} {e : TypeId} {l : List Int} {n : Nat} {v : Value} (h : TCall P f ts (.tup [.own 0 n, .t (.v v)]) [(0, .sl e (.il l))]) (hn : n = l.length) : TCall P f ts (.tup [.t (.il l), .t (.v v)]) [] := by
  refine ⟨h.1, fun w args ha => (h.2 w args ha).mono ?_⟩
  rintro e' w' ⟨y, μ, rfl, hc, hr⟩
  refine ⟨y, fun _ => none, rfl, hc_none hc, ?_⟩
  rw [RRel] at hr
  obtain ⟨xs, rfl, hr⟩ := hr
  simp only [RRell] at hr
  obtain ⟨x1, r1, e1, h1, x2, r2, e2, h2, e3⟩ := hr
  rw [RRel]
  refine ⟨xs, rfl, ?_⟩
  rw [e1, e2, e3]
  simp only [RRell, RRel]
  exact ⟨_, _, rfl, own_il hc h1 hn, _, _, rfl, dat_vR h2, rfl⟩
theorem tcall_fl2R {P : Program} {f : FuncId} {ts : List T} {e : TypeId} {l : List Nat} {n : Nat} {v : Value} (h : TCall P f ts (.tup [.own 0 n, .t (.v v)]) [(0, .sl e (.fl l))]) (hn : n = l.length) : TCall P f ts (.tup [.t (.fl l), .t (.v v)]) [] := by
  refine ⟨h.1, fun w args ha => (h.2 w args ha).mono ?_⟩
  rintro e' w' ⟨y, μ, rfl, hc, hr⟩
  refine ⟨y, fun _ => none, rfl, hc_none hc, ?_⟩
  rw [RRel] at hr
  obtain ⟨xs, rfl, hr⟩ := hr
  simp only [RRell] at hr
  obtain ⟨x1, r1, e1, h1, x2, r2, e2, h2, e3⟩ := hr
  rw [RRel]
  refine ⟨xs, rfl, ?_⟩
  rw [e1, e2, e3]
  simp only [RRell, RRel]
  exact ⟨_, _, rfl, own_fl hc h1 hn, _, _, rfl, dat_vR h2, rfl⟩
theorem tcall_flFR {P : Program} {f : FuncId} {ts : List T} {e : TypeId} {l : List Nat} {n : Nat} {k : FloatKind} {c : Nat} {u : Value} (h : TCall P f ts (.tup [.own 0 n, .t (.f k c), .t (.v u)]) [(0, .sl e (.fl l))]) (hn : n = l.length) : TCall P f ts (.tup [.t (.fl l), .t (.f k c), .t (.v u)]) [] := by
  refine ⟨h.1, fun w args ha => (h.2 w args ha).mono ?_⟩
  rintro e' w' ⟨y, μ, rfl, hc, hr⟩
  refine ⟨y, fun _ => none, rfl, hc_none hc, ?_⟩
  rw [RRel] at hr
  obtain ⟨xs, rfl, hr⟩ := hr
  simp only [RRell] at hr
  obtain ⟨x1, r1, e1, h1, x2, r2, e2, h2, x3, r3, e3, h3, e4⟩ := hr
  rw [RRel]
  refine ⟨xs, rfl, ?_⟩
  rw [e1, e2, e3, e4]
  simp only [RRell, RRel]
  exact ⟨_, _, rfl, own_fl hc h1 hn, _, _, rfl, dat_fR h2, _, _, rfl, dat_vR h3, rfl⟩
/-! ### the same regimes -/
theorem allS_self {l : List Nat} (h : ∀ x ∈ l, Fnt .f32 x) : allS sameN l l = true := by
  unfold allS
  simp only [beq_self_eq_true, decide_true, Bool.true_and]
  first
    | exact List.all_eq_true.2 fun i hi => sameN_self (h _ (by
        rw [List.getD_eq_getElem?_getD, List.getElem?_eq_getElem (List.mem_range.1 hi)]; exact List.getElem_mem _))
    | (simp; intro i hi; exact sameN_self (h _ (by first | exact List.getElem_mem _ | (simp [List.getD_eq_getElem?_getD, hi]))))
attribute [local irreducible] QRun LexD AWp TCall TMut fop fint fcmp fconv
theorem b10Ints_self (l : List Int) (hl : l.length ≤ 1048576) : TCall Try.prog 18 [.il l, .il l] (.t (.v (.bool true))) [] := by
  refine tcall_of Try.func18 rfl (by kernel_rfl) (Nat.le_of_ble_eq_true rfl) rfl ?_
  simp only [argsL, argAV, argCs, argS]
  repeat (first | refine w_q ?_ | refine w_s ?_ | refine w_t ?_ | refine w_k ?_ | refine y_q ?_ | refine y_s ?_ | refine y_t ?_ | refine y_k ?_ | refine u_n ?_ | refine u_q ?_ | refine u_g ?_ | refine u_d ?_ | refine u_b ?_ | refine u_x ?_ | refine u_r ?_ | refine u_s ?_)
  refine awp_ifF rfl (by simp [icmp]) ?_
  repeat (first | refine w_q ?_ | refine w_s ?_ | refine w_t ?_ | refine w_k ?_ | refine y_q ?_ | refine y_s ?_ | refine y_t ?_ | refine y_k ?_ | refine u_n ?_ | refine u_q ?_ | refine u_g ?_ | refine u_d ?_ | refine u_b ?_ | refine u_x ?_ | refine u_r ?_ | refine u_s ?_)
  refine awp_loop (X := Nat) (fun i => i ≤ l.length) (fun i => [(0, .arg 0 (.il l)), (1, .arg 1 (.il l)), (12, .t (.v (.int .i64 l.length))), (13, .t (.v (.int .i64 i)))]) (fun _ => []) (fun i => l.length - i)
    0 ⟨by omega, fun i => i, ⟨rfl, rfl, rfl, rfl, trivial⟩, trivial, injOn_id _⟩ (fun i hi => ?_)
  repeat (first | refine w_q ?_ | refine w_s ?_ | refine w_t ?_ | refine w_k ?_ | refine y_q ?_ | refine y_s ?_ | refine y_t ?_ | refine y_k ?_ | refine u_n ?_ | refine u_q ?_ | refine u_g ?_ | refine u_d ?_ | refine u_b ?_ | refine u_x ?_ | refine u_r ?_ | refine u_s ?_)
  refine awp_if rfl (fun h => ?_) (fun h => ?_)
  · simp only [icmp, decide_eq_true_eq] at h
    repeat (first | refine w_q ?_ | refine w_s ?_ | refine w_t ?_ | refine w_k ?_ | refine y_q ?_ | refine y_s ?_ | refine y_t ?_ | refine y_k ?_ | refine u_n ?_ | refine u_q ?_ | refine u_g ?_ | refine u_d ?_ | refine u_b ?_ | refine u_x ?_ | refine u_r ?_ | refine u_s ?_)
    refine awp_ifF rfl (by simp [icmp]) ?_
    repeat (first | refine w_q ?_ | refine w_s ?_ | refine w_t ?_ | refine w_k ?_ | refine y_q ?_ | refine y_s ?_ | refine y_t ?_ | refine y_k ?_ | refine u_n ?_ | refine u_q ?_ | refine u_g ?_ | refine u_d ?_ | refine u_b ?_ | refine u_x ?_ | refine u_r ?_ | refine u_s ?_)
    exact ⟨i + 1, by omega, by omega, fun i => i, ⟨rfl, rfl, rfl, rfl, trivial⟩, trivial, injOn_id _⟩
  repeat (first | refine w_q ?_ | refine w_s ?_ | refine w_t ?_ | refine w_k ?_ | refine y_q ?_ | refine y_s ?_ | refine y_t ?_ | refine y_k ?_ | refine u_n ?_ | refine u_q ?_ | refine u_g ?_ | refine u_d ?_ | refine u_b ?_ | refine u_x ?_ | refine u_r ?_ | refine u_s ?_)
  (refine u_0 ?_; (repeat' (first | exact RetRelL.nil | refine RetRel.nil rfl ?_ | refine RetRelL.cons ?_ ?_ | refine rr_tup ?_ | refine rr_agg ?_ | refine rr_own rfl ?_ | exact RetRel.arg | exact RetRel.argc | refine rr_t ?_)); all_goals rfl)
end Go.Proofs.Ytpdnjcblkjjegaa

