import Derived.Test.YtpdnjcblkjjegaaVT192b
import Derived.Test.YtpdnjcblkjjegaaVT190n
set_option linter.unusedVariables false
set_option linter.unusedSimpArgs false
set_option maxRecDepth 100000
set_option maxHeartbeats 8000000
namespace Go.Proofs.Ytpdnjcblkjjegaa
open Go.Aw Go.RowKit Go.Shelf

/-! ### the way back, round by round: the blocks -/
def mu3 (b22 b23 bo : Nat) : Nat → Option Nat := fun i => if i = 22 then some b22 else if i = 23 then some b23 else if i = 155 then some bo else none
def hp3 (x : Int) (l : List Int) : List (Nat × Blk) := [(22, .box 3 [.t (.v (.int .i64 x))]), (23, .box 33 [.own 155 0 l.length]), (155, .sl 2 (.il l))]
structure WJ (b22 b23 bo : Nat) (x : Int) (l : List Int) (W : World) : Prop where
  c22 : W.heap[b22]? = some (.cells #[.int .i64 x] 3 (0, 0))
  c23 : ∃ cap cs, W.heap[b23]? = some (.cells #[.slice (some ⟨bo, 0, none⟩) l.length cap] 33 (0, 0)) ∧ W.heap[bo]? = some (.cells cs 2 (0, 0)) ∧ cap ≤ cs.size ∧ l.length ≤ cap ∧ ∀ i, i < l.length → cs[i]? = some (.int .i64 (l.getD i 0))
  n1 : b22 ≠ b23
  n2 : b22 ≠ bo
  n3 : b23 ≠ bo
theorem beq_ne {i j : Nat} (h : i ≠ j) : Nat.beq i j = false := by
  cases hb : Nat.beq i j with
  | false => rfl
  | true => exact absurd (Nat.eq_of_beq_eq_true hb) h
theorem hp3_in {x : Int} {l : List Int} {i : Nat} {B : Blk} (h : lkH (hp3 x l) i = some B) : (i = 22 ∧ B = .box 3 [.t (.v (.int .i64 x))]) ∨ (i = 23 ∧ B = .box 33 [.own 155 0 l.length]) ∨ (i = 155 ∧ B = .sl 2 (.il l)) := by
  by_cases h1 : i = 22
  · subst h1; exact .inl ⟨rfl, (Option.some.inj h).symm⟩
  by_cases h2 : i = 23
  · subst h2; exact .inr (.inl ⟨rfl, (Option.some.inj h).symm⟩)
  by_cases h3 : i = 155
  · subst h3; exact .inr (.inr ⟨rfl, (Option.some.inj h).symm⟩)
  simp only [hp3, lkH, beq_ne h1, beq_ne h2, beq_ne h3, cond_false] at h
  cases h
theorem cells_TRl {W : World} {ok : Nat → Prop} {cs : Array Value} {l : List Int} (hs : l.length ≤ cs.size) (h : ∀ i, i < l.length → cs[i]? = some (.int .i64 (l.getD i 0))) : TRl W ok (T.il l).elems (cs.toList.take (T.il l).len) := by
  refine (TRl_iff ..).2 ⟨by simp [T.elems, T.len, hs], fun i t ht => ?_⟩
  simp only [T.elems, List.getElem?_map, Option.map_eq_some_iff] at ht
  obtain ⟨z, hz, rfl⟩ := ht
  have hi : i < l.length := (List.getElem?_eq_some_iff.1 hz).1
  have e : l.getD i 0 = z := by rw [List.getD_eq_getElem?_getD, hz]; rfl
  refine ⟨_, ?_, by rw [TR]⟩
  rw [List.getElem?_take]
  simp only [T.len, hi, if_true]
  have := h i hi
  rw [e] at this
  simpa using this
theorem hc_of_wj {vs : Env} {w0 W : World} {b22 b23 bo : Nat} {x : Int} {l : List Int} (h : WJ b22 b23 bo x l W) (hbase : vs.base = w0.heap.size) (hb : Bel vs w0 W) (g22 : w0.heap.size ≤ b22 ∨ vs.loan b22) (g23 : w0.heap.size ≤ b23 ∨ vs.loan b23) (go : w0.heap.size ≤ bo ∨ vs.loan bo) :
    HC vs w0 (mu3 b22 b23 bo) (lkH (hp3 x l)) W := by
  obtain ⟨cap, cs, h1, h2, h3, h4, h5⟩ := h.c23
  refine ⟨hbase, hb, fun i B hB => ?_, fun i j b hi hj e1 e2 => ?_⟩
  · rcases hp3_in hB with ⟨rfl, rfl⟩ | ⟨rfl, rfl⟩ | ⟨rfl, rfl⟩
    · refine ⟨b22, _, rfl, g22, h.c22, ?_⟩
      rw [VRl]; exact ⟨_, _, rfl, by rw [VR, TR], by rw [VRl]⟩
    · refine ⟨b23, _, rfl, g23, h1, ?_⟩
      rw [VRl]
      refine ⟨_, _, rfl, ?_, by rw [VRl]⟩
      rw [VR]
      exact .inr ⟨bo, cap, 2, cs.size, rfl, rfl, by simp [World.shape?, h2], by omega, h4⟩
    · exact ⟨rfl, .inr ⟨bo, cs, rfl, go, h2, Nat.le_trans h4 h3, cells_TRl (Nat.le_trans h4 h3) h5⟩⟩
  · obtain ⟨B, hB⟩ := Option.isSome_iff_exists.1 hi
    obtain ⟨B', hB'⟩ := Option.isSome_iff_exists.1 hj
    have n1 := h.n1; have n2 := h.n2; have n3 := h.n3
    rcases hp3_in hB with ⟨rfl, _⟩ | ⟨rfl, _⟩ | ⟨rfl, _⟩ <;> rcases hp3_in hB' with ⟨rfl, _⟩ | ⟨rfl, _⟩ | ⟨rfl, _⟩ <;> first | rfl | (simp [mu3] at e1 e2; omega)
theorem wj_of_hc {vs : Env} {w0 W : World} {μ : Nat → Option Nat} {x : Int} {l : List Int} (h : HC vs w0 μ (lkH (hp3 x l)) W) (hl : 1 ≤ l.length) :
    ∃ b22 b23 bo, μ 22 = some b22 ∧ μ 23 = some b23 ∧ μ 155 = some bo ∧ WJ b22 b23 bo x l W ∧ (w0.heap.size ≤ b22 ∨ vs.loan b22) ∧ (w0.heap.size ≤ b23 ∨ vs.loan b23) ∧ (w0.heap.size ≤ bo ∨ vs.loan bo) := by
  have h1 := h.blk 22 _ rfl
  have h2 := h.blk 23 _ rfl
  have h3 := h.blk 155 _ rfl
  obtain ⟨b22, c1, m1, g1, q1, v1⟩ := h1
  obtain ⟨b23, c2, m2, g2, q2, v2⟩ := h2
  obtain ⟨_, h3⟩ := h3
  rcases h3 with ⟨_, h0⟩ | ⟨bo, c3, m3, g3, q3, hs3, v3⟩
  · simp [T.len] at h0; rw [h0] at hl; simp at hl
  rw [VRl] at v1 v2
  obtain ⟨y1, r1, e1, v1, f1⟩ := v1
  obtain ⟨y2, r2, e2, v2, f2⟩ := v2
  rw [VRl] at f1 f2
  subst f1; subst f2
  rw [VR, TR] at v1
  subst v1
  rw [VR] at v2
  have e1' : c1 = #[.int .i64 x] := by rw [← Array.toList_inj]; exact e1
  have e2' : c2 = #[y2] := by rw [← Array.toList_inj]; exact e2
  subst e1'; subst e2'
  rcases v2 with ⟨_, _, h0, _⟩ | ⟨b, cap, e, n, hb, rfl, hsh, hc1, hc2⟩
  · omega
  rw [m3] at hb; cases hb
  rw [size_shape q3] at hsh; cases hsh
  refine ⟨b22, b23, bo, m1, m2, m3, ⟨q1, ⟨cap, c3, q2, q3, by omega, hc2, fun i hi => ?_⟩, ?_, ?_, ?_⟩, g1, g2, g3⟩
  · obtain ⟨z, hz, hr⟩ := ((TRl_iff ..).1 v3).2 i (.v (.int .i64 l[i])) (by simp [T.elems, hi])
    rw [List.getElem?_take] at hz
    simp only [T.len, hi, if_true] at hz
    rw [TR] at hr
    subst hr
    rw [show l.getD i 0 = l[i] by simp [List.getD_eq_getElem?_getD, hi]]
    simpa using hz
  · intro e; subst e; have := h.inj 22 23 b22 rfl rfl m1 m2; cases this
  · intro e; subst e; have := h.inj 22 155 b22 rfl rfl m1 m3; cases this
  · intro e; subst e; have := h.inj 23 155 b23 rfl rfl m2 m3; cases this
theorem wj_grown {W W' : World} {row : Option Nat} {b22 b23 bo : Nat} {x : Int} {l : List Int} (h : WJ b22 b23 bo x l W) (hg : W.grownBy W' row) (hr : ∀ r, row = some r → ∃ o : Obj, W.heap[r]? = some o ∧ o.isCells = false) : WJ b22 b23 bo x l W' := by
  obtain ⟨cap, cs, h1, h2, h3, h4, h5⟩ := h.c23
  exact ⟨(grownBy_keeps_cells hg hr h.c22 rfl).trans h.c22, ⟨cap, cs, (grownBy_keeps_cells hg hr h1 rfl).trans h1, (grownBy_keeps_cells hg hr h2 rfl).trans h2, h3, h4, h5⟩, h.n1, h.n2, h.n3⟩
theorem bel_grown {vs : Env} {w0 W W' : World} {row : Option Nat} (h : Bel vs w0 W) (hg : W.grownBy W' row) (hr : ∀ r, row = some r → w0.heap.size ≤ r ∧ ∃ o : Obj, W.heap[r]? = some o ∧ o.isCells = false) : Bel vs w0 W' := by
  have hb : ∀ k, k < w0.heap.size → W'.heap[k]? = W.heap[k]? := fun k hk => hg.block k (Nat.lt_of_lt_of_le hk h.size) (fun e => by have := (hr k e.symm).1; omega)
  exact ⟨hg.os.trans h.os, hg.tape.trans h.tape, hg.output.trans h.output, Nat.le_trans h.size hg.size, fun k hk hl => (hb k hk).trans (h.block k hk hl), fun k s hs => by
    rw [shp_of_block (hb k (shp_lt hs))]; exact h.shape k s hs⟩
def ln3 (b22 b23 bo : Nat) : Nat → Prop := fun b => b = b22 ∨ b = b23 ∨ b = bo
theorem bel_round {base base' b22 b23 bo bo' : Nat} {w1 W W2 : World} (h : Bel ⟨[], base, ln3 b22 b23 bo⟩ w1 W) (h2 : Bel ⟨[], base', ln3 b22 b23 bo'⟩ W W2) (hbo : bo' = bo ∨ w1.heap.size ≤ bo') : Bel ⟨[], base, ln3 b22 b23 bo⟩ w1 W2 := by
  refine ⟨h2.os.trans h.os, h2.tape.trans h.tape, h2.output.trans h.output, Nat.le_trans h.size h2.size, fun k hk hl => ?_, fun k s hs => h2.shape k s (h.shape k s hs)⟩
  refine (h2.block k (Nat.lt_of_lt_of_le hk h.size) fun hl' => hl ?_).trans (h.block k hk hl)
  rcases hl' with e | e | e
  · exact .inl e
  · exact .inr (.inl e)
  · rcases hbo with hb | hb
    · exact .inr (.inr (e.trans hb))
    · omega
theorem bel_others {base b22 b23 bo : Nat} {x : Int} {l : List Int} {W W2 : World} (h : Bel ⟨[], base, ln3 b22 b23 bo⟩ W W2) (hw : WJ b22 b23 bo x l W) : KeepsOthers W W2 := by
  obtain ⟨cap, cs, h1, h2, _⟩ := hw.c23
  refine ⟨h.size, fun k o hk ho => (h.block k (Array.getElem?_eq_some_iff.1 hk).1 fun hl => ?_).trans hk⟩
  rcases hl with rfl | rfl | rfl
  · rw [hw.c22] at hk; cases hk; cases ho
  · rw [h1] at hk; cases hk; cases ho
  · rw [h2] at hk; cases hk; cases ho

/-! ### the body of a round -/
def rfBody : Code → Code
  | .seq (.seq _ (.block _ (.rangeFunc _ _ _ (.block _ c)))) _ => c
  | _ => .skip
attribute [local irreducible] QRun LexD AWp TCall TMut fop fint fcmp fconv AWd
theorem body_w {F : Fence} (hF : okFence F) {n : Nat} {R : Exit → Act → World → Prop} {vs : Env} {w0 : World} {Z : List (Nat × Value)} {v22 v23 : Value} (hZ : Z = [(22, v22), (23, v23)]) {row l : List Int} {p : Nat} (hp : p < row.length) (hrl : row.length ≤ 3) (hl1 : 1 ≤ l.length) (hl : l.length ≤ 1000)
    (hR : ∀ μ a w, a.defers = [] → Hld Z a → StD vs Try.f12.ntmps w0 μ (lkF [(22, .bp 22 0), (23, .bp 23 0)]) (lkH (hp3 (row.getD p 0) (l ++ [row.getD p 0]))) a w → R .normal a w) :
    AWd F n Try.prog Try.f12.ntmps (rfBody (tlF Try.f12 10)) R vs w0 [] Z (lkF [(25, .old (.il row)), (22, .bp 22 0), (23, .bp 23 0)]) (lkH (hp3 (p : Nat) l)) := by
  subst hZ
  unfold hp3
  refine awd_sq hF rfl ?_
  repeat (first | refine w_q ?_ | refine w_s ?_ | refine w_t ?_ | refine w_k ?_ | refine y_q ?_ | refine y_s ?_ | refine y_t ?_ | refine y_k ?_ | refine u_n ?_ | refine u_q ?_ | refine u_g ?_ | refine u_d ?_ | refine u_b ?_ | refine u_x ?_ | refine u_r ?_ | refine u_s ?_)
  try (first | (refine w_r (q_idx_tree (p) tyOk rfl rfl rfl rfl rfl rfl rfl rfl (by omega) (by first | omega | (simp only [T.len]; omega) | assumption)) (h := ?_)) | (refine y_r (q_idx_tree (p) tyOk rfl rfl rfl rfl rfl rfl rfl rfl (by omega) (by first | omega | (simp only [T.len]; omega) | assumption)) (h := ?_)))
  repeat (first | refine w_q ?_ | refine w_s ?_ | refine w_t ?_ | refine w_k ?_ | refine y_q ?_ | refine y_s ?_ | refine y_t ?_ | refine y_k ?_ | refine u_n ?_ | refine u_q ?_ | refine u_g ?_ | refine u_d ?_ | refine u_b ?_ | refine u_x ?_ | refine u_r ?_ | refine u_s ?_)
  refine awd_rg hF rfl ?_
  repeat (first | refine w_q ?_ | refine w_s ?_ | refine w_t ?_ | refine w_k ?_ | refine y_q ?_ | refine y_s ?_ | refine y_t ?_ | refine y_k ?_ | refine u_n ?_ | refine u_q ?_ | refine u_g ?_ | refine u_d ?_ | refine u_b ?_ | refine u_x ?_ | refine u_r ?_ | refine u_s ?_)
  (first | refine a_s (hn := by exact rfl) (h := ?_) | refine b_s (hn := by exact rfl) (h := ?_))
  repeat (first | refine w_q ?_ | refine w_s ?_ | refine w_t ?_ | refine w_k ?_ | refine y_q ?_ | refine y_s ?_ | refine y_t ?_ | refine y_k ?_ | refine u_n ?_ | refine u_q ?_ | refine u_g ?_ | refine u_d ?_ | refine u_b ?_ | refine u_x ?_ | refine u_r ?_ | refine u_s ?_)
  intro μ a w hd hz hs
  have := toStD (StR_weak (π := fun i => i) (α := [(22, .bp 22 0), (23, .bp 23 0)]) (l := hp3 (row.getD p 0) (l ++ [row.getD p 0])) (toStR hs) ⟨rfl, rfl, trivial⟩ ⟨rfl, rfl, rfl, trivial⟩ (injOn_id _))
  exact hR μ a w hd hz ⟨this.hc, this.size, this.slots⟩
/-! ### the way back, whole -/
def bkS (a b c d s : List Nat) (l : List Nat) : Nat × List Int := l.foldl (fun p x => (wyI d (wyB a b c d s x) a.length p.1 a.length, p.2 ++ [((wyI d (wyB a b c d s x) a.length p.1 a.length : Nat) : Int)])) (wyA a b c d s s.length 0, [((wyA a b c d s s.length 0 : Nat) : Int)])
theorem bkS_app (a b c d s : List Nat) (l : List Nat) (x : Nat) : bkS a b c d s (l ++ [x]) = (wyI d (wyB a b c d s x) a.length (bkS a b c d s l).1 a.length, (bkS a b c d s l).2 ++ [((wyI d (wyB a b c d s x) a.length (bkS a b c d s l).1 a.length : Nat) : Int)]) := by
  unfold bkS; rw [List.foldl_append]; rfl
theorem bkS_fall (a b c d s : List Nat) (h : 1 ≤ s.length) : ∀ j, j ≤ s.length - 1 → bkS a b c d s (fall (s.length - 1) j) = (wyA a b c d s s.length j, wyL a b c d s (j + 1))
  | 0, _ => by simp [fall, bkS, wyL]
  | j + 1, hj => by
    rw [fall_S, bkS_app, bkS_fall a b c d s h j (by omega)]
    have e : s.length - 1 - 1 - j = s.length - 2 - j := by omega
    rw [e]
    have e2 : wyI d (wyB a b c d s (s.length - 2 - j)) a.length (wyA a b c d s s.length j) a.length = wyA a b c d s s.length (j + 1) := rfl
    simp only [e2]
    rw [wyL_S a b c d s (j + 1)]
theorem snocInd {α : Type} {P : List α → Prop} (h0 : P []) (h1 : ∀ l x, P l → P (l ++ [x])) (l : List α) : P l := by
  rw [← List.reverse_reverse l]
  induction l.reverse with
  | nil => exact h0
  | cons x r ih => rw [List.reverse_cons]; exact h1 _ _ ih
theorem bkS_len (a b c d s : List Nat) (l : List Nat) : (bkS a b c d s l).2.length = l.length + 1 :=
  snocInd (P := fun l => (bkS a b c d s l).2.length = l.length + 1) rfl (fun l x ih => by rw [bkS_app]; simp [ih]) l
theorem bkS_lt (a b c d s : List Nat) (h : 1 ≤ a.length) (l : List Nat) : (bkS a b c d s l).1 < a.length :=
  snocInd (P := fun l => (bkS a b c d s l).1 < a.length) (wyA_lt _ _ _ _ _ _ h 0) (fun l x ih => by rw [bkS_app]; exact wyI_lt _ _ _ _ h) l
end Go.Proofs.Ytpdnjcblkjjegaa

set_option linter.unusedVariables false
set_option linter.unusedSimpArgs false
set_option maxRecDepth 100000
set_option maxHeartbeats 8000000
namespace Go.Proofs.Ytpdnjcblkjjegaa
open Go.Aw Go.RowKit Go.Shelf
attribute [local irreducible] QRun LexD AWp TCall TMut fop fint fcmp fconv AWd
theorem tail_w {F : Fence} (hF : okFence F) {n : Nat} {R : Exit → Act → World → Prop} {vs : Env} {w0 : World} {ds : List Deferred} {x : Int} {l : List Int} (hl1 : 1 ≤ l.length) (hl : l.length ≤ 1000)
    (hR : ∀ μ a w, a.defers = ds → StD vs Try.f12.ntmps w0 μ (lkF [(4, .own 155 0 l.length), (5, .t (.v (.bool true)))]) (lkH [(155, .sl 2 (.il l.reverse))]) a w → R .ret a w) :
    AWd F n Try.prog Try.f12.ntmps (tlF Try.f12 11) R vs w0 ds [] (lkF [(22, .bp 22 0), (23, .bp 23 0)]) (lkH (hp3 x l)) := by
  unfold hp3
  refine awd_sq hF rfl ?_
  repeat (first | refine w_q ?_ | refine w_s ?_ | refine w_t ?_ | refine w_k ?_ | refine y_q ?_ | refine y_s ?_ | refine y_t ?_ | refine y_k ?_ | refine u_n ?_ | refine u_q ?_ | refine u_g ?_ | refine u_d ?_ | refine u_b ?_ | refine u_x ?_ | refine u_r ?_ | refine u_s ?_)
  refine m_s [(900, 155)] (reverse_c l ⟨hl1, by omega⟩) (h := ?_)
  repeat (first | refine w_q ?_ | refine w_s ?_ | refine w_t ?_ | refine w_k ?_ | refine y_q ?_ | refine y_s ?_ | refine y_t ?_ | refine y_k ?_ | refine u_n ?_ | refine u_q ?_ | refine u_g ?_ | refine u_d ?_ | refine u_b ?_ | refine u_x ?_ | refine u_r ?_ | refine u_s ?_)
  refine awd_sq hF rfl ?_
  repeat (first | refine w_q ?_ | refine w_s ?_ | refine w_t ?_ | refine w_k ?_ | refine y_q ?_ | refine y_s ?_ | refine y_t ?_ | refine y_k ?_ | refine u_n ?_ | refine u_q ?_ | refine u_g ?_ | refine u_d ?_ | refine u_b ?_ | refine u_x ?_ | refine u_r ?_ | refine u_s ?_)
  refine awd_ret ?_
  intro μ a w hd hz hs
  have := toStD (StR_weak (π := fun i => i) (α := [(4, .own 155 0 l.length), (5, .t (.v (.bool true)))]) (l := [(155, .sl 2 (.il l.reverse))]) (toStR hs) ⟨rfl, rfl, trivial⟩ ⟨rfl, trivial⟩ (injOn_id _))
  exact hR μ a w hd ⟨this.hc, this.size, this.slots⟩
def r43Of : Code → Code
  | .seq (.seq x _) _ => x
  | _ => .skip
theorem h43_w {m : Nat} {x : Int} {l : List Int} {R : List (List Int)} :
    AWp Try.prog Try.f12.ntmps (r43Of (tlF Try.f12 10)) (fun e ρ η => e = .normal ∧ ρ = lkF [(157, .fn 88 [.bp 157 0]), (156, .own 65 0 m), (10, .own 65 0 m), (22, .bp 22 0), (23, .bp 23 0)] ∧
      η = ovH (lkH ((157, .box 64 [.own 65 0 m]) :: (hp3 x l ++ [(65, .nest 65 (NI R) [] noRem)]))) noFam) (lkF [(10, .own 65 0 m), (22, .bp 22 0), (23, .bp 23 0)]) (ovH (lkH (hp3 x l ++ [(65, .nest 65 (NI R) [] noRem)])) noFam) := by
  have hfm := famOk_no
  unfold hp3
  simp only [List.cons_append, List.nil_append]
  repeat (first | refine kx_q ?_ | refine kxd_q ?_ | refine kw_s ?_ | refine kw_t ?_ | refine kw_k ?_ | refine ky_s ?_ | refine ky_t ?_ | refine ky_k ?_ | refine u_n ?_ | refine u_q ?_ | refine u_g ?_ | refine u_d ?_ | refine u_b ?_ | refine u_x ?_ | refine u_r ?_ | refine u_s ?_)
  (refine kw_rs (q_back (by decide) rfl rfl rfl) (h := ?_))
  repeat (first | refine kx_q ?_ | refine kxd_q ?_ | refine kw_s ?_ | refine kw_t ?_ | refine kw_k ?_ | refine ky_s ?_ | refine ky_t ?_ | refine ky_k ?_ | refine u_n ?_ | refine u_q ?_ | refine u_g ?_ | refine u_d ?_ | refine u_b ?_ | refine u_x ?_ | refine u_r ?_ | refine u_s ?_)
  exact ⟨rfl, rfl, rfl⟩
end Go.Proofs.Ytpdnjcblkjjegaa

