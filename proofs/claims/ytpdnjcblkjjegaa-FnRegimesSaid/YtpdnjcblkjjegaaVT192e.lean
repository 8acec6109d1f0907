import Derived.Test.YtpdnjcblkjjegaaVT192d
set_option linter.unusedVariables false
set_option linter.unusedSimpArgs false
set_option maxRecDepth 100000
set_option maxHeartbeats 8000000
namespace Go.Proofs.Ytpdnjcblkjjegaa
open Go.Aw Go.RowKit Go.Shelf

/-! ### the range over Backward -/
def wayPost (args : List Value) (w : World) (v : List Int × Bool) : Ending → World → Prop := fun e w' => ∃ y μ, e = .returned y ∧ HC ⟨args, w.heap.size, noLoan⟩ w μ (lkH (wayHH v)) w' ∧ RRel args w' μ (okF ⟨args, w.heap.size, noLoan⟩ (okOf μ (lkH (wayHH v)))) (wayRR v) y
def rTm (tm : Array Value) (x : Nat) (v : Value) : Array Value := (tm.setIfInBounds 158 (.int .i64 (x : Nat))).setIfInBounds 159 v
theorem rTm_get {tm : Array Value} {x : Nat} {v : Value} (h : tm.size = 171) : (rTm tm x v).size = 171 ∧ (rTm tm x v).getD 159 undef = v ∧ (rTm tm x v).getD 22 undef = tm.getD 22 undef ∧ (rTm tm x v).getD 23 undef = tm.getD 23 undef := by
  unfold rTm
  refine ⟨by simp [h], ?_, ?_, ?_⟩ <;> simp [Array.getD_eq_getD_getElem?, h]
theorem range_w {a b c d s : List Nat} {args : List Value} {w : World} (hn1 : 1 ≤ a.length) (hn3 : a.length ≤ 3) (hs1 : 1 ≤ s.length) (hs : s.length ≤ 96) :
    AWx Try.prog Try.f12.ntmps (tlF Try.f12 10) (bodyPostM Fence.wide 6 Try.prog Try.f12 (wayPost args w (wyR a b c d s, true))) ⟨args, w.heap.size, noLoan⟩ w
      (lkF [(10, .own 65 0 (s.length - 1)), (22, .bp 22 0), (23, .bp 23 0)]) (ovH (lkH (hp3 (wyA a b c d s s.length 0 : Nat) [((wyA a b c d s s.length 0 : Nat) : Int)] ++ [(65, .nest 65 (NI (wyRows a b c d s (s.length - 1))) [] noRem)])) noFam) := by
  intro μ act wA hst
  refine wp_seq (wp_seq (wp_mono (h43_w _ _ μ act wA hst) ?_))
  rintro e act1 w1 ⟨ρ', η', μ1, ⟨rfl, rfl, rfl⟩, st⟩
  have hdf := st.defers
  have hsz := st.size
  -- the three blocks
  obtain ⟨hcw, hok3⟩ := HC_weak (π := fun i => i) (l := hp3 (wyA a b c d s s.length 0 : Nat) [((wyA a b c d s s.length 0 : Nat) : Int)]) st.hc ⟨rfl, rfl, rfl, trivial⟩ (injOn_id _)
  obtain ⟨b22, b23, bo, m22, m23, mo, hwj, g22, g23, go⟩ := wj_of_hc hcw (by simp)
  -- the function
  have s157 : VR ⟨args, w.heap.size, noLoan⟩ w1 μ1 _ (.fn 88 [.bp 157 0]) (act1.tmps.getD 157 undef) := st.slots 157
  rw [VR] at s157
  obtain ⟨xs, hg, hxs⟩ := s157
  rw [VRl] at hxs
  obtain ⟨y, r, e1, hy, hr⟩ := hxs
  rw [VRl] at hr
  subst hr
  rw [VR] at hy
  obtain ⟨bs, m157, rfl⟩ := hy
  have hxs : xs = #[.pointer (some ⟨bs, 0, none⟩)] := by rw [← Array.toList_inj]; exact e1
  subst hxs
  have k157 := st.hc.blk 157 _ rfl
  obtain ⟨bs', c157, m157', gs, qs, v157⟩ := k157
  rw [m157] at m157'; cases m157'
  rw [VRl] at v157
  obtain ⟨y65, r, e1, hy65, hr⟩ := v157
  rw [VRl] at hr
  subst hr
  have hc157 : c157 = #[y65] := by rw [← Array.toList_inj]; exact e1
  subst hc157
  have inj1 := st.hc.inj
  have hbs22 : bs ≠ b22 := fun e => by subst e; have := inj1 157 22 bs rfl rfl m157 m22; cases this
  have hbs23 : bs ≠ b23 := fun e => by subst e; have := inj1 157 23 bs rfl rfl m157 m23; cases this
  have hbso : bs ≠ bo := fun e => by subst e; have := inj1 157 155 bs rfl rfl m157 mo; cases this
  have hbsl : bs < w1.heap.size := (Array.getElem?_eq_some_iff.1 qs).1
  obtain ⟨rows, hrows⟩ : ∃ rows, wyRows a b c d s (s.length - 1) = rows := ⟨_, rfl⟩
  have hrl : rows.length = s.length - 1 := by rw [← hrows, wyRows_len]
  have k65 := st.hc.blk 65 _ rfl
  rw [hrows] at k65
  obtain ⟨m, hm⟩ : ∃ m, s.length - 1 = m := ⟨_, rfl⟩
  rw [hm] at hy65 hrl
  obtain ⟨ad, cap, b65, V, rfl, had, hbl, hcap, hn22, hn23, hno, hV⟩ : ∃ (ad : Option Addr) (cap b65 : Nat) (V : Fin m → Value), y65 = .slice ad m cap ∧ (0 < m → ad = some ⟨b65, 0, none⟩) ∧ b65 < w1.heap.size ∧ m ≤ cap ∧ b65 ≠ b22 ∧ b65 ≠ b23 ∧ b65 ≠ bo ∧
      ∀ x : Fin m, w1.cell? ⟨b65, 0 + x.1, none⟩ = some (V x) ∧ TR w1 (okOf μ1 (ovH (lkH ((157, .box 64 [.own 65 0 m]) :: (hp3 (wyA a b c d s s.length 0 : Nat) [((wyA a b c d s s.length 0 : Nat) : Int)] ++ [(65, .nest 65 (NI rows) [] noRem)]))) noFam)) (.il (rows.getD x.1 [])) (V x) := by
    rw [VR] at hy65
    rcases Nat.eq_zero_or_pos m with h0 | h0
    · subst h0
      rcases hy65 with ⟨_, _, _, rfl⟩ | ⟨b, cap, e, n, hb, rfl, hsh, hc1, hc2⟩
      · exact ⟨none, 0, bs, fun x => x.elim0, rfl, fun h => by omega, hbsl, Nat.le_refl _, hbs22, hbs23, hbso, fun x => x.elim0⟩
      · exact ⟨_, cap, bs, fun x => x.elim0, rfl, fun h => by omega, hbsl, hc2, hbs22, hbs23, hbso, fun x => x.elim0⟩
    · rcases hy65 with ⟨_, _, h, _⟩ | ⟨b, cap, e, n, hb, rfl, hsh, hc1, hc2⟩
      · omega
      rcases k65 with ⟨hnone, _⟩ | ⟨b', cs, hb', _, q65, hlen, hall⟩
      · rw [hnone] at hb; cases hb
      rw [hb] at hb'; cases hb'
      refine ⟨_, cap, b, fun x => cs.getD x.1 undef, rfl, fun _ => rfl, (Array.getElem?_eq_some_iff.1 q65).1, hc2, fun e => ?_, fun e => ?_, fun e => ?_, fun x => ?_⟩
      · subst e; have := inj1 65 22 b rfl rfl hb m22; cases this
      · subst e; have := inj1 65 23 b rfl rfl hb m23; cases this
      · subst e; have := inj1 65 155 b rfl rfl hb mo; cases this
      · have hx := x.2
        obtain ⟨z, hz, hr⟩ := hall x.1 (.t (.il (rows.getD x.1 []))) (NI_get (by rw [List.getD_eq_getElem?_getD, List.getElem?_eq_getElem (by omega)]; rfl))
        have hzc : cs.getD x.1 undef = z := by rw [Array.getD_eq_getD_getElem?, hz]; rfl
        simp only [hzc]
        refine ⟨by rw [cell_of_block q65, Nat.zero_add]; exact hz, ?_⟩
        rcases hr with ⟨j, hj, _⟩ | hr
        · simp [AV.ids] at hj
        · rw [VR] at hr
          rw [hm] at hr
          exact TR.weak (fun b hb => hb.1) hr
  clear hst
  have hszl : b22 < w1.heap.size ∧ b23 < w1.heap.size ∧ bo < w1.heap.size := by
    obtain ⟨cap, cs, h1, h2, _⟩ := hwj.c23
    exact ⟨(Array.getElem?_eq_some_iff.1 hwj.c22).1, (Array.getElem?_eq_some_iff.1 h1).1, (Array.getElem?_eq_some_iff.1 h2).1⟩
  have hbw : Bel ⟨args, w.heap.size, noLoan⟩ w w1 := st.hc.below
  have hsw : w.heap.size ≤ w1.heap.size := hbw.size
  have s22 : act1.tmps.getD 22 undef = .pointer (some ⟨b22, 0, none⟩) := by
    have h : VR ⟨args, w.heap.size, noLoan⟩ w1 μ1 _ (.bp 22 0) (act1.tmps.getD 22 undef) := st.slots 22
    rw [VR] at h
    obtain ⟨b', hb', e⟩ := h
    have m22' : μ1 22 = some b22 := m22
    rw [m22'] at hb'; cases hb'; exact e
  have s23 : act1.tmps.getD 23 undef = .pointer (some ⟨b23, 0, none⟩) := by
    have h : VR ⟨args, w.heap.size, noLoan⟩ w1 μ1 _ (.bp 23 0) (act1.tmps.getD 23 undef) := st.slots 23
    rw [VR] at h
    obtain ⟨b', hb', e⟩ := h
    have m23' : μ1 23 = some b23 := m23
    rw [m23'] at hb'; cases hb'; exact e
  have m22' : μ1 22 = some b22 := m22
  have m23' : μ1 23 = some b23 := m23
  have mo' : μ1 155 = some bo := mo
  have hgo : ∀ {x : Nat}, (w.heap.size ≤ x ∨ noLoan x) → w.heap.size ≤ x := fun h => h.resolve_right (fun h => h)
  have g22' := hgo g22
  have g23' := hgo g23
  have go' := hgo go
  obtain ⟨tm, df⟩ := act1
  simp only at hdf hsz s22 s23 hg
  subst hdf
  refine (wpIn_wide (n := 6)).1 (wpIn_block ?_)
  refine wpIn_rangeFunc_ownF rfl (by omega) (gf := 88) (lb := #[.pointer (some ⟨bs, 0, none⟩)]) hg trivial (enters_of Try.func88 (by kernel_rfl) rfl)
    (backward_stops _ (by omega) bs b65 0 cap m (by omega) ad V hcap w1 (fun h => ⟨had h, hbl⟩) hbsl (by simp [World.cell?, qs]) (fun x => (hV x).1)) kpb_t
    (fun W l o o' hl h1 h2 h3 => ⟨World.putObj_heap_other (by omega), World.putObj_heap_other (by omega)⟩) (Below.refl _ _) (fun _ => rfl)
    (fun pre W => ∃ bo', WJ b22 b23 bo' (bkS a b c d s (pre.map (·.1))).1 (bkS a b c d s (pre.map (·.1))).2 W ∧ (bo' = bo ∨ w1.heap.size ≤ bo') ∧ Bel ⟨[], w1.heap.size, ln3 b22 b23 bo⟩ w1 W)
    (fun c pre W => False)
    (fun pre W W' row hI hg hr => by
      obtain ⟨bo', h1, h2, h3⟩ := hI
      exact ⟨bo', wj_grown h1 hg (fun r e => (hr r e).2), h2, bel_grown h3 hg hr⟩)
    (fun c s A B row hs hg hr => hs)
    ⟨bo, hwj, .inl rfl, Bel.refl _ _⟩
    (fun x => ({ tmps := rTm tm x.1 (V x), defers := [] } : Act).put (some 25) (V x)) ?assign ?body ?done ?stop
  case assign =>
    intro l x W K hK
    have e : ((#[158, 159] : Array Tmp).zip #[.int .i64 (x.1 : Nat), V x]).foldl (fun t x => match x with | (p, v) => t.setIfInBounds p v) tm = rTm tm x.1 (V x) := by simp [rTm]
    rw [e]
    obtain ⟨h1, h2, _⟩ := rTm_get (x := x.1) (v := V x) hsz
    revert hK h1 h2
    generalize rTm tm x.1 (V x) = T
    intro hK h1 h2
    refine wpIn_region_list ?_
    have e2 : ({ tmps := T, defers := [] } : Act).eval (.tmp 159) = V x := h2
    rw [← e2] at hK
    show wpListIn _ _ _ _ _ (_ :: []) _ _
    unfold wpListIn
    refine (if_pos (show Region.wanted _ _ = true from rfl)).mpr ?_
    refine ⟨fun f _ => trivial, ?_⟩
    rw [Oper.semAt_eq _ _ _ (by simp)]
    exact hK
  case body =>
    rintro l pre x W ⟨bo', hw, hbo, hbel⟩ hlen
    obtain ⟨h1, h2, h3, h4⟩ := rTm_get (x := x.1) (v := V x) hsz
    have hx := x.2
    refine wpIn_block ?_
    have hlen2 := bkS_len a b c d s (pre.map (·.1))
    have hlt2 := bkS_lt a b c d s hn1 (pre.map (·.1))
    rw [List.length_map] at hlen2
    have hrow : rows.getD x.1 [] = wyF d (wyB a b c d s x.1) a.length := by
      rw [← hrows, List.getD_eq_getElem?_getD, wyRows_get (by omega)]; rfl
    have hget : (rows.getD x.1 []).getD (bkS a b c d s (pre.map (·.1))).1 0 = ((wyI d (wyB a b c d s x.1) a.length (bkS a b c d s (pre.map (·.1))).1 a.length : Nat) : Int) := by
      rw [hrow, wyF_get hlt2]
    have hrlen : (rows.getD x.1 []).length = a.length := by rw [hrow, wyF_len]
    have happ := bkS_app a b c d s (pre.map (·.1)) x.1
    obtain ⟨p, hp⟩ : ∃ p, (bkS a b c d s (pre.map (·.1))).1 = p := ⟨_, rfl⟩
    obtain ⟨q, hq⟩ : ∃ q, (bkS a b c d s (pre.map (·.1))).2 = q := ⟨_, rfl⟩
    rw [hp, hq] at hw happ
    rw [hp] at hlt2 hget
    rw [hq] at hlen2
    have hcW : HC ⟨[], W.heap.size, ln3 b22 b23 bo'⟩ W (mu3 b22 b23 bo') (lkH (hp3 (p : Nat) q)) W := hc_of_wj hw rfl (Bel.refl _ _) (.inr (.inl rfl)) (.inr (.inr (.inl rfl))) (.inr (.inr (.inr rfl)))
    refine (body_w (F := Fence.wide.inRound l) (.inr ⟨l, rfl⟩) (Z := [(22, .pointer (some ⟨b22, 0, none⟩)), (23, .pointer (some ⟨b23, 0, none⟩))]) rfl (row := rows.getD x.1 []) (l := q) (p := p) (by omega) (by omega) (by omega) (by omega) ?_ : AWd _ _ _ _ _ _ ⟨[], W.heap.size, ln3 b22 b23 bo'⟩ W [] _ _ _) (mu3 b22 b23 bo') _ W rfl ?_ ⟨hcW, ?_, fun n => ?_⟩
    · intro μ2 a2 W2 hd2 hz2 hs2
      obtain ⟨b22', b23', bo2, n22, n23, no, hw2, k22, k23, ko⟩ := wj_of_hc hs2.hc (by simp)
      have z22 := hz2 (22, .pointer (some ⟨b22, 0, none⟩)) (by simp)
      have z23 := hz2 (23, .pointer (some ⟨b23, 0, none⟩)) (by simp)
      have q22 : VR _ _ μ2 _ (.bp 22 0) (a2.tmps.getD 22 undef) := hs2.slots 22
      have q23 : VR _ _ μ2 _ (.bp 23 0) (a2.tmps.getD 23 undef) := hs2.slots 23
      rw [VR] at q22 q23
      simp only at z22 z23
      rw [z22] at q22
      rw [z23] at q23
      obtain ⟨x22, i22, j22⟩ := q22
      obtain ⟨x23, i23, j23⟩ := q23
      rw [n22] at i22; cases i22
      rw [n23] at i23; cases i23
      cases j22; cases j23
      have hb2 := hs2.hc.below
      refine ⟨bel_others hb2 hw, ⟨?_, ?_⟩, bo2, ?_, ?_, bel_round hbel hb2 hbo⟩
      · refine hb2.block bs (Nat.lt_of_lt_of_le hbsl hbel.size) fun hl => ?_
        rcases hl with e | e | e
        · exact hbs22 e
        · exact hbs23 e
        · rcases hbo with hb | hb
          · exact hbso (e.trans hb)
          · omega
      · refine hb2.block b65 (Nat.lt_of_lt_of_le hbl hbel.size) fun hl => ?_
        rcases hl with e | e | e
        · exact hn22 e
        · exact hn23 e
        · rcases hbo with hb | hb
          · exact hno (e.trans hb)
          · omega
      · rw [List.map_append, List.map_cons, List.map_nil, happ]
        rw [hget] at hw2
        exact hw2
      · rcases ko with h | h
        · exact .inr (Nat.le_trans hbel.size h)
        · rcases h with e | e | e
          · exact absurd e.symm hw2.n2
          · exact absurd e.symm hw2.n3
          · subst e; exact hbo
    · intro p hp
      simp only [List.mem_cons, List.not_mem_nil, or_false] at hp
      rcases hp with rfl | rfl
      · show ((({ tmps := rTm tm x.1 (V x), defers := [] } : Act).put (some 25) (V x)).tmps.getD 22 undef) = _
        rw [put_getD (N := 171) h1 (by rfl)]
        simp only []
        rw [if_neg (by omega), h3, s22]
      · show ((({ tmps := rTm tm x.1 (V x), defers := [] } : Act).put (some 25) (V x)).tmps.getD 23 undef) = _
        rw [put_getD (N := 171) h1 (by rfl)]
        simp only []
        rw [if_neg (by omega), h4, s23]
    · simp [Act.put, h1]
    · rw [put_getD (N := 171) h1 (by rfl)]
      simp only []
      by_cases e25 : n = 25
      · subst e25
        rw [if_pos rfl]
        show VR _ _ _ _ (.old (.il (rows.getD x.1 []))) _
        rw [VR]
        refine TR.mono (fun b0 hb0 hk0 => ?_) _ _ (hV x).2
        have e1 : b0 ≠ b22 := fun e => hk0 22 rfl (by rw [m22', e])
        have e2 : b0 ≠ b23 := fun e => hk0 23 rfl (by rw [m23', e])
        have e3 : b0 ≠ bo := fun e => hk0 155 rfl (by rw [mo', e])
        have e4 : b0 ≠ bo' := fun e => by rcases hbo with hb | hb <;> omega
        refine ⟨Nat.lt_of_lt_of_le hb0 hbel.size, fun i hi e => ?_, hbel.block b0 hb0 fun hl => ?_⟩
        · obtain ⟨B, hB⟩ := Option.isSome_iff_exists.1 hi
          rcases hp3_in hB with ⟨rfl, _⟩ | ⟨rfl, _⟩ | ⟨rfl, _⟩ <;> (simp [mu3] at e; omega)
        · rcases hl with e | e | e
          · exact e1 e
          · exact e2 e
          · exact e3 e
      · rw [if_neg e25]
        by_cases e22 : n = 22
        · subst e22
          rw [h3, s22]
          show VR _ _ _ _ (.bp 22 0) _
          rw [VR]; exact ⟨b22, rfl, rfl⟩
        by_cases e23 : n = 23
        · subst e23
          rw [h4, s23]
          show VR _ _ _ _ (.bp 23 0) _
          rw [VR]; exact ⟨b23, rfl, rfl⟩
        simp only [lkF, beq_ne e25, beq_ne e22, beq_ne e23, cond_false]
        rw [VR]; trivial
  case done =>
    rintro D ys W hD hS ⟨bo', hw, hbo, hbel⟩ hK
    rw [hS, ← hm, bkS_fall a b c d s hs1 _ (Nat.le_refl _)] at hw
    simp only at hw
    have hsl : s.length - 1 + 1 = s.length := by omega
    rw [hsl] at hw
    have hll := wyL_len a b c d s s.length
    have hrev := wyL_rev a b c d s
    have gbo' : w.heap.size ≤ bo' := by rcases hbo with rfl | hb <;> omega
    have hB1 : Below w.heap.size w w1 := hbw.below (fun _ h => h)
    have hB2 : Below w.heap.size w1 W := ⟨hbel.os, hbel.tape, hbel.output, hbel.size, fun k hk => hbel.block k (by omega) (fun hl => by rcases hl with e | e | e <;> omega)⟩
    have hcW : HC ⟨[], W.heap.size, ln3 b22 b23 bo'⟩ W (mu3 b22 b23 bo') (lkH (hp3 (wyA a b c d s s.length (s.length - 1) : Nat) (wyL a b c d s s.length))) W := hc_of_wj hw rfl (Bel.refl _ _) (.inr (.inl rfl)) (.inr (.inr (.inl rfl))) (.inr (.inr (.inr rfl)))
    refine (wpIn_wide (n := 6)).1 ((tail_w (F := Fence.wide) (.inl rfl) (by omega) (by omega) ?_ : AWd _ _ _ _ _ _ ⟨[], W.heap.size, ln3 b22 b23 bo'⟩ W [{ target := .collected D, args := #[] }] _ _ _) (mu3 b22 b23 bo') _ W rfl (fun p hp => by cases hp) ⟨hcW, hsz, fun n => ?_⟩)
    · intro μ2 a2 W2 hd2 hs2
      have hb2 := hs2.hc.below
      have hDl : D < W.heap.size := (Array.getElem?_eq_some_iff.1 hK).1
      have hK2 : W2.heap[D]? = some (.deferred (some [])) := (hb2.block D hDl fun hl => by
        obtain ⟨cap, cs, q1, q2, _⟩ := hw.c23
        rcases hl with e | e | e
        · rw [e, hw.c22] at hK; cases hK
        · rw [e, q1] at hK; cases hK
        · rw [e, q2] at hK; cases hK).trans hK
      have v4 : VR _ _ μ2 _ (.own 155 0 (wyL a b c d s s.length).length) (a2.tmps.getD 4 undef) := hs2.slots 4
      have v5 : VR _ _ μ2 _ (.t (.v (.bool true))) (a2.tmps.getD 5 undef) := hs2.slots 5
      rw [VR] at v4
      rw [VR, TR] at v5
      rcases v4 with ⟨_, _, h, _⟩ | ⟨b0, cap, e0, n0, hb0, hy4, hsh, hc1, hc2⟩
      · omega
      obtain ⟨_, k155⟩ := hs2.hc.blk 155 _ rfl
      rcases k155 with ⟨h, _⟩ | ⟨b0', cs, hb0', g155, q155, hlen, hall⟩
      · rw [h] at hb0; cases hb0
      rw [hb0] at hb0'; cases hb0'
      rw [size_shape q155] at hsh; cases hsh
      rw [hrev] at hall hlen
      have hrl := wyR_len a b c d s
      have hb0g : w.heap.size ≤ b0 := by
        have hsW := hB2.size
        rcases g155 with h | h
        · omega
        · rcases h with e | e | e <;> omega
      have hne : b0 ≠ D := fun e => by rw [e, hK2] at q155; cases q155
      have q3 : (W2.putObj D (.deferred none)).heap[b0]? = some (.cells cs 2 (0, 0)) := (World.putObj_heap_other hne).trans q155
      have hB3 : Below w.heap.size w (W2.putObj D (.deferred none)) := (hB1.trans hB2).trans ⟨hb2.os, hb2.tape, hb2.output, by rw [World.putObj_size]; exact hb2.size, fun k hk => by
        have hsW := hB2.size
        rw [World.putObj_heap_other (by omega)]
        exact hb2.block k (by omega) (fun hl => by rcases hl with e | e | e <;> omega)⟩
      have hcs : ∀ i, i < (wyR a b c d s).length → cs[i]? = some (.int .i64 ((wyR a b c d s).getD i 0)) := fun i hi => by
        obtain ⟨z, hz, hr⟩ := ((TRl_iff ..).1 hall).2 i (.v (.int .i64 (wyR a b c d s)[i])) (by simp [T.elems, hi])
        rw [List.getElem?_take] at hz
        simp only [T.len, hi, if_true] at hz
        rw [TR] at hr
        subst hr
        rw [show (wyR a b c d s).getD i 0 = (wyR a b c d s)[i] by simp [List.getD_eq_getElem?_getD, hi]]
        simpa using hz
      show LeavesInM _ _ _ _ _ _ a2.defers _ _
      rw [hd2]
      refine ⟨by simp, .inl ⟨D, _, rfl, run_takeDeferred hK2, ?_⟩⟩
      refine ⟨.tuple #[.slice (some ⟨b0, 0, none⟩) (wyL a b c d s s.length).length cap, .bool true], ?_, ?_⟩
      · rw [Array.getD_eq_getD_getElem?] at hy4 v5
        simp [results, Try.f12, go_sem, hy4, v5]
      · refine ⟨_, fun i => if i = 0 then some b0 else none, rfl, ⟨rfl, (Bel.refl _ _).grow hB3, fun i B hB => ?_, fun i j b' hi hj _ _ => ?_⟩, ?_⟩
        · have hi : i = 0 ∧ B = .sl 2 (.il (wyR a b c d s)) := by
            by_cases e : i = 0
            · subst e; exact ⟨rfl, (Option.some.inj hB).symm⟩
            · simp only [wayHH, lkH, beq_ne e, cond_false] at hB; cases hB
          obtain ⟨rfl, rfl⟩ := hi
          exact ⟨rfl, .inr ⟨b0, cs, rfl, .inl hb0g, q3, hlen, cells_TRl hlen hcs⟩⟩
        · have h0 : ∀ i, (lkH (wayHH (wyR a b c d s, true)) i).isSome → i = 0 := fun i hi => by
            by_cases e : i = 0
            · exact e
            · simp only [wayHH, lkH, beq_ne e, cond_false] at hi; cases hi
          rw [h0 i hi, h0 j hj]
        · rw [RRel]
          refine ⟨_, rfl, ?_⟩
          rw [RRell]
          refine ⟨_, _, rfl, ?_, ?_⟩
          · rw [RRel]
            exact .inr ⟨b0, cap, 2, cs.size, rfl, by rw [hll, hrl], by rw [size_shape q3], by omega, by show (wyR a b c d s).length ≤ cap; omega⟩
          · rw [RRell]
            refine ⟨_, _, rfl, ?_, by rw [RRell]⟩
            rw [RRel, TR]
    · by_cases e22 : n = 22
      · subst e22
        show VR _ _ _ _ (.bp 22 0) (tm.getD 22 undef)
        rw [s22, VR]; exact ⟨b22, rfl, rfl⟩
      by_cases e23 : n = 23
      · subst e23
        show VR _ _ _ _ (.bp 23 0) (tm.getD 23 undef)
        rw [s23, VR]; exact ⟨b23, rfl, rfl⟩
      simp only [lkF, beq_ne e22, beq_ne e23, cond_false]
      rw [VR]; trivial
  case stop =>
    intro D c0 pre W hD _ hf hK
    exact hf.elim
end Go.Proofs.Ytpdnjcblkjjegaa

