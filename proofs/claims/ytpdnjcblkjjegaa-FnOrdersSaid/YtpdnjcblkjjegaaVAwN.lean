/- Blocks of slices that are written through. No condition. -/
import Derived.Test.YtpdnjcblkjjegaaVAwC
import Derived.Test.YtpdnjcblkjjegaaVAwM
import Derived.Laws.CopyRow
set_option linter.unusedVariables false
namespace Go.Aw
open Go.RowKit (Below)

/-- the name of row k of the block J -/
def hid (J k : Nat) : Nat := bigN * (k + 1) + J
theorem hid_big (J k : Nat) : bigN ≤ hid J k := by unfold hid bigN; omega
theorem hid_inj {J k m : Nat} (h : hid J k = hid J m) : k = m := by unfold hid bigN at h; omega
/-- the heap of names below 'bigN' and of those above it -/
def ovH (η fm : Hp) : Hp := fun i => bif Nat.blt i bigN then η i else fm i
theorem ovH_lt {η fm : Hp} {i : Nat} (h : i < bigN) : ovH η fm i = η i := by
  unfold ovH
  rw [show Nat.blt i bigN = true from Nat.ble_eq_true_of_le h]; rfl
theorem ovH_ge {η fm : Hp} {i : Nat} (h : bigN ≤ i) : ovH η fm i = fm i := by
  unfold ovH
  have : Nat.blt i bigN = false := by
    cases hb : Nat.blt i bigN with
    | false => rfl
    | true => have := Nat.le_of_ble_eq_true hb; omega
  rw [this]; rfl
/-- rows of flat data -/
def FamOk (fm : Hp) : Prop := ∀ i B, fm i = some B → ∃ e c, B = .sl e c
def smL (l : List Nat) : Bool := l.all fun i => Nat.blt i bigN
theorem smL_lt {l : List Nat} (h : smL l = true) : ∀ i ∈ l, i < bigN := fun i hi => Nat.le_of_ble_eq_true (List.all_eq_true.1 h i hi)
def smC : List (Nat × Blk) → Bool
  | [] => true
  | (i, _) :: r => Nat.blt i bigN && smC r
theorem smC_lk {ch : List (Nat × Blk)} (h : smC ch = true) {i : Nat} (hi : bigN ≤ i) : lkH ch i = none := by
  induction ch with
  | nil => rfl
  | cons p r ih =>
    obtain ⟨j, B⟩ := p
    simp only [smC, Bool.and_eq_true] at h
    have hj := Nat.le_of_ble_eq_true h.1
    simp only [lkH]
    have : Nat.beq i j = false := by
      cases hb : Nat.beq i j with
      | false => rfl
      | true => have := Nat.eq_of_beq_eq_true hb; omega
    rw [this]; exact ih h.2
theorem hpS_ov {S : List Nat} {ch : List (Nat × Blk)} {η fm : Hp} (hS : smL S = true) (hc : smC ch = true) (hf : FamOk fm) : hpS S (lkH ch) (ovH η fm) = ovH (hpS S (lkH ch) η) fm := by
  funext i
  rcases Nat.lt_or_ge i bigN with h | h
  · rw [ovH_lt h]
    simp only [hpS, ovH_lt h]
  · rw [ovH_ge h]
    have h1 := smC_lk hc h
    have h2 : S.contains i = false := by
      cases hb : S.contains i with
      | false => rfl
      | true => have := smL_lt hS i (by simpa using hb); omega
    simp only [hpS, h1, h2, ovH_ge h, Bool.false_eq_true, if_false]
    cases hB : fm i with
    | none => rfl
    | some B => obtain ⟨e, c, rfl⟩ := hf i B hB; rfl
theorem q_ov {P : Program} {o : Oper} {F S : List Nat} {ρ : Fr} {η fm : Hp} {v : AV} {ch : Hp} (h : QRun P o F S ρ η v ch) (hF : smL F = true) : QRun P o F S ρ (ovH η fm) v ch :=
  QRun_congr h (fun _ _ => rfl) fun i hi => ovH_lt (smL_lt hF i hi)
theorem foot_ov {F C S : List Nat} {xs : List AV} {η fm : Hp} {v : AV} {ch : List (Nat × Blk)} (h : footB F C S xs η v ch = true) (hF : smL F = true) : footB F C S xs (ovH η fm) v ch = true := by
  simp only [footB, Bool.and_eq_true] at h ⊢
  refine ⟨h.1, ?_⟩
  have h6 := h.2
  simp only [List.all_eq_true] at h6 ⊢
  exact fun k hk => by rw [ovH_lt (smL_lt hF k hk)]; exact h6 k hk

/-! ### the steps of a walk -/
section
variable {P : Program} {N : Nat} {ops : Array Oper} {dr : Bool} {K : Fr → Hp → Prop} {o : Oper} {l : List Oper} {α : List (Nat × AV)} {H ch : List (Nat × Blk)} {fm : Hp} {v : AV}

theorem npx_q {d : Nat} {v' : AV} {F : List Nat} (hf : FamOk fm) (hg : guardA ops (lkF α) o = some true) (hd : o.dst = some d) (hN : Nat.blt d N = true) (hq : QRun P o F [] (lkF α) (lkH H) v (lkH []))
    (hs : smL F = true) (hv : v = v') (h : LexD P N ops false K [] l (lkF ((d, v') :: α)) (ovH (lkH H) fm)) : LexD P N ops false K [] (o :: l) (lkF α) (ovH (lkH H) fm) := by
  subst hv
  obtain ⟨tab, h1, _⟩ := h
  have e : hpS [] (lkH []) (ovH (lkH H) fm) = ovH (lkH H) fm := hpS_nil _
  exact ⟨_ :: tab, ⟨F, [], [], v, [], tab, rfl, ⟨by rw [hd]; exact hN, .inl ⟨hg, q_ov hq hs, rfl⟩⟩, by rw [hd, step_F, e]; exact h1⟩, rfl⟩
theorem npx_st {H' : List (Nat × Blk)} {F : List Nat} (hf : FamOk fm) (hg : guardA ops (lkF α) o = some true) (hd : o.dst = none) (hq : QRun P o F [] (lkF α) (lkH H) v (lkH ch)) (hs : smL F = true) (hc : smC ch = true)
    (hH : ch ++ H = H') (h : LexD P N ops false K [] l (lkF α) (ovH (lkH H') fm)) : LexD P N ops false K [] (o :: l) (lkF α) (ovH (lkH H) fm) := by
  subst hH
  obtain ⟨tab, h1, _⟩ := h
  exact ⟨_ :: tab, ⟨F, fst' ch, [], v, ch, tab, rfl, ⟨by rw [hd]; rfl, .inl ⟨hg, q_ov hq hs, rfl⟩⟩, by rw [hd, step_F0, hpS_ov rfl hc hf, step_H]; exact h1⟩, rfl⟩
theorem npx_s {d : Nat} {S : List Nat} {v' : AV} {α' : List (Nat × AV)} {H' : List (Nat × Blk)} {F : List Nat} (hf : FamOk fm) (hg : guardA ops (lkF α) o = some true) (hd : o.dst = some d) (hN : Nat.blt d N = true) (hq : QRun P o F S (lkF α) (lkH H) v (lkH ch))
    (hs : smL F = true) (hS : smL S = true) (hc : smC ch = true) (hv : v = v') (hα : scrubF S α = α') (hH : ch ++ scrubHL S H = H') (h : LexD P N ops false K [] l (lkF ((d, v') :: α')) (ovH (lkH H') fm)) : LexD P N ops false K [] (o :: l) (lkF α) (ovH (lkH H) fm) := by
  subst hv; subst hα; subst hH
  obtain ⟨tab, h1, _⟩ := h
  exact ⟨_ :: tab, ⟨F, chC S (fst' ch), S, v, ch, tab, rfl, ⟨by rw [hd]; exact hN, .inl ⟨hg, q_ov hq hs, rfl⟩⟩, by rw [hd, step_FS, hpS_ov hS hc hf, step_HS]; exact h1⟩, rfl⟩
theorem npx_skip {d : Nat} (hg : guardA ops (lkF α) o = some false) (hd : o.dst = some d) (hN : Nat.blt d N = true) (h : LexD P N ops false K [] l (lkF ((d, .t (.v undef)) :: α)) (ovH (lkH H) fm)) :
    LexD P N ops false K [] (o :: l) (lkF α) (ovH (lkH H) fm) := by
  obtain ⟨tab, h1, h2⟩ := h
  have e : hpS [] (lkH []) (ovH (lkH H) fm) = ovH (lkH H) fm := hpS_nil _
  exact ⟨_ :: tab, ⟨[], [], [], .t (.v undef), [], tab, rfl, ⟨by rw [hd]; exact hN, .inr ⟨hg, .inr rfl, rfl, rfl⟩⟩, by rw [hd, step_F, e]; exact h1⟩, rfl⟩
variable {pre : List (List Nat × List Nat)}
theorem ndx_q {d : Nat} {v' : AV} {F : List Nat} (hf : FamOk fm) (hg : guardA ops (lkF α) o = some true) (hd : o.dst = some d) (hN : Nat.blt d N = true) (hq : QRun P o F [] (lkF α) (lkH H) v (lkH []))
    (hs : smL F = true) (hv : v = v') (hft : footB F [] [] (o.op.operands.toList.map (evA (lkF α))) (lkH H) v' [] = true) (h : LexD P N ops true K ((F, []) :: pre) l (lkF ((d, v') :: α)) (ovH (lkH H) fm)) :
    LexD P N ops true K pre (o :: l) (lkF α) (ovH (lkH H) fm) := by
  subst hv
  obtain ⟨tab, h1, h2⟩ := h
  have e : hpS [] (lkH []) (ovH (lkH H) fm) = ovH (lkH H) fm := hpS_nil _
  exact ⟨_ :: tab, ⟨_, _, [], v, [], tab, rfl, ⟨by rw [hd]; exact hN, .inl ⟨hg, q_ov hq hs, by simpa using foot_ov hft hs⟩⟩, by rw [hd, step_F, e]; exact h1⟩, by simpa using h2⟩
theorem ndx_st {H' : List (Nat × Blk)} {F : List Nat} (hf : FamOk fm) (hg : guardA ops (lkF α) o = some true) (hd : o.dst = none) (hq : QRun P o F [] (lkF α) (lkH H) v (lkH ch)) (hs : smL F = true) (hc : smC ch = true)
    (hH : ch ++ H = H') (hft : footB F (fst' ch) [] (o.op.operands.toList.map (evA (lkF α))) (lkH H) v ch = true) (h : LexD P N ops true K ((F, fst' ch) :: pre) l (lkF α) (ovH (lkH H') fm)) :
    LexD P N ops true K pre (o :: l) (lkF α) (ovH (lkH H) fm) := by
  subst hH
  obtain ⟨tab, h1, h2⟩ := h
  exact ⟨_ :: tab, ⟨_, _, [], v, ch, tab, rfl, ⟨by rw [hd]; rfl, .inl ⟨hg, q_ov hq hs, by simpa using foot_ov hft hs⟩⟩, by rw [hd, step_F0, hpS_ov rfl hc hf, step_H]; exact h1⟩, by simpa using h2⟩
theorem ndx_s {d : Nat} {S : List Nat} {v' : AV} {α' : List (Nat × AV)} {H' : List (Nat × Blk)} {F : List Nat} (hf : FamOk fm) (hg : guardA ops (lkF α) o = some true) (hd : o.dst = some d) (hN : Nat.blt d N = true) (hq : QRun P o F S (lkF α) (lkH H) v (lkH ch))
    (hs : smL F = true) (hS : smL S = true) (hc : smC ch = true) (hv : v = v') (hα : scrubF S α = α') (hH : ch ++ scrubHL S H = H') (hft : footB F (chC S (fst' ch)) S (o.op.operands.toList.map (evA (lkF α))) (lkH H) v' ch = true)
    (h : LexD P N ops true K ((F, chC S (fst' ch)) :: pre) l (lkF ((d, v') :: α')) (ovH (lkH H') fm)) : LexD P N ops true K pre (o :: l) (lkF α) (ovH (lkH H) fm) := by
  subst hv; subst hα; subst hH
  obtain ⟨tab, h1, h2⟩ := h
  exact ⟨_ :: tab, ⟨_, _, S, v, ch, tab, rfl, ⟨by rw [hd]; exact hN, .inl ⟨hg, q_ov hq hs, by simpa using foot_ov hft hs⟩⟩, by rw [hd, step_FS, hpS_ov hS hc hf, step_HS]; exact h1⟩, by simpa using h2⟩
theorem ndx_skip {d : Nat} (hg : guardA ops (lkF α) o = some false) (hd : o.dst = some d) (hN : Nat.blt d N = true) (h : LexD P N ops true K (([], []) :: pre) l (lkF ((d, .t (.v undef)) :: α)) (ovH (lkH H) fm)) :
    LexD P N ops true K pre (o :: l) (lkF α) (ovH (lkH H) fm) := by
  obtain ⟨tab, h1, h2⟩ := h
  have e : hpS [] (lkH []) (ovH (lkH H) fm) = ovH (lkH H) fm := hpS_nil _
  exact ⟨_ :: tab, ⟨_, _, [], .t (.v undef), [], tab, rfl, ⟨by rw [hd]; exact hN, .inr ⟨hg, .inr rfl, rfl, rfl⟩⟩, by rw [hd, step_F, e]; exact h1⟩, by simpa using h2⟩
theorem nlex_if {η : Hp} {j t : Nat} {want b : Bool} (hg : o.guard = some (j, want)) (hj : (ops[j]?).bind (·.dst) = some t) (ht : lkF α t = .t (.v (.bool b)))
    (h1 : b = true → LexD P N ops dr K pre (o :: l) (lkF ((t, .t (.v (.bool true))) :: α)) η) (h0 : b = false → LexD P N ops dr K pre (o :: l) (lkF ((t, .t (.v (.bool false))) :: α)) η) : LexD P N ops dr K pre (o :: l) (lkF α) η := by
  cases b with
  | true => have := h1 rfl; rwa [lkF_same ht] at this
  | false => have := h0 rfl; rwa [lkF_same ht] at this
end
end Go.Aw

set_option linter.unusedVariables false
namespace Go.Aw
open Go.RowKit (Below)

def noRem : Nat → Bool := fun _ => false
/-- the ids that the cells mention -/
def GoodN (vis : List Nat) (L : List AV) : Prop := ∀ v ∈ L, ∀ j ∈ v.ids, bigN ≤ j ∨ j ∈ vis
theorem good_hit {vis : List Nat} {L : List AV} (h : GoodN vis L) {k : Nat} {v : AV} (hv : L[k]? = some v) {j : Nat} (hj : j ∈ v.ids) : hitN vis noRem j = false := by
  rcases h v (List.mem_of_getElem? hv) j hj with h | h
  · have : Nat.blt j bigN = false := by
      cases hb : Nat.blt j bigN with
      | false => rfl
      | true => have := Nat.le_of_ble_eq_true hb; omega
    simp [hitN, noRem, this]
  · have : vis.contains j = true := by simpa using h
    unfold hitN noRem
    rw [this]; simp
theorem good_nil : GoodN [] [] := fun v hv => by cases hv
theorem good_app {a b : List Nat} {L M : List AV} (h1 : GoodN a L) (h2 : GoodN b M) : GoodN (a ++ b) (L ++ M) := fun v hv j hj => by
  rcases List.mem_append.1 hv with h | h
  · exact (h1 v h j hj).imp id fun h => List.mem_append.2 (.inl h)
  · exact (h2 v h j hj).imp id fun h => List.mem_append.2 (.inr h)
/-- none of 'S' is told of -/
def keepN (S vis : List Nat) : Bool := S.all fun i => Nat.blt i bigN && !vis.contains i
theorem scrub_nest {S vis : List Nat} {e : TypeId} {L : List AV} (h : keepN S vis = true) : scrubB S (.nest e L vis noRem) = .nest e L vis noRem := by
  have h := List.all_eq_true.1 h
  refine scrubB_id (fun i hi hs => ?_) fun i hi => ?_
  · have := h i hs
    simp only [Bool.and_eq_true, Bool.not_eq_true'] at this
    have h2 := this.2
    rw [show vis.contains i = true by simpa [Blk.ids] using hi] at h2; cases h2
  · have := h i hi
    simp only [Bool.and_eq_true] at this
    exact Nat.le_of_ble_eq_true this.1
theorem VR_known {vs : Env} {w : World} {μ : Nat → Option Nat} {ok : Nat → Prop} {vis : List Nat} {L : List AV} {cs : Array Value} (hg : GoodN vis L)
    (H : ∀ (k : Nat) (v : AV), L[k]? = some v → ∃ x, cs[k]? = some x ∧ ((∃ j ∈ v.ids, hitN vis noRem j = true) ∨ VR vs w μ ok v x)) (k : Nat) (v : AV) (hv : L[k]? = some v) : ∃ x, cs[k]? = some x ∧ VR vs w μ ok v x := by
  obtain ⟨x, hx, h | h⟩ := H k v hv
  · obtain ⟨j, hj, hh⟩ := h
    rw [good_hit hg hv hj] at hh; cases hh
  · exact ⟨x, hx, h⟩

section
variable {P : Program} {o : Oper} {F : List Nat} {ρ : Fr} {η : Hp} {ty : Ty}

theorem q_load_nest {t : TypeId} {e : TE} {e0 : TypeId} {L : List AV} {vis : List Nat} {v : AV} {x : Operand} {id off : Nat} (hlt : L[off]? = some v) (hg : GoodN vis L) (hT : TyOk P ty) (ho : o.op = .load t x) (ht : ty.get t = some e) (hk : e.d.known = true) (ha : e.d.agg = false)
    (hx : evA ρ x = .bp id off) (hη : η id = some (.nest e0 L vis noRem)) (hF : F.contains id = true) : QRun P o F [] ρ η v (lkH []) := by
  refine qrun_val fun vs w0 μ η' a w h1 h2 h3 => ?_
  have hx' := h3 x (by simp [ho, Op.operands])
  rw [hx, VR] at hx'
  obtain ⟨b, hμ, hv⟩ := hx'
  have hB := h2.blk id _ ((h1 id (by simpa using hF)).trans hη)
  rcases hB with ⟨hn, _⟩ | ⟨b', cs, hb', _, hw, _, hcs⟩
  · rw [hn] at hμ; cases hμ
  rw [hb'] at hμ; cases hμ
  obtain ⟨z, hz, hr⟩ := VR_known hg hcs off v hlt
  exact ⟨z, w.drawn, by simp [execOp, ho, hv, Instr.loadAt, Instr.sureAddr, loadVar_scalar (hT.get ht) hk ha ((cell_of_block hw off).trans hz)], hr⟩

theorem q_store_nest {t : TypeId} {e : TE} {e0 : TypeId} {L : List AV} {vis : List Nat} {x y : Operand} {id off : Nat} {v : AV} (hlt : off < L.length) (hT : TyOk P ty) (ho : o.op = .store t x y) (ht : ty.get t = some e) (hs : e.size = 1)
    (hx : evA ρ x = .bp id off) (hη : η id = some (.nest e0 L vis noRem)) (hF : F.contains id = true) (hy : evA ρ y = v) (hv1 : oneA v = true) :
    QRun P o F [] ρ η .junk (lkH [(id, .nest e0 (L.set off v) vis noRem)]) := by
  intro vs w0 μ η' a w Q K h1 h2 h3 h4
  have hx' := h3 x (by simp [ho, Op.operands])
  have hy' := h3 y (by simp [ho, Op.operands])
  rw [hy] at hy'
  rw [hx, VR] at hx'
  obtain ⟨b, hμ, hv⟩ := hx'
  have hη' : η' id = some (.nest e0 L vis noRem) := (h1 id (by simpa using hF)).trans hη
  have hB := h2.blk id _ hη'
  rcases hB with ⟨hn, _⟩ | ⟨b', cs, hb', hbase, hw, hlen, hcs⟩
  · rw [hn] at hμ; cases hμ
  rw [hb'] at hμ; cases hμ
  have hone := oneA_one hy' hv1
  have hr := storeVar_one (P := P) (hT.get ht) hs hone hw (by omega : off < cs.size)
  have hw' := setCell_block (i := off) hw (a.eval y)
  obtain ⟨hc', hk⟩ := HC_mod (i := id) (b := b) (B := .nest e0 (L.set off v) vis noRem) (S := []) (w' := w.setCell ⟨b, off, none⟩ (a.eval y)) h2 (by simp) hη' hb' rfl rfl rfl (by simp) (fun c hc => setCell_other hc _)
    (by rw [size_shp hw', size_shp hw]; simp) fun hk => by
      refine .inr ⟨b, _, hb', hbase, hw', by simpa using hlen, fun k u hu => ?_⟩
      have hold := nest_mono hk (fun _ h => h) (fun i _ hg => absurd hg (by simp)) refs_idsN hcs
      rw [List.getElem?_set] at hu
      by_cases hko : off = k
      · subst hko
        rw [if_pos rfl, if_pos hlt] at hu; cases hu
        exact ⟨a.eval y, by rw [Array.getElem?_setIfInBounds_self_of_lt (by omega)], .inr (VR.mono hk _ _ (by simp) hy')⟩
      · rw [if_neg hko] at hu
        obtain ⟨z, hz, hc⟩ := hold k u hu
        exact ⟨z, by rw [Array.getElem?_setIfInBounds_ne hko]; exact hz, hc⟩
  unfold Oper.wp
  have : (execOp a.eval o).run P w = .ok .skip (w.setCell ⟨b, off, none⟩ (a.eval y)) := by simp [execOp, ho, hv, Instr.storeAt, Instr.sureAddr, hr]
  rw [this, Oper.upon_skip]
  exact h4 _ _ _ hc' hk (by rw [VR]; trivial)

/-- a slice literal of slices -/
theorem q_bslice_nest {t u : TypeId} {e eu : TE} {n : Nat} {parts : Array (Nat × Operand)} {d : Nat} {L : List AV} (vis : List Nat) (hT : TyOk P ty) (ho : o.op = .buildSlice t n parts) (hd : o.dst = some d)
    (ht : ty.get t = some e) (hsl : e.d = .sl u) (hu : ty.get u = some eu) (hs : eu.size = 1) (hz : eu.z.oneCell' = true) (hp : seqParts 0 parts.toList = true) (hn : Nat.beq n parts.size = true) (hsm : Nat.ble n 16777216 = true)
    (hL : parts.toList.map (fun p => evA ρ p.2) = L) (hone : L.all oneA = true) (hi : (idsL L).contains d = false) : QRun P o F [d] ρ η (.own d 0 n) (lkH [(d, .nest u L vis noRem)]) := by
  refine qrun_new fun vs w0 μ η' a w h1 h2 h3 => ?_
  have hn := Nat.eq_of_beq_eq_true hn
  have hsm := Nat.le_of_ble_eq_true hsm
  have hops : ∀ p ∈ parts.toList, p.2 ∈ o.op.operands := fun p hp => by
    rw [ho]; simp only [Op.operands, List.mem_toArray, List.mem_map]; exact ⟨p, hp, rfl⟩
  have hx : VRl vs w μ (okOf μ η') L (parts.toList.map fun p => a.eval p.2) := by
    rw [← hL]
    refine (VRl_iff ..).2 ⟨by simp, fun i v hv => ?_⟩
    simp only [List.getElem?_map, Option.map_eq_some_iff] at hv
    obtain ⟨p, hp, rfl⟩ := hv
    exact ⟨a.eval p.2, by simp only [List.getElem?_map, hp, Option.map_some], h3 p.2 (hops p (List.mem_of_getElem? hp))⟩
  have g4 : ∀ y ∈ (parts.toList.map fun p => a.eval p.2), y.oneCell' = true := fun y hy => by
    obtain ⟨i, hi, rfl⟩ := List.getElem_of_mem hy
    obtain ⟨hl, hv⟩ := (VRl_iff ..).1 hx
    have hi' : i < L.length := by omega
    obtain ⟨z, hz, hr⟩ := hv i L[i] (List.getElem?_eq_getElem hi')
    rw [List.getElem?_eq_getElem hi] at hz; cases hz
    exact oneA_one hr (List.all_eq_true.1 hone _ (List.getElem_mem hi'))
  have hus := (hT.get ht).slice hsl
  have hsz := (hT.get hu).sizeOf (w := w)
  rw [hs] at hsz
  have hzip : ∀ (k : Nat) (l : List (Nat × Operand)), seqParts k l = true → (l.map fun p => (p.1, a.eval p.2)) = ((l.map fun p => a.eval p.2).zipIdx k).map fun p => (p.2, p.1) := by
    intro k l
    induction l generalizing k with
    | nil => simp
    | cons p r ih =>
      obtain ⟨i, x⟩ := p
      intro h
      simp only [seqParts, Bool.and_eq_true] at h
      have := Nat.eq_of_beq_eq_true h.1
      subst this
      simp [List.zipIdx_cons, ih _ h.2]
  let zs : Array Value := if n * 1 = 0 then #[] else eu.z.cells
  obtain ⟨cs', hf, hl⟩ := fill_row (parts.toList.map fun p => a.eval p.2) g4 0 ((Array.range (n * 1)).map (zs[· % zs.size]!)) (by simp [hn])
  rw [← hzip 0 _ hp] at hf
  have hl' : cs'.toList = parts.toList.map fun p => a.eval p.2 := by simpa using hl
  have hsize : cs'.size = n := by rw [← Array.length_toList, hl']; simp [hn]
  have hLlen : L.length = n := by rw [((VRl_iff ..).1 hx).1]; simp [hn]
  refine ⟨.slice (some ⟨w.heap.size, 0, none⟩) n n, cs', u, ?_, fun w' μ' ok' hk hμ hw => ⟨.inr ⟨_, _, hμ, .inl h2.below.size, hw, by rw [hLlen, hsize]; exact Nat.le_refl _, fun k v hv => ?_⟩, ?_⟩⟩
  · have hpar : (parts.map fun x => (x.1, a.eval x.2)).toList = parts.toList.map fun p => (p.1, a.eval p.2) := by simp
    have hno : ¬ (n > 16777216) := by omega
    have hzv := (hT.get hu).zero (w := w)
    simp only [Nat.mul_one] at hf
    by_cases h0 : n = 0
    · have hz0 : zs = #[] := by simp [zs, h0]
      rw [hz0] at hf
      simp only [execOp, ho, Instr.buildSlice, Sem.run_bind, run_underlying hus, Result.andThen_ok, hsz, Nat.mul_one, hpar]
      simp [h0] at hf ⊢
      simp [hf, newRow]
    · have hz0 : zs = eu.z.cells := by simp [zs, h0]
      rw [hz0] at hf
      simp only [execOp, ho, Instr.buildSlice, Sem.run_bind, run_underlying hus, Result.andThen_ok, hsz, Nat.mul_one, hpar]
      simp [hno, h0, hzv] at hf ⊢
      simp [hf, newRow]
  · obtain ⟨z, hz, hr⟩ := ((VRl_iff ..).1 (VRl.mono hk L _ (fun i hi' => by
      have h1 : i ∈ idsL L := refs_idsN.go L i hi'
      intro h2
      have h3 : i = d := by simpa using h2
      subst h3
      rw [show (idsL L).contains i = true by simpa using h1] at hi; cases hi) hx)).2 k v hv
    exact ⟨z, by rw [← Array.getElem?_toList, hl']; exact hz, .inr hr⟩
  · rw [VR]
    exact .inr ⟨_, n, _, _, hμ, rfl, size_shape hw, by rw [hsize]; omega, Nat.le_refl _⟩

/-- 's = append(s, x...)', both blocks of slices -/
theorem q_app_nest {t u : TypeId} {e eu : TE} {tys : Array TypeId} {s x : Operand} {id bid : Nat} {e2 : TypeId} {n m : Nat} {L L2 : List AV} {vis vis2 : List Nat} (g1 : GoodN vis L) (g2 : GoodN vis2 L2) (hn : L.length = n) (hm : L2.length = m) (hT : TyOk P ty) (ho : o.op = .call { callee := .builtin .append, args := #[s, x], argTypes := tys }) (htys : tys = #[t, t])
    (ht : ty.get t = some e) (hsl : e.d = .sl u) (hu : ty.get u = some eu) (hs1 : eu.size = 1) (hz1 : eu.z.oneCell' = true)
    (hs : evA ρ s = .own id 0 n) (hη : η id = some (.nest u L vis noRem)) (hF : F.contains id = true) (hx : evA ρ x = .own bid 0 m) (hη2 : η bid = some (.nest e2 L2 vis2 noRem)) (hF2 : F.contains bid = true)
    (hkp : keepN [id] (vis ++ vis2) = true) (hone : L2.all oneA = true) (hb : (n + m) * eu.bytes ≤ 140737488355328) (hb2 : n + m ≤ 140737488355328) :
    QRun P o F [id] ρ η (.own id 0 (n + m)) (lkH [(id, .nest u (L ++ L2) (vis ++ vis2) noRem)]) := by
  intro vs w0 μ η' a w Q K h1 h2 h3 h4
  subst htys; subst hn; subst hm
  have hs' := h3 s (by simp [ho, Op.operands, Call.operands])
  have hx' := h3 x (by simp [ho, Op.operands, Call.operands])
  rw [hs, VR] at hs'
  rw [hx, VR] at hx'
  have hη' := (h1 id (by simpa using hF)).trans hη
  have hη2' := (h1 bid (by simpa using hF2)).trans hη2
  have hidn : ∀ {M : List AV} {vs' : List Nat}, GoodN vs' M → (∀ j ∈ vs', j ∈ vis ++ vis2) → ∀ v ∈ M, ∀ j ∈ v.ids, j ≠ id := fun hg hsub v hv j hj e => by
    subst e
    have := List.all_eq_true.1 hkp j (by simp)
    simp only [Bool.and_eq_true, Bool.not_eq_true'] at this
    rcases hg v hv j hj with h | h
    · have := Nat.le_of_ble_eq_true this.1; omega
    · rw [show (vis ++ vis2).contains j = true by simpa using List.mem_append.1 (hsub j h)] at this; cases this.2
  -- what is appended
  obtain ⟨ax, cp, news, hxv, hl, hnews, hf⟩ : ∃ (ax : Option Addr) (cp : Nat) (news : List Value), a.eval x = .slice ax L2.length cp ∧ news.length = L2.length ∧ (∀ (k : Nat) (v : AV), L2[k]? = some v → ∃ z, news[k]? = some z ∧ VR vs w μ (okOf μ η') v z) ∧ (∀ n, (Builtin.firstCells 1 L2.length (a.eval x)).run P { w with drawn := n } = .ok news.toArray { w with drawn := n }) := by
    rcases h2.blk bid _ hη2' with ⟨hnn, h0⟩ | ⟨b, cs, hb', _, hw, hlen, hcs⟩
    · rcases hx' with ⟨_, _, _, hv⟩ | ⟨b, _, _, _, hbb, _⟩
      · subst h0
        exact ⟨none, 0, [], hv, rfl, fun k v hv => by simp at hv, fun n => by rw [hv]; simp [Builtin.firstCells]⟩
      · rw [hnn] at hbb; cases hbb
    · rcases hx' with ⟨hnn, _⟩ | ⟨b1, cap, e1, n1, hb1, hv, _⟩
      · rw [hnn] at hb'; cases hb'
      · rw [hb'] at hb1; cases hb1
        refine ⟨_, cap, cs.toList.take L2.length, hv, by simp; omega, fun k v hkv => ?_, fun n => ?_⟩
        · obtain ⟨z, hz, hr⟩ := VR_known g2 hcs k v hkv
          have hk : k < L2.length := (List.getElem?_eq_some_iff.1 hkv).1
          exact ⟨z, by rw [List.getElem?_take, if_pos hk, Array.getElem?_toList]; exact hz, hr⟩
        · rw [hv]
          exact run_firstCells_some (P := P) { w with drawn := n } 1 L2.length ⟨b, 0, none⟩ L2.length cap (cs.toList.take L2.length) (by simp; omega) (fun j v hj => by
            rw [add1, Nat.zero_add]
            rw [List.getElem?_take] at hj
            split at hj
            · have := cell_of_block (w := { w with drawn := n }) hw j
              rw [this]; simpa using hj
            · cases hj)
  have h1news : ∀ z ∈ news, z.oneCell' = true := fun z hz => by
    obtain ⟨k, hk, rfl⟩ := List.getElem_of_mem hz
    have hk2 : k < L2.length := by omega
    obtain ⟨z, hz, hr⟩ := hnews k L2[k] (List.getElem?_eq_getElem hk2)
    rw [List.getElem?_eq_getElem hk] at hz; cases hz
    exact oneA_one hr (List.all_eq_true.1 hone _ (List.getElem_mem hk2))
  obtain ⟨inf, hinf, q1, q2, q3⟩ := (hT.get hu).info
  have hus := (hT.get ht).slice hsl
  rw [hs1] at q1
  rw [← q2] at hb
  have hexec : ∀ r, (Builtin.append_ #[t, t] o.type #[a.eval s, a.eval x]).run P w = r → (execOp a.eval o).run P w = r.andThen fun v w' => .ok (.value v) w' := fun r hr => by
    simp [execOp, ho, resolve, invoke, builtin, hr]
  -- both parts in the world behind
  have both : ∀ {w' : World} {μ' : Nat → Option Nat} {ok' : Nat → Prop} {olds : List Value} {cells : List Value}, Keeps w w' μ μ' (okOf μ η') ok' (· ∈ [id]) → olds.length = L.length → (∀ (k : Nat) (v : AV), L[k]? = some v → ∃ z, olds[k]? = some z ∧ VR vs w μ (okOf μ η') v z) → (∀ k, k < L.length + L2.length → cells[k]? = (olds ++ news)[k]?) →
      ∀ (k : Nat) (v : AV), (L ++ L2)[k]? = some v → ∃ z, cells[k]? = some z ∧ ((∃ j ∈ v.ids, hitN (vis ++ vis2) noRem j = true) ∨ VR vs w' μ' ok' v z) := by
    intro w' μ' ok' olds cells hk hol holds hcells k v hv
    have hk2 : k < L.length + L2.length := by have := (List.getElem?_eq_some_iff.1 hv).1; simpa using this
    rw [hcells k hk2]
    rcases Nat.lt_or_ge k L.length with h | h
    · rw [List.getElem?_append_left h] at hv
      obtain ⟨z, hz, hr⟩ := holds k v hv
      exact ⟨z, by rw [List.getElem?_append_left (by omega)]; exact hz, .inr (VR.mono hk v z (fun i hi hgi => hidn g1 (fun j hj => List.mem_append.2 (.inl hj)) v (List.mem_of_getElem? hv) i (refs_idsN v i hi) (by simpa using hgi)) hr)⟩
    · rw [List.getElem?_append_right h] at hv
      obtain ⟨z, hz, hr⟩ := hnews _ v hv
      exact ⟨z, by rw [List.getElem?_append_right (by omega), hol]; exact hz, .inr (VR.mono hk v z (fun i hi hgi => hidn g2 (fun j hj => List.mem_append.2 (.inr hj)) v (List.mem_of_getElem? hv) i (refs_idsN v i hi) (by simpa using hgi)) hr)⟩
  have grow : ∀ (b : Option Addr) (cap : Nat) (olds : List Value), a.eval s = .slice b L.length cap → cap < L.length + L2.length → olds.length = L.length → (∀ (k : Nat) (v : AV), L[k]? = some v → ∃ z, olds[k]? = some z ∧ VR vs w μ (okOf μ η') v z) →
      (Builtin.firstCells 1 L.length (a.eval s)).run P w.drew = .ok olds.toArray w.drew → o.wp P a w K Q := by
    intro b cap olds hsv hcap hol holds hfo
    have hr := run_app_grow (P := P) w (ty' := o.type) hus hinf q3 q1 hsv hfo hxv (hf (w.drawn + 1)) hcap hb hb2
    let cs := olds.toArray ++ news.toArray ++ Builtin.zeroCells eu.z.cells (grownCap w (L.length + L2.length) cap u - (L.length + L2.length))
    have hbel : Below w.heap.size w (w.drew.alloc (.cells cs u)) := ((Below.refl _ _).drew).alloc (Nat.le_refl _) _
    have hnew : (w.drew.alloc (.cells cs u)).heap[w.heap.size]? = some (.cells cs u (0, 0)) := heap_alloc_new w.drew _
    have hcap2 := grownCap_ge w (L.length + L2.length) cap u
    have hcsz : cs.size = grownCap w (L.length + L2.length) cap u := by
      simp only [cs, Array.size_append, List.size_toArray, size_zeroCells, cells_one hz1, hol, hl]
      simp; omega
    obtain ⟨hc, hk⟩ := HC_new (i := id) (b := w.heap.size) (B := .nest u (L ++ L2) (vis ++ vis2) noRem) h2 hbel (Nat.le_refl _) fun hk => by
      refine .inr ⟨_, cs, by simp [updM], .inl h2.below.size, hnew, by rw [List.length_append, hcsz]; exact hcap2, fun k v hv => ?_⟩
      have := both (cells := cs.toList) hk hol holds (fun k hk => by
        simp only [cs, Array.toList_append]
        rw [List.getElem?_append_left (by simp [hol, hl]; omega)]) k v hv
      simpa using this
    unfold Oper.wp
    rw [hexec _ hr, Result.andThen_ok, Oper.upon_value]
    refine h4 _ _ _ hc hk ?_
    rw [VR]
    exact .inr ⟨_, _, _, _, by simp [updM], rfl, size_shape hnew, by rw [hcsz]; omega, hcap2⟩
  rcases h2.blk id _ hη' with ⟨hnil, h0⟩ | ⟨b, cs, hb', hbase, hw, hlen, hcs⟩
  · rcases hs' with ⟨_, _, _, hsv⟩ | ⟨b, _, _, _, hbb, _⟩
    · by_cases hm : L2.length = 0
      · have hf0 := hf w.drawn
        have hn0 : news = [] := List.eq_nil_of_length_eq_zero (by omega)
        have hL2 : L2 = [] := List.eq_nil_of_length_eq_zero hm
        subst hn0; subst h0; subst hL2
        have hr := run_app_none (P := P) w (ty' := o.type) (b := none) (sLen := 0) (sCap := 0) hus hinf q1 hxv hf0 (Nat.le_refl _)
        rw [← hsv] at hr
        have e : ∀ i, hpS [id] (lkH [(id, .nest u ([] ++ []) (vis ++ vis2) noRem)]) η' i = if i = id then some (.nest u ([] ++ []) (vis ++ vis2) noRem) else (η' i).map (scrubB [id]) := fun i => by
          by_cases hi : i = id
          · subst hi; simp [hpS, lkH]
          · have hbq : Nat.beq i id = false := by
              cases h : Nat.beq i id with
              | true => exact absurd (Nat.eq_of_beq_eq_true h) hi
              | false => rfl
            simp [hpS, lkH, hbq, hi]
        have hdom : ∀ j, (hpS [id] (lkH [(id, .nest u ([] ++ []) (vis ++ vis2) noRem)]) η' j).isSome ↔ (η' j).isSome := fun j => by
          rw [e]; split
          · rename_i hj; subst hj; rw [hη']; simp
          · rw [Option.isSome_map]
        have hk : Keeps w w μ μ (okOf μ η') (okOf μ (hpS [id] (lkH [(id, .nest u ([] ++ []) (vis ++ vis2) noRem)]) η')) (· ∈ [id]) :=
          ⟨fun b hb hk => ⟨hb, fun j hj => hk j ((hdom j).1 hj), rfl⟩, fun _ _ => rfl, fun _ _ _ _ _ hs => hs⟩
        have hc := HC_step h2 hk h2.below (fun _ _ _ _ _ _ _ => rfl) (fun j B hj => by
          have := lkH_mem hj
          simp at this; obtain ⟨rfl, rfl⟩ := this
          exact .inl ⟨hnil, rfl⟩) (fun i j b hi hj => h2.inj i j b ((hdom i).1 hi) ((hdom j).1 hj))
        unfold Oper.wp
        rw [hexec _ hr, Result.andThen_ok, Oper.upon_value]
        refine h4 _ _ _ hc hk ?_
        rw [VR]
        exact .inl ⟨hnil, rfl, rfl, hsv⟩
      · refine grow none 0 [] (by rw [hsv, h0]; rfl) (by omega) (by simp [h0]) (fun k v hv => by rw [h0] at hv; simp at hv) ?_
        rw [hsv, h0]
        simp [Builtin.firstCells]
    · rw [hnil] at hbb; cases hbb
  · rcases hs' with ⟨hnil, _⟩ | ⟨b1, cap, e1, n1, hb1, hsv, hshape, hcap, hncap⟩
    · rw [hnil] at hb'; cases hb'
    · rw [hb'] at hb1; cases hb1
      rw [size_shape hw] at hshape
      simp only [Option.some.injEq, Prod.mk.injEq] at hshape
      obtain ⟨_, rfl⟩ := hshape
      have holds : ∀ (k : Nat) (v : AV), L[k]? = some v → ∃ z, (cs.toList.take L.length)[k]? = some z ∧ VR vs w μ (okOf μ η') v z := fun k v hv => by
        obtain ⟨z, hz, hr⟩ := VR_known g1 hcs k v hv
        have hk : k < L.length := (List.getElem?_eq_some_iff.1 hv).1
        exact ⟨z, by rw [List.getElem?_take, if_pos hk, Array.getElem?_toList]; exact hz, hr⟩
      have holl : (cs.toList.take L.length).length = L.length := by simp; omega
      by_cases hroom : L.length + L2.length ≤ cap
      · have hr := run_app_room (P := P) w (ty' := o.type) hus hinf q1 hw hxv hl (hf w.drawn) h1news hroom (by omega)
        have hw' := setRow_heap w b cs (cs.toList.take L.length ++ news ++ cs.toList.drop (L.length + L2.length)).toArray u (0, 0) hw
        have hsz' : (cs.toList.take L.length ++ news ++ cs.toList.drop (L.length + L2.length)).toArray.size = cs.size := by simp [hl]; omega
        obtain ⟨hc, hk⟩ := HC_mod (i := id) (b := b) (B := .nest u (L ++ L2) (vis ++ vis2) noRem) (S := [id]) (w' := w.setRow b (cs.toList.take L.length ++ news ++ cs.toList.drop (L.length + L2.length)).toArray) h2 (by simp) hη' hb' rfl rfl rfl (setRow_size _ _ _)
          (fun k hk => setRow_other w b k _ hk) (by rw [size_shp hw', size_shp hw, hsz']) fun hk => by
            refine .inr ⟨b, _, hb', hbase, hw', by rw [List.length_append, hsz']; omega, fun k v hv => ?_⟩
            have := both (cells := cs.toList.take L.length ++ news ++ cs.toList.drop (L.length + L2.length)) hk holl holds (fun k hk => by
              rw [List.getElem?_append_left (by rw [List.length_append, holl, hl]; omega)]) k v hv
            simpa using this
        unfold Oper.wp
        rw [hsv] at hexec
        rw [hexec _ hr, Result.andThen_ok, Oper.upon_value]
        refine h4 _ _ _ hc hk ?_
        rw [VR]
        exact .inr ⟨b, cap, u, cs.size, hb', rfl, by rw [size_shape hw', hsz'], hcap, hroom⟩
      · refine grow (some ⟨b, 0, none⟩) cap (cs.toList.take L.length) hsv (by omega) holl holds ?_
        rw [hsv]
        exact run_firstCells_some (P := P) w.drew 1 L.length ⟨b, 0, none⟩ L.length cap (cs.toList.take L.length) (by rw [holl]; simp) (fun j v hj => by
          rw [add1, Nat.zero_add]
          rw [List.getElem?_take] at hj
          split at hj
          · have := cell_of_block (w := w.drew) hw j
            rw [this]; simpa using hj
          · cases hj)
end

/-! ### other names, and what is kept of a state -/
/-- a cell 'v0' as 'v': by another name, or a row of which nothing but its content is kept -/
def CTo (π : Nat → Nat) (η η' : Hp) (v0 v : AV) : Prop := v0 = ren π v ∨ ∃ (u : T) (id : Nat) (ef : TypeId), v = .t u ∧ v0 = .own id 0 u.len ∧ η id = some (.sl ef u) ∧ ∀ j, (η' j).isSome → π j ≠ id
/-- the block 'B' of the state 'η'' in terms of 'η', in which ids have the names 'π' -/
def BTo (π : Nat → Nat) (η η' : Hp) (i : Nat) : Blk → Prop
  | .sl e c => η (π i) = some (.sl e c) ∨ ∃ L vis, η (π i) = some (.nest e L vis noRem) ∧ GoodN vis L ∧ c.isSl = true ∧ c.len = L.length ∧
      ∀ (k : Nat) (v : AV), L[k]? = some v → ∃ u, c.elems[k]? = some u ∧ CTo π η η' v (.t u)
  | .box e l => η (π i) = some (.box e (renL π l))
  | .nest e L vis rem => (∃ L0 vis0, η (π i) = some (.nest e L0 vis0 noRem) ∧ GoodN vis0 L0 ∧ L.length = L0.length ∧ ∀ (k : Nat) (v : AV), L[k]? = some v → ∃ v0, L0[k]? = some v0 ∧ CTo π η η' v0 v) ∨ ∃ c, η (π i) = some (.sl e c) ∧ L = c.elems.map AV.t
theorem BTo.some {π : Nat → Nat} {η η' : Hp} {i : Nat} {B : Blk} (h : BTo π η η' i B) : (η (π i)).isSome := by
  cases B with
  | sl e c => rcases h with h | ⟨L, vis, h, _⟩ <;> rw [h] <;> rfl
  | box e l => rw [show η (π i) = _ from h]; rfl
  | nest e L vis rem => rcases h with ⟨L0, vis0, h, _⟩ | ⟨c, h, _⟩ <;> rw [h] <;> rfl

theorem StR_weakN {vs : Env} {N : Nat} {w0 : World} {μ : Nat → Option Nat} {ρ : Fr} {η η' : Hp} {a : Act} {w : World} (π : Nat → Nat) {α : List (Nat × AV)} (h : StR vs N w0 μ ρ η a w) (hF : wkF π ρ α)
    (hB : ∀ i B, η' i = some B → BTo π η η' i B) (hi : ∀ i j, (η' i).isSome → (η' j).isSome → π i = π j → i = j) : StR vs N w0 (fun i => μ (π i)) (lkF α) η' a w := by
  have hdom : ∀ i, (η' i).isSome → (η (π i)).isSome := fun i hs => by
    obtain ⟨B, hB'⟩ := Option.isSome_iff_exists.1 hs
    exact (hB i B hB').some
  have hok : ∀ b, okOf μ η b → okOf (fun i => μ (π i)) η' b := fun b hb i hs => hb (π i) (hdom i hs)
  have hk : Keeps w w μ μ (okOf μ η) (okOf (fun i => μ (π i)) η') (fun _ => False) := ⟨fun b hb hk => ⟨hb, hok b hk, rfl⟩, fun _ _ => rfl, fun _ _ _ _ _ hs => hs⟩
  have cell : ∀ {v0 v : AV} {x : Value}, CTo π η η' v0 v → VR vs w μ (okOf μ η) v0 x → VR vs w (fun i => μ (π i)) (okOf (fun i => μ (π i)) η') v x := by
    intro v0 v x hv hr
    rcases hv with rfl | ⟨u, id, ef, rfl, rfl, hid, hno⟩
    · exact VR_ren _ _ (VR.mono hk _ _ (fun _ _ h => h) hr)
    · rw [VR] at hr
      rw [VR]
      obtain ⟨s0, s1⟩ := h.hc.blk id _ hid
      refine (TR_sl _ _ _ s0 _).2 ?_
      rcases hr with ⟨r1, _, r3, r4⟩ | ⟨b', cap, e1, m, r1, r2, r3, r4, r5⟩
      · exact ⟨none, 0, 0, r4, r3.symm, Nat.le_refl _, .inl rfl⟩
      · rcases s1 with ⟨s1, _⟩ | ⟨b2, cs2, s1, s2, s3, s4, s5⟩
        · rw [r1] at s1; cases s1
        · rw [r1] at s1; cases s1
          refine ⟨_, u.len, cap, r2, rfl, r5, .inr ⟨b', 0, rfl, (Array.getElem?_eq_some_iff.1 s3).1, ⟨fun j hj hm => ?_, by rw [h.hc.base]; exact s2⟩, (TRs_iff ..).2 fun j t ht => ?_⟩⟩
          · exact hno j hj (h.hc.inj (π j) id b' (hdom j hj) (by rw [hid]; rfl) hm r1)
          · obtain ⟨z, hz, hr⟩ := ((TRl_iff ..).1 s5).2 j t ht
            rw [List.getElem?_take] at hz
            split at hz
            · refine ⟨z, ?_, TR.mono hk.treeF _ _ hr⟩
              rw [Nat.zero_add, cell_of_block s3]; simpa using hz
            · cases hz
  refine ⟨⟨h.hc.base, h.hc.below, fun i B hBi => ?_, fun i j b hs ht h1 h2 => hi i j hs ht (h.hc.inj (π i) (π j) b (hdom i hs) (hdom j ht) h1 h2)⟩, h.size, h.defers, fun n => ?_⟩
  · have hb := hB i B hBi
    cases B with
    | sl e c =>
      rcases hb with hb | ⟨L, vis, hb, hg, hsl, hlen, hel⟩
      · obtain ⟨h0, h1⟩ := h.hc.blk (π i) _ hb
        refine ⟨h0, Or.imp (fun x => x) ?_ h1⟩
        rintro ⟨b, cs, h1, h2, h3, h4, h5⟩
        exact ⟨b, cs, h1, h2, h3, h4, TRl.mono hk.treeF _ _ h5⟩
      · refine ⟨hsl, ?_⟩
        rcases h.hc.blk (π i) _ hb with ⟨h1, h2⟩ | ⟨b, cs, h1, h2, h3, h4, h5⟩
        · exact .inl ⟨h1, by rw [hlen, h2]; rfl⟩
        · refine .inr ⟨b, cs, h1, h2, h3, by omega, (TRl_iff ..).2 ⟨by rw [T.len_elems, hlen]; simp; omega, fun k u hu => ?_⟩⟩
          have hkl : k < L.length := by
            have := (List.getElem?_eq_some_iff.1 hu).1
            rw [T.len_elems] at this; omega
          obtain ⟨x, hx, hr⟩ := VR_known hg h5 k L[k] (List.getElem?_eq_getElem hkl)
          obtain ⟨u', hu', hv⟩ := hel k L[k] (List.getElem?_eq_getElem hkl)
          rw [hu] at hu'; cases hu'
          refine ⟨x, by rw [List.getElem?_take, if_pos (by omega), Array.getElem?_toList]; exact hx, ?_⟩
          have := cell (v := .t u) hv hr
          rw [VR] at this; exact this
    | box e l =>
      obtain ⟨b, cs, h1, h2, h3, h4⟩ := h.hc.blk (π i) _ hb
      exact ⟨b, cs, h1, h2, h3, VRl_ren _ _ (VRl.mono hk _ _ (fun _ _ h => h) h4)⟩
    | nest e L vis rem =>
      rcases hb with ⟨L0, vis0, hb, hg, hlen, hel⟩ | ⟨c, hb, rfl⟩
      · rcases h.hc.blk (π i) _ hb with ⟨h1, h2⟩ | ⟨b, cs, h1, h2, h3, h4, h5⟩
        · exact .inl ⟨h1, List.eq_nil_of_length_eq_zero (by rw [hlen, h2]; rfl)⟩
        · refine .inr ⟨b, cs, h1, h2, h3, by omega, fun k v hv => ?_⟩
          obtain ⟨v0, hv0, hc⟩ := hel k v hv
          obtain ⟨x, hx, hr⟩ := VR_known hg h5 k v0 hv0
          exact ⟨x, hx, .inr (cell hc hr)⟩
      · obtain ⟨h0, h1⟩ := h.hc.blk (π i) _ hb
        rcases h1 with ⟨h1, h2⟩ | ⟨b, cs, h1, h2, h3, h4, h5⟩
        · exact .inl ⟨h1, List.eq_nil_of_length_eq_zero (by rw [List.length_map, T.len_elems, h2])⟩
        · refine .inr ⟨b, cs, h1, h2, h3, by rw [List.length_map, T.len_elems]; exact h4, fun k v hv => ?_⟩
          rw [List.getElem?_map, Option.map_eq_some_iff] at hv
          obtain ⟨u, hu, rfl⟩ := hv
          obtain ⟨x, hx, hr⟩ := ((TRl_iff ..).1 (TRl.mono hk.treeF _ _ h5)).2 k u hu
          rw [List.getElem?_take] at hx
          split at hx
          · exact ⟨x, by simpa using hx, .inr (by rw [VR]; exact hr)⟩
          · cases hx
  · rcases wkF_lk hF n with hj | hj
    · rw [hj, VR]; trivial
    · have := h.slots n
      rw [hj] at this
      exact VR_ren _ _ (VR.mono hk _ _ (fun _ _ h => h) this)

section
variable {P : Program} {N : Nat} {Q : Exit → Fr → Hp → Prop} {ρ : Fr} {η : Hp}
theorem awp_weakN {c : Code} (π : Nat → Nat) (α : List (Nat × AV)) (η' : Hp) (hF : wkF π ρ α) (hB : ∀ i B, η' i = some B → BTo π η η' i B) (hi : ∀ i j, (η' i).isSome → (η' j).isSome → π i = π j → i = j) (h : AWp P N c Q (lkF α) η') : AWp P N c Q ρ η :=
  fun vs w0 μ a w hs => h vs w0 _ a w (StR_weakN π hs hF hB hi)
def FamN {X : Type} (Inv : X → Prop) (α : X → List (Nat × AV)) (H : X → Hp) (x : X) (ρ : Fr) (η : Hp) : Prop :=
  Inv x ∧ ∃ π, wkF π ρ (α x) ∧ (∀ i B, H x i = some B → BTo π η (H x) i B) ∧ ∀ i j, (H x i).isSome → (H x j).isSome → π i = π j → i = j
theorem awp_loopN {X : Type} (Inv : X → Prop) (α : X → List (Nat × AV)) (H : X → Hp) (m : X → Nat) {c : Code} (x0 : X) (h0 : FamN Inv α H x0 ρ η)
    (h : ∀ x, Inv x → AWp P N c (thenA (fun ρ' η' => ∃ x', m x' < m x ∧ FamN Inv α H x' ρ' η') Q) (lkF (α x)) (H x)) : AWp P N (.loop c) Q ρ η := by
  intro vs w0 μ a w hs b k cs
  have key : ∀ n, ∀ x, m x = n → Inv x → ∀ μ a w, StR vs N w0 μ (lkF (α x)) (H x) a w →
      ∃ e a' w', (∃ ρ' η' μ', Q e ρ' η' ∧ StR vs N w0 μ' ρ' η' a' w') ∧ Arrives P (lone (b.at a (.code c :: .inLoop c :: k)) cs w) b k cs e a' w' := by
    intro n
    induction n using Nat.strongRecOn with
    | _ n ih =>
      intro x hx hI μ a w hs
      obtain ⟨e, a₁, w₁, ⟨ρ', η', μ', q, s⟩, harr⟩ := h x hI vs w0 μ a w hs b (.inLoop c :: k) cs
      cases e with
      | normal =>
        obtain ⟨x', hlt, hI', π, hF, hH, hi⟩ := q
        obtain ⟨e₂, a₂, w₂, hq₂, harr₂⟩ := ih (m x') (hx ▸ hlt) x' rfl hI' _ a₁ w₁ (StR_weakN π s hF hH hi)
        exact ⟨e₂, a₂, w₂, hq₂, .of_steps (Steps.trans harr (.one step_inLoop)) harr₂⟩
      | exit id => exact ⟨_, a₁, w₁, ⟨ρ', η', μ', q, s⟩, .pass (x := .inLoop c) rfl (fun _ _ => .inl (by simp)) harr⟩
      | goto l => exact ⟨_, a₁, w₁, ⟨ρ', η', μ', q, s⟩, .pass (x := .inLoop c) rfl (fun _ _ => .inl (by simp)) harr⟩
      | ret => exact ⟨_, a₁, w₁, ⟨ρ', η', μ', q, s⟩, .pass (x := .inLoop c) rfl (fun _ _ => .inl (by simp)) harr⟩
      | panic ch => exact ⟨_, a₁, w₁, ⟨ρ', η', μ', q, s⟩, .pass (x := .inLoop c) rfl (fun _ _ => .inl (by simp)) harr⟩
      | outgrown => exact ⟨_, a₁, w₁, ⟨ρ', η', μ', q, s⟩, .pass (x := .inLoop c) rfl (fun _ _ => .inl (by simp)) harr⟩
  obtain ⟨hI, π, hF, hH, hi⟩ := h0
  obtain ⟨e, a', w', q, harr⟩ := key _ x0 rfl hI _ a w (StR_weakN π hs hF hH hi)
  exact ⟨e, a', w', q, .of_steps (.one step_loop) harr⟩
end

/-! ### no rows -/
def noFam : Hp := fun _ => none
theorem famOk_no : FamOk noFam := fun i B h => by cases h
def wkB (π : Nat → Nat) (η η' : Hp) : List (Nat × Blk) → Prop
  | [] => True
  | (i, B) :: r => BTo π η η' i B ∧ wkB π η η' r
theorem wkB_lk {π : Nat → Nat} {η η' : Hp} {l : List (Nat × Blk)} (h : wkB π η η' l) {i : Nat} {B : Blk} (hl : lkH l i = some B) : BTo π η η' i B := by
  induction l with
  | nil => simp [lkH] at hl
  | cons p r ih =>
    obtain ⟨s, v⟩ := p
    simp only [lkH] at hl
    cases hb : Nat.beq i s with
    | true => simp only [hb, cond_true, Option.some.injEq] at hl; subst hl; rw [Nat.eq_of_beq_eq_true hb]; exact h.1
    | false => simp only [hb, cond_false] at hl; exact ih h.2 hl
theorem wkB_ov {π : Nat → Nat} {η fm : Hp} {l : List (Nat × Blk)} (h : wkB π η (ovH (lkH l) fm) l) (hf : ∀ i B, bigN ≤ i → fm i = some B → BTo π η (ovH (lkH l) fm) i B) (i : Nat) (B : Blk) (hl : ovH (lkH l) fm i = some B) : BTo π η (ovH (lkH l) fm) i B := by
  rcases Nat.lt_or_ge i bigN with hi | hi
  · rw [ovH_lt hi] at hl; exact wkB_lk h hl
  · rw [ovH_ge hi] at hl; exact hf i B hi hl
section
variable {P : Program} {N : Nat} {Q : Exit → Fr → Hp → Prop} {ρ : Fr} {η : Hp}
theorem awp_wk0 {c : Code} (α : List (Nat × AV)) (l : List (Nat × Blk)) (hF : wkF (fun i => i) ρ α) (hB : wkB (fun i => i) η (ovH (lkH l) noFam) l) (h : AWp P N c Q (lkF α) (ovH (lkH l) noFam)) : AWp P N c Q ρ η :=
  awp_weakN (fun i => i) α _ hF (wkB_ov hB fun i B _ h => by cases h) (fun _ _ _ _ h => h) h
theorem famN_0 {X : Type} {Inv : X → Prop} {α : X → List (Nat × AV)} {H : X → List (Nat × Blk)} (x : X) (hI : Inv x) (hF : wkF (fun i => i) ρ (α x)) (hB : wkB (fun i => i) η (ovH (lkH (H x)) noFam) (H x)) : FamN Inv α (fun x => ovH (lkH (H x)) noFam) x ρ η :=
  ⟨hI, fun i => i, hF, wkB_ov hB (fun i B _ h => by cases h), fun _ _ _ _ h => h⟩
/-- .. and back to a state without rows -/
theorem awp_off {c : Code} (α : List (Nat × AV)) (l : List (Nat × Blk)) (hF : wkF (fun i => i) ρ α) (hB : wkB (fun i => i) η (lkH l) l) (h : AWp P N c Q (lkF α) (lkH l)) : AWp P N c Q ρ η :=
  awp_weakN (fun i => i) α _ hF (fun i B hl => wkB_lk hB hl) (fun _ _ _ _ h => h) h
end
end Go.Aw

set_option linter.unusedVariables false
namespace Go.Aw
open Go.RowKit (Below)

/-- 'x' reads as the floats 'l': data, or a part of a slice of the call's own -/
def SrcF (F : List Nat) (η : Hp) (x : AV) (l : List Nat) : Prop :=
  (∃ dd, x.tr = some (dd, .fl l)) ∨ ∃ id off n e l0, x = .own id off n ∧ η id = some (.sl e (.fl l0)) ∧ F.contains id = true ∧ off + n ≤ l0.length ∧ l = (l0.drop off).take n
section
variable {P : Program} {o : Oper} {F : List Nat} {ρ : Fr} {η : Hp} {ty : Ty}
theorem srcF_spec {vs : Env} {w0 w : World} {μ : Nat → Option Nat} {η' : Hp} {x : AV} {l : List Nat} {y : Value} (hs : SrcF F η x l) (hF : ∀ i ∈ F, η' i = η i) (hh : HC vs w0 μ η' w) (hv : VR vs w μ (okOf μ η') x y) :
    ∃ (ax : Option Addr) (cp : Nat) (news : List Value), y = .slice ax l.length cp ∧ news.length = l.length ∧ (∀ (i : Nat) (z : Value), news[i]? = some z → ∃ b, z = .float .f32 b ∧ FR .f32 b (l.getD i 0)) ∧ (l.length = 0 ∨ ∃ a, ax = some a ∧ ∀ (j : Nat) (z : Value), news[j]? = some z → w.cell? (a.add j) = some z) := by
  rcases hs with ⟨dd, htr⟩ | ⟨id, off, n, e, l0, rfl, hη, hf, hon, rfl⟩
  · have ht := VR_tr hv htr
    rw [TR] at ht
    obtain ⟨a, n, cp, rfl, hn, _, hcell⟩ := ht
    subst hn
    rcases hcell with h0 | ⟨b, o, rfl, hb, _, hi⟩
    · exact ⟨a, cp, [], rfl, by simp [h0], fun i z hz => by simp at hz, .inl h0⟩
    · have hex : ∃ news : List Value, news.length = l.length ∧ ∀ i, i < l.length → ∃ x, news[i]? = some (.float .f32 x) ∧ w.cell? ⟨b, o + i, none⟩ = some (.float .f32 x) ∧ FR .f32 x (l.getD i 0) := by
        refine ⟨(List.range l.length).map fun i => (w.cell? ⟨b, o + i, none⟩).getD undef, by simp, fun i hil => ?_⟩
        obtain ⟨x, hx, hf⟩ := hi i hil
        exact ⟨x, by simp [hil, hx], hx, hf⟩
      obtain ⟨news, hl, hall⟩ := hex
      refine ⟨_, cp, news, rfl, hl, fun i z hz => ?_, .inr ⟨_, rfl, fun j z hz => ?_⟩⟩
      · have hil : i < l.length := by rw [← hl]; exact (List.getElem?_eq_some_iff.1 hz).1
        obtain ⟨x, h1, _, h3⟩ := hall i hil
        rw [h1] at hz; cases hz; exact ⟨x, rfl, h3⟩
      · have hil : j < l.length := by rw [← hl]; exact (List.getElem?_eq_some_iff.1 hz).1
        obtain ⟨x, h1, h2, _⟩ := hall j hil
        rw [h1] at hz; cases hz
        rw [add1]; exact h2
  · have hη' := (hF id (by simpa using hf)).trans hη
    obtain ⟨_, hB⟩ := hh.blk id _ hη'
    have hlen : ((l0.drop off).take n).length = n := by simp; omega
    rw [VR] at hv
    rcases hv with ⟨hn, rfl, rfl, rfl⟩ | ⟨b, cap, e1, m, hμ, rfl, _⟩
    · exact ⟨none, 0, [], by simp, by simp, fun i z hz => by simp at hz, .inl (by simp)⟩
    · rcases hB with ⟨hn, _⟩ | ⟨b', cs, hb', _, hw, hle, hcs⟩
      · rw [hn] at hμ; cases hμ
      · rw [hb'] at hμ; cases hμ
        obtain ⟨q1, q2⟩ := (TRl_iff ..).1 hcs
        have hcsz : l0.length ≤ cs.size := hle
        refine ⟨_, cap, (cs.toList.drop off).take n, by rw [hlen], by simp; omega, fun i z hz => ?_, .inr ⟨_, rfl, fun j z hz => ?_⟩⟩
        · rw [List.getElem?_take] at hz
          split at hz
          · rename_i hin
            rw [List.getElem?_drop] at hz
            obtain ⟨z', hz', hr⟩ := q2 (off + i) (.f .f32 l0[off + i]) (by show (l0.map (T.f .f32))[off + i]? = _; rw [List.getElem?_map, List.getElem?_eq_getElem (by omega)]; rfl)
            rw [List.getElem?_take] at hz'
            split at hz'
            · rw [hz] at hz'; cases hz'
              rw [TR] at hr
              obtain ⟨x, rfl, hf⟩ := hr
              refine ⟨x, rfl, ?_⟩
              have : ((l0.drop off).take n).getD i 0 = l0[off + i] := by
                simp only [List.getD_eq_getElem?_getD]
                rw [List.getElem?_take, if_pos hin, List.getElem?_drop, List.getElem?_eq_getElem (by omega)]; rfl
              rw [this]; exact hf
            · cases hz'
          · cases hz
        · rw [List.getElem?_take] at hz
          split at hz
          · rw [List.getElem?_drop] at hz
            have := cell_of_block hw (off + j)
            rw [add1, this]; simpa using hz
          · cases hz

/-- copy(dst, src): 'dst' a part of a slice of the call's own -/
theorem q_copy {t t2 u : TypeId} {e eu : TE} {x y : Operand} {id off n : Nat} {u' : TypeId} {l l2 : List Nat} (m : Nat) (hsrc : SrcF F η (evA ρ y) l2) (hm : m = min l2.length n) (hT : TyOk P ty) (ho : o.op = .call { callee := .builtin .copy, args := #[x, y], argTypes := #[t, t2] })
    (ht : ty.get t = some e) (hsl : e.d = .sl u) (hu : ty.get u = some eu) (hs1 : eu.size = 1) (hx : evA ρ x = .own id off n) (hη : η id = some (.sl u' (.fl l))) (hF : F.contains id = true) (hfit : off + n ≤ l.length) :
    QRun P o F [] ρ η (.t (.v (.int .i64 (m : Nat)))) (lkH [(id, .sl u' (.fl (l.take off ++ l2.take m ++ l.drop (off + m))))]) := by
  intro vs w0 μ η' a w Q K h1 h2 h3 h4
  have hx' := h3 x (by simp [ho, Op.operands, Call.operands])
  have hy' := h3 y (by simp [ho, Op.operands, Call.operands])
  obtain ⟨ax, cp, news, hyv, hnl, hnf, hcell⟩ := srcF_spec hsrc h1 h2 hy'
  rw [hx, VR] at hx'
  have hη' : η' id = some (.sl u' (.fl l)) := (h1 id (by simpa using hF)).trans hη
  have hus := (hT.get ht).slice hsl
  obtain ⟨inf, hinf, g1, _, _⟩ := (hT.get hu).info
  rw [hs1] at g1
  have hexec : ∀ r, (Builtin.copy_ #[t, t2] o.type #[a.eval x, a.eval y]).run P w = r → (execOp a.eval o).run P w = r.andThen fun v w' => .ok (.value v) w' := fun r hr => by
    simp [execOp, ho, resolve, invoke, builtin, hr]
  -- nothing is copied
  have none' : m = 0 → (Builtin.copy_ #[t, t2] o.type #[a.eval x, a.eval y]).run P w = .ok (goInt 0) w → o.wp P a w K Q := fun h0 hr => by
    subst h0
    have hk : Keeps w w μ μ (okOf μ η') (okOf μ (hpS [] (lkH [(id, .sl u' (.fl (l.take off ++ l2.take 0 ++ l.drop (off + 0))))]) η')) (· ∈ ([] : List Nat)) := by
      have hlist : l.take off ++ l2.take 0 ++ l.drop (off + 0) = l := by simp
      refine ⟨fun b hb hk => ⟨hb, fun j hj => hk j ?_, rfl⟩, fun _ _ => rfl, fun _ _ _ _ _ hs => hs⟩
      simp only [hpS] at hj
      cases hl : lkH [(id, Blk.sl u' (.fl (l.take off ++ l2.take 0 ++ l.drop (off + 0))))] j with
      | some B => have := lkH_mem hl; simp at this; obtain ⟨rfl, _⟩ := this; rw [hη']; rfl
      | none => rw [hl] at hj; simpa using hj
    have hlist : l.take off ++ l2.take 0 ++ l.drop (off + 0) = l := by simp
    rw [hlist] at h4 hk
    have hc := HC_step (ch := lkH [(id, .sl u' (.fl l))]) (S := []) h2 hk h2.below (fun _ _ _ _ _ _ _ => rfl) (fun j B hj => by
      have := lkH_mem hj
      simp at this; obtain ⟨rfl, rfl⟩ := this
      obtain ⟨b0, b1⟩ := h2.blk j _ hη'
      refine ⟨b0, Or.imp (fun x => x) ?_ b1⟩
      rintro ⟨b, cs, c1, c2, c3, c4, c5⟩
      exact ⟨b, cs, c1, c2, c3, c4, TRl.mono hk.treeF _ _ c5⟩) (fun i j b hi hj => h2.inj i j b (by
        simp only [hpS] at hi
        cases hl : lkH [(id, Blk.sl u' (.fl l))] i with
        | some B => have := lkH_mem hl; simp at this; obtain ⟨rfl, _⟩ := this; rw [hη']; rfl
        | none => rw [hl] at hi; simpa using hi) (by
        simp only [hpS] at hj
        cases hl : lkH [(id, Blk.sl u' (.fl l))] j with
        | some B => have := lkH_mem hl; simp at this; obtain ⟨rfl, _⟩ := this; rw [hη']; rfl
        | none => rw [hl] at hj; simpa using hj))
    unfold Oper.wp
    rw [hexec _ hr, Result.andThen_ok, Oper.upon_value]
    exact h4 _ _ _ hc hk (by rw [VR, TR]; rfl)
  rcases hx' with ⟨hn0, rfl, rfl, hxv⟩ | ⟨b, cap, e1, m1, hμ, hxv, _⟩
  · refine none' (by omega) ?_
    rw [hxv, hyv]
    cases ax <;> simp [Builtin.copy_, run_underlying hus, Builtin.lenOf, Builtin.firstCells, sizeOf, typeInfo, hinf, loadCells, loadCellsFrom]
  · obtain ⟨hsl0, hB⟩ := h2.blk id _ hη'
    rcases hB with ⟨hn0, _⟩ | ⟨b', cs, hb', hbase, hw, hle, hcs⟩
    · rw [hn0] at hμ; cases hμ
    · rw [hb'] at hμ; cases hμ
      have hcsz : l.length ≤ cs.size := hle
      rcases hcell with h0 | ⟨ad, rfl, hrd⟩
      · refine none' (by omega) ?_
        rw [hxv, hyv, h0]
        cases ax <;> simp [Builtin.copy_, run_underlying hus, Builtin.lenOf, Builtin.firstCells, sizeOf, typeInfo, hinf, loadCells, loadCellsFrom, storeCells]
      · have hm2 : (news.take m).length = m := by rw [List.length_take, hnl]; omega
        have hone : ∀ v ∈ news.take m, v.oneCell' = true := fun v hv => by
          obtain ⟨i, hi, rfl⟩ := List.getElem_of_mem (List.mem_of_mem_take hv)
          obtain ⟨b0, e0, _⟩ := hnf i _ (List.getElem?_eq_getElem hi)
          rw [e0]; rfl
        have hr := run_copy_row (P := P) w t t2 o.type u b off n cap ad l2.length cp cs u' (news.take m) hus (by rw [hinf]; simp [g1]) hw (by rw [hm2, hm]) (fun j v hj => by
          rw [List.getElem?_take] at hj
          split at hj
          · exact hrd j v hj
          · cases hj) (by rw [hm2]; omega) hone
        rw [hm2] at hr
        have hw' := setRow_heap w b cs (cs.toList.take off ++ news.take m ++ cs.toList.drop (off + m)).toArray u' (0, 0) hw
        have hsz' : (cs.toList.take off ++ news.take m ++ cs.toList.drop (off + m)).toArray.size = cs.size := by simp only [List.size_toArray, List.length_append, List.length_drop, hm2]; simp; omega
        obtain ⟨hc, hk⟩ := HC_mod (i := id) (b := b) (B := .sl u' (.fl (l.take off ++ l2.take m ++ l.drop (off + m)))) (S := []) (w' := w.setRow b (cs.toList.take off ++ news.take m ++ cs.toList.drop (off + m)).toArray) h2 (by simp) hη' hb' rfl rfl rfl (setRow_size _ _ _)
          (fun k hk => setRow_other w b k _ hk) (by rw [size_shp hw', size_shp hw, hsz']) fun hk => by
            have hll : (l.take off ++ l2.take m ++ l.drop (off + m)).length = l.length := by simp; omega
            refine ⟨rfl, .inr ⟨b, _, hb', hbase, hw', by rw [hsz']; show (l.take off ++ l2.take m ++ l.drop (off + m)).length ≤ _; omega, ?_⟩⟩
            obtain ⟨q1, q2⟩ := (TRl_iff ..).1 (TRl.mono hk.treeF _ _ hcs)
            show TRl _ _ ((l.take off ++ l2.take m ++ l.drop (off + m)).map (T.f .f32)) (((cs.toList.take off ++ news.take m ++ cs.toList.drop (off + m)).toArray.toList).take (l.take off ++ l2.take m ++ l.drop (off + m)).length)
            rw [hll]
            refine (TRl_iff ..).2 ⟨by rw [List.length_map, hll, List.length_take]; simp [hm2]; omega, fun j v hj => ?_⟩
            have hjl : j < l.length := by have := (List.getElem?_eq_some_iff.1 hj).1; rw [List.length_map, hll] at this; exact this
            rw [List.getElem?_take, if_pos hjl]
            have hold : ∀ i, i < l.length → ∃ z, cs.toList[i]? = some z ∧ TR (w.setRow b (cs.toList.take off ++ news.take m ++ cs.toList.drop (off + m)).toArray) _ (.f .f32 (l.getD i 0)) z := fun i hi => by
              obtain ⟨z, hz, hr⟩ := q2 i (.f .f32 l[i]) (by show (l.map (T.f .f32))[i]? = _; rw [List.getElem?_map, List.getElem?_eq_getElem hi]; rfl)
              rw [List.getElem?_take] at hz
              split at hz
              · refine ⟨z, hz, ?_⟩
                rw [List.getD_eq_getElem?_getD, List.getElem?_eq_getElem hi]; exact hr
              · cases hz
            rw [List.getElem?_map, Option.map_eq_some_iff] at hj
            obtain ⟨c, hj, rfl⟩ := hj
            simp only [List.append_assoc] at hj ⊢
            rcases Nat.lt_or_ge j off with h | h
            · rw [List.getElem?_append_left (by simp; omega), List.getElem?_take, if_pos h] at hj ⊢
              obtain ⟨z, hz, hr⟩ := hold j hjl
              rw [List.getD_eq_getElem?_getD, hj] at hr
              exact ⟨z, hz, hr⟩
            · have e1 : (l.take off).length = off := by simp; omega
              have e2 : (cs.toList.take off).length = off := by simp; omega
              rw [List.getElem?_append_right (by omega), e1] at hj
              rw [List.getElem?_append_right (by omega), e2]
              have e3 : (l2.take m).length = m := by simp; omega
              rcases Nat.lt_or_ge (j - off) m with h5 | h5
              · rw [List.getElem?_append_left (by omega), List.getElem?_take, if_pos h5] at hj
                rw [List.getElem?_append_left (by omega), List.getElem?_take, if_pos h5]
                have hln : j - off < news.length := by omega
                obtain ⟨bz, ez, hf⟩ := hnf (j - off) _ (List.getElem?_eq_getElem hln)
                refine ⟨_, List.getElem?_eq_getElem hln, ?_⟩
                rw [ez, TR]
                refine ⟨bz, rfl, ?_⟩
                rw [List.getD_eq_getElem?_getD, hj] at hf
                exact hf
              · rw [List.getElem?_append_right (by omega), e3, List.getElem?_drop, show off + m + (j - off - m) = j by omega] at hj
                rw [List.getElem?_append_right (by omega), hm2, List.getElem?_drop, show off + m + (j - off - m) = j by omega]
                obtain ⟨z, hz, hr⟩ := hold j hjl
                rw [List.getD_eq_getElem?_getD, hj] at hr
                exact ⟨z, hz, hr⟩
        unfold Oper.wp
        rw [hxv, hyv] at hexec
        rw [hexec _ hr, Result.andThen_ok, Oper.upon_value]
        exact h4 _ _ _ hc hk (by rw [VR, TR]; rfl)
end
end Go.Aw

