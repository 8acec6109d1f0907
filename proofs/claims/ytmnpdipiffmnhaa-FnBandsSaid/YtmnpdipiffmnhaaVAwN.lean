/- Blocks of slices that are written through. No condition. -/
import Derived.Test.YtmnpdipiffmnhaaVAwC
import Derived.Test.YtmnpdipiffmnhaaVT162
import Derived.Laws.CopyRow
set_option linter.unusedVariables false
namespace Go.Aw
open Go.RowKit (Below)

/-- the name of row k of the block J -/
def hid (J k : Nat) : Nat := bigN * (k + 1) + J
theorem hid_big (J k : Nat) : bigN ≤ hid J k := by unfold hid bigN; omega
theorem hid_inj {J k m : Nat} (h : hid J k = hid J m) : k = m := by unfold hid bigN at h; omega
/-- the heap of names below 'bigN' and of those above it -/
def ovH (η fm : Hp) : Hp := fun i => bif Nat.blt i bigN then η i else fm i
theorem ovH_lt {η fm : Hp} {i : Nat} (h : i < bigN) : ovH η fm i = η i := by
  unfold ovH
  rw [show Nat.blt i bigN = true from Nat.ble_eq_true_of_le h]; rfl
theorem ovH_ge {η fm : Hp} {i : Nat} (h : bigN ≤ i) : ovH η fm i = fm i := by
  unfold ovH
  have : Nat.blt i bigN = false := by
    cases hb : Nat.blt i bigN with
    | false => rfl
    | true => have := Nat.le_of_ble_eq_true hb; omega
  rw [this]; rfl
/-- rows of flat data -/
def FamOk (fm : Hp) : Prop := ∀ i B, fm i = some B → ∃ e c, B = .sl e c
def smL (l : List Nat) : Bool := l.all fun i => Nat.blt i bigN
theorem smL_lt {l : List Nat} (h : smL l = true) : ∀ i ∈ l, i < bigN := fun i hi => Nat.le_of_ble_eq_true (List.all_eq_true.1 h i hi)
def smC : List (Nat × Blk) → Bool
  | [] => true
  | (i, _) :: r => Nat.blt i bigN && smC r
theorem smC_lk {ch : List (Nat × Blk)} (h : smC ch = true) {i : Nat} (hi : bigN ≤ i) : lkH ch i = none := by
  induction ch with
  | nil => rfl
  | cons p r ih =>
    obtain ⟨j, B⟩ := p
    simp only [smC, Bool.and_eq_true] at h
    have hj := Nat.le_of_ble_eq_true h.1
    simp only [lkH]
    have : Nat.beq i j = false := by
      cases hb : Nat.beq i j with
      | false => rfl
      | true => have := Nat.eq_of_beq_eq_true hb; omega
    rw [this]; exact ih h.2
theorem hpS_ov {S : List Nat} {ch : List (Nat × Blk)} {η fm : Hp} (hS : smL S = true) (hc : smC ch = true) (hf : FamOk fm) : hpS S (lkH ch) (ovH η fm) = ovH (hpS S (lkH ch) η) fm := by
  funext i
  rcases Nat.lt_or_ge i bigN with h | h
  · rw [ovH_lt h]
    simp only [hpS, ovH_lt h]
  · rw [ovH_ge h]
    have h1 := smC_lk hc h
    have h2 : S.contains i = false := by
      cases hb : S.contains i with
      | false => rfl
      | true => have := smL_lt hS i (by simpa using hb); omega
    simp only [hpS, h1, h2, ovH_ge h, Bool.false_eq_true, if_false]
    cases hB : fm i with
    | none => rfl
    | some B => obtain ⟨e, c, rfl⟩ := hf i B hB; rfl
theorem q_ov {P : Program} {o : Oper} {F S : List Nat} {ρ : Fr} {η fm : Hp} {v : AV} {ch : Hp} (h : QRun P o F S ρ η v ch) (hF : smL F = true) : QRun P o F S ρ (ovH η fm) v ch :=
  QRun_congr h (fun _ _ => rfl) fun i hi => ovH_lt (smL_lt hF i hi)
theorem foot_ov {F C S : List Nat} {xs : List AV} {η fm : Hp} {v : AV} {ch : List (Nat × Blk)} (h : footB F C S xs η v ch = true) (hF : smL F = true) : footB F C S xs (ovH η fm) v ch = true := by
  simp only [footB, Bool.and_eq_true] at h ⊢
  refine ⟨h.1, ?_⟩
  have h6 := h.2
  simp only [List.all_eq_true] at h6 ⊢
  exact fun k hk => by rw [ovH_lt (smL_lt hF k hk)]; exact h6 k hk

/-! ### the steps of a walk -/
section
variable {P : Program} {N : Nat} {ops : Array Oper} {dr : Bool} {K : Fr → Hp → Prop} {o : Oper} {l : List Oper} {α : List (Nat × AV)} {H ch : List (Nat × Blk)} {fm : Hp} {v : AV}

theorem npx_q {d : Nat} {v' : AV} {F : List Nat} (hf : FamOk fm) (hg : guardA ops (lkF α) o = some true) (hd : o.dst = some d) (hN : Nat.blt d N = true) (hq : QRun P o F [] (lkF α) (lkH H) v (lkH []))
    (hs : smL F = true) (hv : v = v') (h : LexD P N ops false K [] l (lkF ((d, v') :: α)) (ovH (lkH H) fm)) : LexD P N ops false K [] (o :: l) (lkF α) (ovH (lkH H) fm) := by
  subst hv
  obtain ⟨tab, h1, _⟩ := h
  have e : hpS [] (lkH []) (ovH (lkH H) fm) = ovH (lkH H) fm := hpS_nil _
  exact ⟨_ :: tab, ⟨F, [], [], v, [], tab, rfl, ⟨by rw [hd]; exact hN, .inl ⟨hg, q_ov hq hs, rfl⟩⟩, by rw [hd, step_F, e]; exact h1⟩, rfl⟩
theorem npx_st {H' : List (Nat × Blk)} {F : List Nat} (hf : FamOk fm) (hg : guardA ops (lkF α) o = some true) (hd : o.dst = none) (hq : QRun P o F [] (lkF α) (lkH H) v (lkH ch)) (hs : smL F = true) (hc : smC ch = true)
    (hH : ch ++ H = H') (h : LexD P N ops false K [] l (lkF α) (ovH (lkH H') fm)) : LexD P N ops false K [] (o :: l) (lkF α) (ovH (lkH H) fm) := by
  subst hH
  obtain ⟨tab, h1, _⟩ := h
  exact ⟨_ :: tab, ⟨F, fst' ch, [], v, ch, tab, rfl, ⟨by rw [hd]; rfl, .inl ⟨hg, q_ov hq hs, rfl⟩⟩, by rw [hd, step_F0, hpS_ov rfl hc hf, step_H]; exact h1⟩, rfl⟩
theorem npx_s {d : Nat} {S : List Nat} {v' : AV} {α' : List (Nat × AV)} {H' : List (Nat × Blk)} {F : List Nat} (hf : FamOk fm) (hg : guardA ops (lkF α) o = some true) (hd : o.dst = some d) (hN : Nat.blt d N = true) (hq : QRun P o F S (lkF α) (lkH H) v (lkH ch))
    (hs : smL F = true) (hS : smL S = true) (hc : smC ch = true) (hv : v = v') (hα : scrubF S α = α') (hH : ch ++ scrubHL S H = H') (h : LexD P N ops false K [] l (lkF ((d, v') :: α')) (ovH (lkH H') fm)) : LexD P N ops false K [] (o :: l) (lkF α) (ovH (lkH H) fm) := by
  subst hv; subst hα; subst hH
  obtain ⟨tab, h1, _⟩ := h
  exact ⟨_ :: tab, ⟨F, chC S (fst' ch), S, v, ch, tab, rfl, ⟨by rw [hd]; exact hN, .inl ⟨hg, q_ov hq hs, rfl⟩⟩, by rw [hd, step_FS, hpS_ov hS hc hf, step_HS]; exact h1⟩, rfl⟩
theorem npx_skip {d : Nat} (hg : guardA ops (lkF α) o = some false) (hd : o.dst = some d) (hN : Nat.blt d N = true) (h : LexD P N ops false K [] l (lkF ((d, .t (.v undef)) :: α)) (ovH (lkH H) fm)) :
    LexD P N ops false K [] (o :: l) (lkF α) (ovH (lkH H) fm) := by
  obtain ⟨tab, h1, h2⟩ := h
  have e : hpS [] (lkH []) (ovH (lkH H) fm) = ovH (lkH H) fm := hpS_nil _
  exact ⟨_ :: tab, ⟨[], [], [], .t (.v undef), [], tab, rfl, ⟨by rw [hd]; exact hN, .inr ⟨hg, .inr rfl, rfl, rfl⟩⟩, by rw [hd, step_F, e]; exact h1⟩, rfl⟩
variable {pre : List (List Nat × List Nat)}
theorem ndx_q {d : Nat} {v' : AV} {F : List Nat} (hf : FamOk fm) (hg : guardA ops (lkF α) o = some true) (hd : o.dst = some d) (hN : Nat.blt d N = true) (hq : QRun P o F [] (lkF α) (lkH H) v (lkH []))
    (hs : smL F = true) (hv : v = v') (hft : footB F [] [] (o.op.operands.toList.map (evA (lkF α))) (lkH H) v' [] = true) (h : LexD P N ops true K ((F, []) :: pre) l (lkF ((d, v') :: α)) (ovH (lkH H) fm)) :
    LexD P N ops true K pre (o :: l) (lkF α) (ovH (lkH H) fm) := by
  subst hv
  obtain ⟨tab, h1, h2⟩ := h
  have e : hpS [] (lkH []) (ovH (lkH H) fm) = ovH (lkH H) fm := hpS_nil _
  exact ⟨_ :: tab, ⟨_, _, [], v, [], tab, rfl, ⟨by rw [hd]; exact hN, .inl ⟨hg, q_ov hq hs, by simpa using foot_ov hft hs⟩⟩, by rw [hd, step_F, e]; exact h1⟩, by simpa using h2⟩
theorem ndx_st {H' : List (Nat × Blk)} {F : List Nat} (hf : FamOk fm) (hg : guardA ops (lkF α) o = some true) (hd : o.dst = none) (hq : QRun P o F [] (lkF α) (lkH H) v (lkH ch)) (hs : smL F = true) (hc : smC ch = true)
    (hH : ch ++ H = H') (hft : footB F (fst' ch) [] (o.op.operands.toList.map (evA (lkF α))) (lkH H) v ch = true) (h : LexD P N ops true K ((F, fst' ch) :: pre) l (lkF α) (ovH (lkH H') fm)) :
    LexD P N ops true K pre (o :: l) (lkF α) (ovH (lkH H) fm) := by
  subst hH
  obtain ⟨tab, h1, h2⟩ := h
  exact ⟨_ :: tab, ⟨_, _, [], v, ch, tab, rfl, ⟨by rw [hd]; rfl, .inl ⟨hg, q_ov hq hs, by simpa using foot_ov hft hs⟩⟩, by rw [hd, step_F0, hpS_ov rfl hc hf, step_H]; exact h1⟩, by simpa using h2⟩
theorem ndx_s {d : Nat} {S : List Nat} {v' : AV} {α' : List (Nat × AV)} {H' : List (Nat × Blk)} {F : List Nat} (hf : FamOk fm) (hg : guardA ops (lkF α) o = some true) (hd : o.dst = some d) (hN : Nat.blt d N = true) (hq : QRun P o F S (lkF α) (lkH H) v (lkH ch))
    (hs : smL F = true) (hS : smL S = true) (hc : smC ch = true) (hv : v = v') (hα : scrubF S α = α') (hH : ch ++ scrubHL S H = H') (hft : footB F (chC S (fst' ch)) S (o.op.operands.toList.map (evA (lkF α))) (lkH H) v' ch = true)
    (h : LexD P N ops true K ((F, chC S (fst' ch)) :: pre) l (lkF ((d, v') :: α')) (ovH (lkH H') fm)) : LexD P N ops true K pre (o :: l) (lkF α) (ovH (lkH H) fm) := by
  subst hv; subst hα; subst hH
  obtain ⟨tab, h1, h2⟩ := h
  exact ⟨_ :: tab, ⟨_, _, S, v, ch, tab, rfl, ⟨by rw [hd]; exact hN, .inl ⟨hg, q_ov hq hs, by simpa using foot_ov hft hs⟩⟩, by rw [hd, step_FS, hpS_ov hS hc hf, step_HS]; exact h1⟩, by simpa using h2⟩
theorem ndx_skip {d : Nat} (hg : guardA ops (lkF α) o = some false) (hd : o.dst = some d) (hN : Nat.blt d N = true) (h : LexD P N ops true K (([], []) :: pre) l (lkF ((d, .t (.v undef)) :: α)) (ovH (lkH H) fm)) :
    LexD P N ops true K pre (o :: l) (lkF α) (ovH (lkH H) fm) := by
  obtain ⟨tab, h1, h2⟩ := h
  have e : hpS [] (lkH []) (ovH (lkH H) fm) = ovH (lkH H) fm := hpS_nil _
  exact ⟨_ :: tab, ⟨_, _, [], .t (.v undef), [], tab, rfl, ⟨by rw [hd]; exact hN, .inr ⟨hg, .inr rfl, rfl, rfl⟩⟩, by rw [hd, step_F, e]; exact h1⟩, by simpa using h2⟩
end
end Go.Aw

set_option linter.unusedVariables false
namespace Go.Aw
open Go.RowKit (Below)

def noRem : Nat → Bool := fun _ => false
/-- the ids that the cells mention -/
def GoodN (vis : List Nat) (L : List AV) : Prop := ∀ v ∈ L, ∀ j ∈ v.ids, bigN ≤ j ∨ j ∈ vis
theorem good_hit {vis : List Nat} {L : List AV} (h : GoodN vis L) {k : Nat} {v : AV} (hv : L[k]? = some v) {j : Nat} (hj : j ∈ v.ids) : hitN vis noRem j = false := by
  rcases h v (List.mem_of_getElem? hv) j hj with h | h
  · have : Nat.blt j bigN = false := by
      cases hb : Nat.blt j bigN with
      | false => rfl
      | true => have := Nat.le_of_ble_eq_true hb; omega
    simp [hitN, noRem, this]
  · have : vis.contains j = true := by simpa using h
    unfold hitN noRem
    rw [this]; simp
/-- none of 'S' is told of -/
def keepN (S vis : List Nat) : Bool := S.all fun i => Nat.blt i bigN && !vis.contains i
theorem scrub_nest {S vis : List Nat} {e : TypeId} {L : List AV} (h : keepN S vis = true) : scrubB S (.nest e L vis noRem) = .nest e L vis noRem := by
  have h := List.all_eq_true.1 h
  refine scrubB_id (fun i hi hs => ?_) fun i hi => ?_
  · have := h i hs
    simp only [Bool.and_eq_true, Bool.not_eq_true'] at this
    have h2 := this.2
    rw [show vis.contains i = true by simpa [Blk.ids] using hi] at h2; cases h2
  · have := h i hi
    simp only [Bool.and_eq_true] at this
    exact Nat.le_of_ble_eq_true this.1
theorem VR_known {vs : Env} {w : World} {μ : Nat → Option Nat} {ok : Nat → Prop} {vis : List Nat} {L : List AV} {cs : Array Value} (hg : GoodN vis L)
    (H : ∀ (k : Nat) (v : AV), L[k]? = some v → ∃ x, cs[k]? = some x ∧ ((∃ j ∈ v.ids, hitN vis noRem j = true) ∨ VR vs w μ ok v x)) (k : Nat) (v : AV) (hv : L[k]? = some v) : ∃ x, cs[k]? = some x ∧ VR vs w μ ok v x := by
  obtain ⟨x, hx, h | h⟩ := H k v hv
  · obtain ⟨j, hj, hh⟩ := h
    rw [good_hit hg hv hj] at hh; cases hh
  · exact ⟨x, hx, h⟩

section
variable {P : Program} {o : Oper} {F : List Nat} {ρ : Fr} {η : Hp} {ty : Ty}

theorem q_load_nest {t : TypeId} {e : TE} {e0 : TypeId} {L : List AV} {vis : List Nat} {v : AV} {x : Operand} {id off : Nat} (hlt : L[off]? = some v) (hg : GoodN vis L) (hT : TyOk P ty) (ho : o.op = .load t x) (ht : ty.get t = some e) (hk : e.d.known = true) (ha : e.d.agg = false)
    (hx : evA ρ x = .bp id off) (hη : η id = some (.nest e0 L vis noRem)) (hF : F.contains id = true) : QRun P o F [] ρ η v (lkH []) := by
  refine qrun_val fun vs w0 μ η' a w h1 h2 h3 => ?_
  have hx' := h3 x (by simp [ho, Op.operands])
  rw [hx, VR] at hx'
  obtain ⟨b, hμ, hv⟩ := hx'
  have hB := h2.blk id _ ((h1 id (by simpa using hF)).trans hη)
  rcases hB with ⟨hn, _⟩ | ⟨b', cs, hb', _, hw, _, hcs⟩
  · rw [hn] at hμ; cases hμ
  rw [hb'] at hμ; cases hμ
  obtain ⟨z, hz, hr⟩ := VR_known hg hcs off v hlt
  exact ⟨z, w.drawn, by simp [execOp, ho, hv, Instr.loadAt, Instr.sureAddr, loadVar_scalar (hT.get ht) hk ha ((cell_of_block hw off).trans hz)], hr⟩

end

/-! ### other names, and what is kept of a state -/
/-- a cell 'v0' as 'v': by another name, or a row of which nothing but its content is kept -/
def CTo (π : Nat → Nat) (η η' : Hp) (v0 v : AV) : Prop := v0 = ren π v ∨ ∃ (u : T) (id : Nat) (ef : TypeId), v = .t u ∧ v0 = .own id 0 u.len ∧ η id = some (.sl ef u) ∧ ∀ j, (η' j).isSome → π j ≠ id
/-- the block 'B' of the state 'η'' in terms of 'η', in which ids have the names 'π' -/
def BTo (π : Nat → Nat) (η η' : Hp) (i : Nat) : Blk → Prop
  | .sl e c => η (π i) = some (.sl e c) ∨ ∃ L vis, η (π i) = some (.nest e L vis noRem) ∧ GoodN vis L ∧ c.isSl = true ∧ c.len = L.length ∧
      ∀ (k : Nat) (v : AV), L[k]? = some v → ∃ u, c.elems[k]? = some u ∧ CTo π η η' v (.t u)
  | .box e l => η (π i) = some (.box e (renL π l))
  | .nest e L vis rem => (∃ L0 vis0, η (π i) = some (.nest e L0 vis0 noRem) ∧ GoodN vis0 L0 ∧ L.length = L0.length ∧ ∀ (k : Nat) (v : AV), L[k]? = some v → ∃ v0, L0[k]? = some v0 ∧ CTo π η η' v0 v) ∨ ∃ c, η (π i) = some (.sl e c) ∧ L = c.elems.map AV.t
theorem BTo.some {π : Nat → Nat} {η η' : Hp} {i : Nat} {B : Blk} (h : BTo π η η' i B) : (η (π i)).isSome := by
  cases B with
  | sl e c => rcases h with h | ⟨L, vis, h, _⟩ <;> rw [h] <;> rfl
  | box e l => rw [show η (π i) = _ from h]; rfl
  | nest e L vis rem => rcases h with ⟨L0, vis0, h, _⟩ | ⟨c, h, _⟩ <;> rw [h] <;> rfl

theorem StR_weakN {vs : Env} {N : Nat} {w0 : World} {μ : Nat → Option Nat} {ρ : Fr} {η η' : Hp} {a : Act} {w : World} (π : Nat → Nat) {α : List (Nat × AV)} (h : StR vs N w0 μ ρ η a w) (hF : wkF π ρ α)
    (hB : ∀ i B, η' i = some B → BTo π η η' i B) (hi : ∀ i j, (η' i).isSome → (η' j).isSome → π i = π j → i = j) : StR vs N w0 (fun i => μ (π i)) (lkF α) η' a w := by
  have hdom : ∀ i, (η' i).isSome → (η (π i)).isSome := fun i hs => by
    obtain ⟨B, hB'⟩ := Option.isSome_iff_exists.1 hs
    exact (hB i B hB').some
  have hok : ∀ b, okOf μ η b → okOf (fun i => μ (π i)) η' b := fun b hb i hs => hb (π i) (hdom i hs)
  have hk : Keeps w w μ μ (okOf μ η) (okOf (fun i => μ (π i)) η') (fun _ => False) := ⟨fun b hb hk => ⟨hb, hok b hk, rfl⟩, fun _ _ => rfl, fun _ _ _ _ _ hs => hs⟩
  have cell : ∀ {v0 v : AV} {x : Value}, CTo π η η' v0 v → VR vs w μ (okOf μ η) v0 x → VR vs w (fun i => μ (π i)) (okOf (fun i => μ (π i)) η') v x := by
    intro v0 v x hv hr
    rcases hv with rfl | ⟨u, id, ef, rfl, rfl, hid, hno⟩
    · exact VR_ren _ _ (VR.mono hk _ _ (fun _ _ h => h) hr)
    · rw [VR] at hr
      rw [VR]
      obtain ⟨s0, s1⟩ := h.hc.blk id _ hid
      refine (TR_sl _ _ _ s0 _).2 ?_
      rcases hr with ⟨r1, _, r3, r4⟩ | ⟨b', cap, e1, m, r1, r2, r3, r4, r5⟩
      · exact ⟨none, 0, 0, r4, r3.symm, Nat.le_refl _, .inl rfl⟩
      · rcases s1 with ⟨s1, _⟩ | ⟨b2, cs2, s1, s2, s3, s4, s5⟩
        · rw [r1] at s1; cases s1
        · rw [r1] at s1; cases s1
          refine ⟨_, u.len, cap, r2, rfl, r5, .inr ⟨b', 0, rfl, (Array.getElem?_eq_some_iff.1 s3).1, ⟨fun j hj hm => ?_, by rw [h.hc.base]; exact s2⟩, (TRs_iff ..).2 fun j t ht => ?_⟩⟩
          · exact hno j hj (h.hc.inj (π j) id b' (hdom j hj) (by rw [hid]; rfl) hm r1)
          · obtain ⟨z, hz, hr⟩ := ((TRl_iff ..).1 s5).2 j t ht
            rw [List.getElem?_take] at hz
            split at hz
            · refine ⟨z, ?_, TR.mono hk.treeF _ _ hr⟩
              rw [Nat.zero_add, cell_of_block s3]; simpa using hz
            · cases hz
  refine ⟨⟨h.hc.base, h.hc.below, fun i B hBi => ?_, fun i j b hs ht h1 h2 => hi i j hs ht (h.hc.inj (π i) (π j) b (hdom i hs) (hdom j ht) h1 h2)⟩, h.size, h.defers, fun n => ?_⟩
  · have hb := hB i B hBi
    cases B with
    | sl e c =>
      rcases hb with hb | ⟨L, vis, hb, hg, hsl, hlen, hel⟩
      · obtain ⟨h0, h1⟩ := h.hc.blk (π i) _ hb
        refine ⟨h0, Or.imp (fun x => x) ?_ h1⟩
        rintro ⟨b, cs, h1, h2, h3, h4, h5⟩
        exact ⟨b, cs, h1, h2, h3, h4, TRl.mono hk.treeF _ _ h5⟩
      · refine ⟨hsl, ?_⟩
        rcases h.hc.blk (π i) _ hb with ⟨h1, h2⟩ | ⟨b, cs, h1, h2, h3, h4, h5⟩
        · exact .inl ⟨h1, by rw [hlen, h2]; rfl⟩
        · refine .inr ⟨b, cs, h1, h2, h3, by omega, (TRl_iff ..).2 ⟨by rw [T.len_elems, hlen]; simp; omega, fun k u hu => ?_⟩⟩
          have hkl : k < L.length := by
            have := (List.getElem?_eq_some_iff.1 hu).1
            rw [T.len_elems] at this; omega
          obtain ⟨x, hx, hr⟩ := VR_known hg h5 k L[k] (List.getElem?_eq_getElem hkl)
          obtain ⟨u', hu', hv⟩ := hel k L[k] (List.getElem?_eq_getElem hkl)
          rw [hu] at hu'; cases hu'
          refine ⟨x, by rw [List.getElem?_take, if_pos (by omega), Array.getElem?_toList]; exact hx, ?_⟩
          have := cell (v := .t u) hv hr
          rw [VR] at this; exact this
    | box e l =>
      obtain ⟨b, cs, h1, h2, h3, h4⟩ := h.hc.blk (π i) _ hb
      exact ⟨b, cs, h1, h2, h3, VRl_ren _ _ (VRl.mono hk _ _ (fun _ _ h => h) h4)⟩
    | nest e L vis rem =>
      rcases hb with ⟨L0, vis0, hb, hg, hlen, hel⟩ | ⟨c, hb, rfl⟩
      · rcases h.hc.blk (π i) _ hb with ⟨h1, h2⟩ | ⟨b, cs, h1, h2, h3, h4, h5⟩
        · exact .inl ⟨h1, List.eq_nil_of_length_eq_zero (by rw [hlen, h2]; rfl)⟩
        · refine .inr ⟨b, cs, h1, h2, h3, by omega, fun k v hv => ?_⟩
          obtain ⟨v0, hv0, hc⟩ := hel k v hv
          obtain ⟨x, hx, hr⟩ := VR_known hg h5 k v0 hv0
          exact ⟨x, hx, .inr (cell hc hr)⟩
      · obtain ⟨h0, h1⟩ := h.hc.blk (π i) _ hb
        rcases h1 with ⟨h1, h2⟩ | ⟨b, cs, h1, h2, h3, h4, h5⟩
        · exact .inl ⟨h1, List.eq_nil_of_length_eq_zero (by rw [List.length_map, T.len_elems, h2])⟩
        · refine .inr ⟨b, cs, h1, h2, h3, by rw [List.length_map, T.len_elems]; exact h4, fun k v hv => ?_⟩
          rw [List.getElem?_map, Option.map_eq_some_iff] at hv
          obtain ⟨u, hu, rfl⟩ := hv
          obtain ⟨x, hx, hr⟩ := ((TRl_iff ..).1 (TRl.mono hk.treeF _ _ h5)).2 k u hu
          rw [List.getElem?_take] at hx
          split at hx
          · exact ⟨x, by simpa using hx, .inr (by rw [VR]; exact hr)⟩
          · cases hx
  · rcases wkF_lk hF n with hj | hj
    · rw [hj, VR]; trivial
    · have := h.slots n
      rw [hj] at this
      exact VR_ren _ _ (VR.mono hk _ _ (fun _ _ h => h) this)

section
variable {P : Program} {N : Nat} {Q : Exit → Fr → Hp → Prop} {ρ : Fr} {η : Hp}
theorem awp_weakN {c : Code} (π : Nat → Nat) (α : List (Nat × AV)) (η' : Hp) (hF : wkF π ρ α) (hB : ∀ i B, η' i = some B → BTo π η η' i B) (hi : ∀ i j, (η' i).isSome → (η' j).isSome → π i = π j → i = j) (h : AWp P N c Q (lkF α) η') : AWp P N c Q ρ η :=
  fun vs w0 μ a w hs => h vs w0 _ a w (StR_weakN π hs hF hB hi)
def FamN {X : Type} (Inv : X → Prop) (α : X → List (Nat × AV)) (H : X → Hp) (x : X) (ρ : Fr) (η : Hp) : Prop :=
  Inv x ∧ ∃ π, wkF π ρ (α x) ∧ (∀ i B, H x i = some B → BTo π η (H x) i B) ∧ ∀ i j, (H x i).isSome → (H x j).isSome → π i = π j → i = j
theorem awp_loopN {X : Type} (Inv : X → Prop) (α : X → List (Nat × AV)) (H : X → Hp) (m : X → Nat) {c : Code} (x0 : X) (h0 : FamN Inv α H x0 ρ η)
    (h : ∀ x, Inv x → AWp P N c (thenA (fun ρ' η' => ∃ x', m x' < m x ∧ FamN Inv α H x' ρ' η') Q) (lkF (α x)) (H x)) : AWp P N (.loop c) Q ρ η := by
  intro vs w0 μ a w hs b k cs
  have key : ∀ n, ∀ x, m x = n → Inv x → ∀ μ a w, StR vs N w0 μ (lkF (α x)) (H x) a w →
      ∃ e a' w', (∃ ρ' η' μ', Q e ρ' η' ∧ StR vs N w0 μ' ρ' η' a' w') ∧ Arrives P (lone (b.at a (.code c :: .inLoop c :: k)) cs w) b k cs e a' w' := by
    intro n
    induction n using Nat.strongRecOn with
    | _ n ih =>
      intro x hx hI μ a w hs
      obtain ⟨e, a₁, w₁, ⟨ρ', η', μ', q, s⟩, harr⟩ := h x hI vs w0 μ a w hs b (.inLoop c :: k) cs
      cases e with
      | normal =>
        obtain ⟨x', hlt, hI', π, hF, hH, hi⟩ := q
        obtain ⟨e₂, a₂, w₂, hq₂, harr₂⟩ := ih (m x') (hx ▸ hlt) x' rfl hI' _ a₁ w₁ (StR_weakN π s hF hH hi)
        exact ⟨e₂, a₂, w₂, hq₂, .of_steps (Steps.trans harr (.one step_inLoop)) harr₂⟩
      | exit id => exact ⟨_, a₁, w₁, ⟨ρ', η', μ', q, s⟩, .pass (x := .inLoop c) rfl (fun _ _ => .inl (by simp)) harr⟩
      | goto l => exact ⟨_, a₁, w₁, ⟨ρ', η', μ', q, s⟩, .pass (x := .inLoop c) rfl (fun _ _ => .inl (by simp)) harr⟩
      | ret => exact ⟨_, a₁, w₁, ⟨ρ', η', μ', q, s⟩, .pass (x := .inLoop c) rfl (fun _ _ => .inl (by simp)) harr⟩
      | panic ch => exact ⟨_, a₁, w₁, ⟨ρ', η', μ', q, s⟩, .pass (x := .inLoop c) rfl (fun _ _ => .inl (by simp)) harr⟩
      | outgrown => exact ⟨_, a₁, w₁, ⟨ρ', η', μ', q, s⟩, .pass (x := .inLoop c) rfl (fun _ _ => .inl (by simp)) harr⟩
  obtain ⟨hI, π, hF, hH, hi⟩ := h0
  obtain ⟨e, a', w', q, harr⟩ := key _ x0 rfl hI _ a w (StR_weakN π hs hF hH hi)
  exact ⟨e, a', w', q, .of_steps (.one step_loop) harr⟩
end

/-! ### no rows -/
def noFam : Hp := fun _ => none
theorem famOk_no : FamOk noFam := fun i B h => by cases h
def wkB (π : Nat → Nat) (η η' : Hp) : List (Nat × Blk) → Prop
  | [] => True
  | (i, B) :: r => BTo π η η' i B ∧ wkB π η η' r
theorem wkB_lk {π : Nat → Nat} {η η' : Hp} {l : List (Nat × Blk)} (h : wkB π η η' l) {i : Nat} {B : Blk} (hl : lkH l i = some B) : BTo π η η' i B := by
  induction l with
  | nil => simp [lkH] at hl
  | cons p r ih =>
    obtain ⟨s, v⟩ := p
    simp only [lkH] at hl
    cases hb : Nat.beq i s with
    | true => simp only [hb, cond_true, Option.some.injEq] at hl; subst hl; rw [Nat.eq_of_beq_eq_true hb]; exact h.1
    | false => simp only [hb, cond_false] at hl; exact ih h.2 hl
theorem wkB_ov {π : Nat → Nat} {η fm : Hp} {l : List (Nat × Blk)} (h : wkB π η (ovH (lkH l) fm) l) (hf : ∀ i B, bigN ≤ i → fm i = some B → BTo π η (ovH (lkH l) fm) i B) (i : Nat) (B : Blk) (hl : ovH (lkH l) fm i = some B) : BTo π η (ovH (lkH l) fm) i B := by
  rcases Nat.lt_or_ge i bigN with hi | hi
  · rw [ovH_lt hi] at hl; exact wkB_lk h hl
  · rw [ovH_ge hi] at hl; exact hf i B hi hl
section
variable {P : Program} {N : Nat} {Q : Exit → Fr → Hp → Prop} {ρ : Fr} {η : Hp}
theorem awp_wk0 {c : Code} (α : List (Nat × AV)) (l : List (Nat × Blk)) (hF : wkF (fun i => i) ρ α) (hB : wkB (fun i => i) η (ovH (lkH l) noFam) l) (h : AWp P N c Q (lkF α) (ovH (lkH l) noFam)) : AWp P N c Q ρ η :=
  awp_weakN (fun i => i) α _ hF (wkB_ov hB fun i B _ h => by cases h) (fun _ _ _ _ h => h) h
/-- .. and back to a state without rows -/
theorem awp_off {c : Code} (α : List (Nat × AV)) (l : List (Nat × Blk)) (hF : wkF (fun i => i) ρ α) (hB : wkB (fun i => i) η (lkH l) l) (h : AWp P N c Q (lkF α) (lkH l)) : AWp P N c Q ρ η :=
  awp_weakN (fun i => i) α _ hF (fun i B hl => wkB_lk hB hl) (fun _ _ _ _ h => h) h
end
end Go.Aw

set_option linter.unusedVariables false
namespace Go.Aw
open Go.RowKit (Below)

section
variable {P : Program} {o : Oper} {F : List Nat} {ρ : Fr} {η : Hp} {ty : Ty}
end
end Go.Aw

