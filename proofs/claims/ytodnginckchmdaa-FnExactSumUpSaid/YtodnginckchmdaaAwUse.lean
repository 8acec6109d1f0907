/- A call by its callee's contract; conversions; what is left. -/
import Derived.Test.YtodnginckchmdaaAwCall
set_option linter.unusedVariables false
namespace Go.Aw
open Go.RowKit (Below)

mutual
/-- 'v' reads as 't' -/
inductive ToT (F : List Nat) (η : Hp) : AV → T → Prop
  | tr {v : AV} {d : Bool} {t : T} (h : v.tr = some (d, t)) : ToT F η v t
  | own {id n : Nat} {e : TypeId} {c : T} (h : η id = some (.sl e c)) (hF : F.contains id = true) (hn : c.len = n) : ToT F η (.own id 0 n) c
  | cut {id off n : Nat} {e : TypeId} {c t : T} (h : η id = some (.sl e c)) (hF : F.contains id = true) (hn : off + n ≤ c.len) (ht : t = c.cut off (off + n)) : ToT F η (.own id off n) t
  | emp {c : T} (h : c.isSl = true) (hn : c.len = 0) : ToT F η .emp c
  | argo {i id off n : Nat} {t : T} (h : ToT F η (.own id off n) t) : ToT F η (.argo i id off n) t
  | nil {c : T} (h : c.isSl = true) (hn : c.len = 0) : ToT F η (.t (.v (.slice none 0 0))) c
  | box {id off : Nat} {e : TypeId} {l : List AV} {ts : List T} (h : η id = some (.box e l)) (hF : F.contains id = true) (hs : ToTs F η (l.drop off) ts) : ToT F η (.bp id off) (.ref ts)
  | agg {l : List AV} {ts : List T} (hs : ToTs F η l ts) : ToT F η (.agg l) (.agg ts)
  | fn {f : FuncId} {l : List AV} {ts : List T} (hs : ToTs F η l ts) : ToT F η (.fn f l) (.fn f ts)
inductive ToTs (F : List Nat) (η : Hp) : List AV → List T → Prop
  | nil : ToTs F η [] []
  | cons {v : AV} {t : T} {r : List AV} {ts : List T} (h : ToT F η v t) (hs : ToTs F η r ts) : ToTs F η (v :: r) (t :: ts)
end

theorem TRs_of_TRl {w : World} {ok : Nat → Prop} {b : Nat} {cs : Array Value} {e : TypeId} {fz : Nat × Nat} (hw : w.heap[b]? = some (.cells cs e fz)) : ∀ (l : List T) (o : Nat), (∀ i t, l[i]? = some t → ∃ x, cs[o + i]? = some x ∧ TR w ok t x) → TRs w ok l b o := by
  intro l o h
  refine (TRs_iff ..).2 fun i t ht => ?_
  obtain ⟨x, hx, hr⟩ := h i t ht
  exact ⟨x, by rw [cell_of_block hw]; exact hx, hr⟩

mutual
theorem toT_TR' {F : List Nat} {η : Hp} {vs : Env} {w0 w : World} {μ : Nat → Option Nat} {η' : Hp} {ok2 : Nat → Prop} (hF : ∀ i ∈ F, η' i = η i) (hc : HC vs w0 μ η' w) (hk1 : ∀ b, okOf μ η' b → ok2 b) (hk2 : ∀ i ∈ F, ∀ b, μ i = some b → (η' i).isSome → ok2 b) :
    ∀ {v : AV} {t : T}, ToT F η v t → ∀ {y : Value}, VR vs w μ (okOf μ η') v y → TR w ok2 t y
  | _, _, .tr h, y, hv => TR.weak hk1 (VR_tree hv h)
  | _, _, .argo h, y, hv => toT_TR' hF hc hk1 hk2 h (VR_own hv rfl)
  | _, _, .own (id := id) (c := c) h hf hn, y, hv => by
    have hη := (hF id (by simpa using hf)).trans h
    obtain ⟨hsl, hB⟩ := hc.blk id _ hη
    rw [VR] at hv
    refine (TR_sl w _ c hsl y).2 ?_
    rcases hB with ⟨hn0, h0⟩ | ⟨b, cs, hb, _, hw, hlen, hcs⟩
    · rcases hv with ⟨_, _, _, rfl⟩ | ⟨b, _, _, _, hb, _⟩
      · exact ⟨none, 0, 0, rfl, h0.symm, Nat.le_refl _, .inl rfl⟩
      · rw [hn0] at hb; cases hb
    · rcases hv with ⟨hn0, _⟩ | ⟨b', cap, e1, n1, hb', rfl, hs1, hs2, hs3⟩
      · rw [hn0] at hb; cases hb
      · rw [hb] at hb'; cases hb'
        refine ⟨_, _, _, rfl, hn.symm, hs3, .inr ⟨b, 0, rfl, (Array.getElem?_eq_some_iff.1 hw).1, hk2 id (by simpa using hf) b hb (by rw [hη]; rfl), TRs_of_TRl hw _ _ fun i t ht => ?_⟩⟩
        obtain ⟨x, hx, hr⟩ := ((TRl_iff ..).1 hcs).2 i t ht
        rw [List.getElem?_take] at hx
        split at hx
        · exact ⟨x, by rw [Nat.zero_add]; simpa using hx, TR.weak (fun b hb => hk1 b hb.1) hr⟩
        · cases hx
  | _, _, .cut (id := id) (off := off) (n := n) (c := c) h hf hn ht, y, hv => by
    subst ht
    have hη := (hF id (by simpa using hf)).trans h
    obtain ⟨hsl, hB⟩ := hc.blk id _ hη
    rw [VR] at hv
    refine (TR_sl w _ _ (by rw [T.cut_isSl]; exact hsl) y).2 ?_
    rw [T.cut_len c hsl _ _ hn]
    rcases hB with ⟨hn0, h0⟩ | ⟨b, cs, hb, _, hw, hlen, hcs⟩
    · rcases hv with ⟨_, _, hz, rfl⟩ | ⟨b, _, _, _, hb, _⟩
      · exact ⟨none, 0, 0, rfl, by omega, Nat.le_refl _, .inl rfl⟩
      · rw [hn0] at hb; cases hb
    · rcases hv with ⟨hn0, _⟩ | ⟨b', cap, e1, n1, hb', rfl, hs1, hs2, hs3⟩
      · rw [hn0] at hb; cases hb
      · rw [hb] at hb'; cases hb'
        refine ⟨_, _, _, rfl, by omega, hs3, .inr ⟨b, off, rfl, (Array.getElem?_eq_some_iff.1 hw).1, hk2 id (by simpa using hf) b hb (by rw [hη]; rfl), TRs_of_TRl hw _ _ fun i t ht => ?_⟩⟩
        rw [T.cut_elems c hsl] at ht
        rw [List.getElem?_drop, List.getElem?_take] at ht
        split at ht
        · obtain ⟨x, hx, hr⟩ := ((TRl_iff ..).1 hcs).2 _ t ht
          rw [List.getElem?_take] at hx
          split at hx
          · exact ⟨x, by simpa using hx, TR.weak (fun b hb => hk1 b hb.1) hr⟩
          · cases hx
        · cases ht
  | _, _, .emp (c := c) h hn, y, hv => by
    rw [VR] at hv
    obtain ⟨a, rfl⟩ := hv
    exact (TR_sl w _ c h _).2 ⟨a, 0, 0, rfl, hn.symm, Nat.le_refl _, .inl rfl⟩
  | _, _, .nil (c := c) h hn, y, hv => by
    rw [VR, TR] at hv
    subst hv
    exact (TR_sl w _ c h _).2 ⟨none, 0, 0, rfl, hn.symm, Nat.le_refl _, .inl rfl⟩
  | _, _, .box (id := id) (off := off) (l := l) (ts := ts) h hf hs, y, hv => by
    have hη := (hF id (by simpa using hf)).trans h
    obtain ⟨b, cs, hb, _, hw, hcs⟩ := hc.blk id _ hη
    rw [VR] at hv
    obtain ⟨b', hb', rfl⟩ := hv
    rw [hb] at hb'; cases hb'
    rw [TR]
    refine ⟨b, off, rfl, (Array.getElem?_eq_some_iff.1 hw).1, hk2 id (by simpa using hf) b hb (by rw [hη]; rfl), TRs_of_TRl hw _ _ ?_⟩
    have hd : VRl vs w μ (okOf μ η') (l.drop off) (cs.toList.drop off) := by
      obtain ⟨h1, h2⟩ := (VRl_iff ..).1 hcs
      refine (VRl_iff ..).2 ⟨by simp only [List.length_drop, h1], fun i v hv => ?_⟩
      rw [List.getElem?_drop] at hv ⊢
      exact h2 _ v hv
    have := (TRl_iff ..).1 (toTs_TR' hF hc hk1 hk2 hs hd)
    intro i t ht
    obtain ⟨x, hx, hr⟩ := this.2 i t ht
    rw [List.getElem?_drop] at hx
    exact ⟨x, by simpa using hx, hr⟩
  | _, _, .agg hs, y, hv => by
    rw [VR] at hv
    obtain ⟨xs, rfl, hx⟩ := hv
    rw [TR]
    exact ⟨xs, rfl, toTs_TR' hF hc hk1 hk2 hs hx⟩
  | _, _, .fn hs, y, hv => by
    rw [VR] at hv
    obtain ⟨xs, rfl, hx⟩ := hv
    rw [TR]
    exact ⟨xs, rfl, toTs_TR' hF hc hk1 hk2 hs hx⟩
theorem toTs_TR' {F : List Nat} {η : Hp} {vs : Env} {w0 w : World} {μ : Nat → Option Nat} {η' : Hp} {ok2 : Nat → Prop} (hF : ∀ i ∈ F, η' i = η i) (hc : HC vs w0 μ η' w) (hk1 : ∀ b, okOf μ η' b → ok2 b) (hk2 : ∀ i ∈ F, ∀ b, μ i = some b → (η' i).isSome → ok2 b) :
    ∀ {l : List AV} {ts : List T}, ToTs F η l ts → ∀ {ys : List Value}, VRl vs w μ (okOf μ η') l ys → TRl w ok2 ts ys
  | _, _, .nil, ys, hv => by rw [VRl] at hv; rw [TRl]; exact hv
  | _, _, .cons h hs, ys, hv => by
    rw [VRl] at hv
    obtain ⟨x, zs, rfl, hx, hr⟩ := hv
    rw [TRl]
    exact ⟨x, zs, rfl, toT_TR' hF hc hk1 hk2 h hx, toTs_TR' hF hc hk1 hk2 hs hr⟩
end

/-! ### the call -/

def cid (d j : Nat) : Nat := d + 1000 * j
mutual
/-- the result as the caller sees it -/
def resV (d : Nat) (avs : List AV) : RV → AV
  | .t t => .t t
  | .arg i => avs.getD i .junk
  | .argc i j => match avs.getD i .junk with
    | .agg l => l.getD j .junk
    | _ => .junk
  | .own j n => .own (cid d j) 0 n
  | .cut j off n => .own (cid d j) off n
  | .agg l => .agg (resVl d avs l)
  | .tup l => .tup (resVl d avs l)
def resVl (d : Nat) (avs : List AV) : List RV → List AV
  | [] => []
  | v :: r => resV d avs v :: resVl d avs r
end
def cids (d : Nat) : List (Nat × Blk) → List Nat
  | [] => []
  | (j, _) :: r => cid d j :: cids d r
def cblk (d : Nat) : List (Nat × Blk) → List (Nat × Blk)
  | [] => []
  | (j, B) :: r => (cid d j, B) :: cblk d r

theorem mem_cids {d i : Nat} {hs : List (Nat × Blk)} : i ∈ cids d hs ↔ ∃ j B, (j, B) ∈ hs ∧ i = cid d j := by
  induction hs with
  | nil => simp [cids]
  | cons p r ih =>
    obtain ⟨j, B⟩ := p
    simp only [cids, List.mem_cons, ih]
    constructor
    · rintro (rfl | ⟨j', B', h, rfl⟩)
      · exact ⟨j, B, .inl rfl, rfl⟩
      · exact ⟨j', B', .inr h, rfl⟩
    · rintro ⟨j', B', h | h, rfl⟩
      · cases h; exact .inl rfl
      · exact .inr ⟨j', B', h, rfl⟩
theorem lkH_some {hs : List (Nat × Blk)} {j : Nat} {B : Blk} (h : (j, B) ∈ hs) : (lkH hs j).isSome := by
  induction hs with
  | nil => simp at h
  | cons p r ih =>
    obtain ⟨k, B'⟩ := p
    simp only [lkH]
    cases hb : Nat.beq j k with
    | true => rfl
    | false =>
      rcases List.mem_cons.1 h with h | h
      · cases h; simp at hb
      · exact ih h
theorem lkH_cblk {d j : Nat} {hs : List (Nat × Blk)} : lkH (cblk d hs) (cid d j) = lkH hs j := by
  induction hs with
  | nil => rfl
  | cons p r ih =>
    obtain ⟨k, B⟩ := p
    simp only [cblk, lkH, ih]
    have : Nat.beq (cid d j) (cid d k) = Nat.beq j k := by
      cases hb : Nat.beq j k with
      | true => rw [Nat.eq_of_beq_eq_true hb]; simp
      | false =>
        cases h : Nat.beq (cid d j) (cid d k) with
        | false => rfl
        | true =>
          have := Nat.eq_of_beq_eq_true h
          unfold cid at this
          have : j = k := by omega
          subst this; simp at hb
    rw [this]
theorem lkH_cblk_none {d i : Nat} {hs : List (Nat × Blk)} (h : i ∉ cids d hs) : lkH (cblk d hs) i = none := by
  cases hl : lkH (cblk d hs) i with
  | none => rfl
  | some B =>
    exfalso
    have := lkH_mem hl
    have key : ∀ (hs : List (Nat × Blk)), (i, B) ∈ cblk d hs → i ∈ cids d hs := by
      intro hs
      induction hs with
      | nil => simp [cblk]
      | cons p r ih =>
        obtain ⟨k, B'⟩ := p
        simp only [cblk, cids, List.mem_cons, Prod.mk.injEq]
        rintro (⟨rfl, _⟩ | h)
        · exact .inl rfl
        · exact .inr (ih h)
    exact h (key hs this)

mutual
def ownsB (hs : List (Nat × Blk)) : RV → Bool
  | .own j _ => (lkH hs j).isSome
  | .cut j _ _ => (lkH hs j).isSome
  | .agg l => ownsBl hs l
  | .tup l => ownsBl hs l
  | _ => true
def ownsBl (hs : List (Nat × Blk)) : List RV → Bool
  | [] => true
  | v :: r => ownsB hs v && ownsBl hs r
end

theorem getD_junk {l : List AV} {i : Nat} {v : AV} (h : l[i]? = some v) : l.getD i .junk = v := by simp [List.getD_eq_getElem?_getD, h]
theorem getD_junk' {l : List AV} {i : Nat} (h : l[i]? = none) : l.getD i .junk = .junk := by simp [List.getD_eq_getElem?_getD, h]

mutual
theorem resV_VR {vs : Env} {w' : World} {μ' μr : Nat → Option Nat} {ok' okr : Nat → Prop} {S : List Nat} {avs : List AV} {ys : List Value} {hs : List (Nat × Blk)} {d : Nat}
    (havs : VRl vs w' μ' ok' avs ys) (hok : ∀ b, okr b → okF vs ok' b) (hμ : ∀ j, Nat → (lkH hs j).isSome → μ' (cid d j) = μr j) :
    ∀ (rv : RV), ownsB hs rv = true → ∀ (y : Value), RRel ys w' μr okr rv y → VR vs w' μ' ok' (resV d avs rv) y
  | .t t, _, y, h => by rw [RRel] at h; simp only [resV]; rw [VR]; exact TR.weak hok h
  | .arg i, _, y, h => by
    rw [RRel] at h
    simp only [resV]
    obtain ⟨h1, h2⟩ := (VRl_iff ..).1 havs
    cases hv : avs[i]? with
    | none => rw [getD_junk' hv, VR]; trivial
    | some v =>
      obtain ⟨x, hx, hr⟩ := h2 i v hv
      rw [h] at hx; cases hx
      rw [getD_junk hv]; exact hr
  | .argc i j, _, y, h => by
    rw [RRel] at h
    obtain ⟨xs, hxs, hy⟩ := h
    simp only [resV]
    obtain ⟨h1, h2⟩ := (VRl_iff ..).1 havs
    cases hv : avs[i]? with
    | none => rw [getD_junk' hv]; simp only []; rw [VR]; trivial
    | some v =>
      rw [getD_junk hv]
      obtain ⟨x, hx, hr⟩ := h2 i v hv
      rw [hxs] at hx; cases hx
      cases v with
      | agg l =>
        simp only []
        rw [VR] at hr
        obtain ⟨zs, hz, hl⟩ := hr
        cases hz
        cases hl2 : l[j]? with
        | none => rw [getD_junk' hl2, VR]; trivial
        | some u =>
          rw [getD_junk hl2]
          obtain ⟨z, hz, hr⟩ := ((VRl_iff ..).1 hl).2 j u hl2
          have : xs.toList[j]? = some y := by simpa using hy
          rw [this] at hz; cases hz
          exact hr
      | _ => simp only []; rw [VR]; trivial
  | .own j n, ho, y, h => by
    rw [RRel] at h
    simp only [ownsB] at ho
    simp only [resV]
    rw [VR, hμ j n ho]
    rcases h with ⟨h1, h2, h3⟩ | ⟨b, cap, e, m, h1, h2, h3, h4, h5⟩
    · exact .inl ⟨h1, rfl, h2, h3⟩
    · exact .inr ⟨b, cap, e, m, h1, h2, h3, by omega, h5⟩
  | .cut j off n, ho, y, h => by
    rw [RRel] at h
    simp only [ownsB] at ho
    simp only [resV]
    rw [VR, hμ j n ho]
    exact h
  | .agg l, ho, y, h => by
    rw [RRel] at h
    obtain ⟨xs, rfl, hx⟩ := h
    simp only [resV]; rw [VR]
    exact ⟨xs, rfl, resV_VRl (S := S) havs hok hμ l (by simpa [ownsB] using ho) _ hx⟩
  | .tup l, ho, y, h => by
    rw [RRel] at h
    obtain ⟨xs, rfl, hx⟩ := h
    simp only [resV]; rw [VR]
    exact ⟨xs, rfl, resV_VRl (S := S) havs hok hμ l (by simpa [ownsB] using ho) _ hx⟩
theorem resV_VRl {vs : Env} {w' : World} {μ' μr : Nat → Option Nat} {ok' okr : Nat → Prop} {S : List Nat} {avs : List AV} {ys : List Value} {hs : List (Nat × Blk)} {d : Nat}
    (havs : VRl vs w' μ' ok' avs ys) (hok : ∀ b, okr b → okF vs ok' b) (hμ : ∀ j, Nat → (lkH hs j).isSome → μ' (cid d j) = μr j) :
    ∀ (l : List RV), ownsBl hs l = true → ∀ (xs : List Value), RRell ys w' μr okr l xs → VRl vs w' μ' ok' (resVl d avs l) xs
  | [], _, xs, h => by rw [RRell] at h; simp only [resVl]; rw [VRl]; exact h
  | v :: r, ho, xs, h => by
    rw [RRell] at h
    obtain ⟨x, zs, rfl, hx, hr⟩ := h
    simp only [ownsBl, Bool.and_eq_true] at ho
    simp only [resVl]; rw [VRl]
    exact ⟨x, zs, rfl, resV_VR (S := S) havs hok hμ v ho.1 x hx, resV_VRl (S := S) havs hok hμ r ho.2 zs hr⟩
end

section
variable {P : Program} {o : Oper} {F : List Nat} {ρ : Fr} {η : Hp} {ty : Ty}


theorem invoke_run {f : FuncId} {fn : Func} {w : World} (hf : P.funcs[f]? = some fn) (hb : fn.body.isSome = true) (hn : (fn.name == "runtime.NumGoroutine") = false) (args : Array Value) : (callFunc f args).run P w = .ok (.enter f args) w := by
  have hn' : ¬ (fn.name = "runtime.NumGoroutine") := by simpa using hn
  have hb' : fn.body ≠ none := by intro h; rw [h] at hb; cases hb
  simp [callFunc, hf, hn', hb']

/-- a function's value: of this frame, or handed over -/
inductive IsFn : AV → FuncId → List AV → Prop
  | fn {f : FuncId} {l : List AV} : IsFn (.fn f l) f l
  | tr {v : AV} {d : Bool} {f : FuncId} {l : List T} (h : v.tr = some (d, .fn f l)) : IsFn v f (l.map (mkT d))
theorem IsFn.vr {vs : Env} {w : World} {μ : Nat → Option Nat} {ok : Nat → Prop} {v : AV} {f : FuncId} {l : List AV} (h : IsFn v f l) {y : Value} (hv : VR vs w μ ok v y) : VR vs w μ ok (.fn f l) y := by
  cases h with
  | fn => exact hv
  | tr h =>
    have := VR_tr hv h
    rw [TR] at this
    obtain ⟨xs, rfl, hx⟩ := this
    rw [VR]
    refine ⟨xs, rfl, (VRl_iff ..).2 ?_⟩
    obtain ⟨h1, h2⟩ := (TRl_iff ..).1 hx
    refine ⟨by simpa using h1, fun i u hu => ?_⟩
    simp only [List.getElem?_map, Option.map_eq_some_iff] at hu
    obtain ⟨t, ht, rfl⟩ := hu
    obtain ⟨x, hx1, hx2⟩ := h2 i t ht
    exact ⟨x, hx1, mkT_VR hx2⟩

theorem q_callf {f : FuncId} {caps : List AV} {args : Array Operand} {tys : Array TypeId} {cx : Operand} {ts : List T} {rv : RV} {hs : List (Nat × Blk)} {d : Nat} (hc : TCall P f ts rv hs) (ho : o.op = .call { callee := .value cx, args := args, argTypes := tys })
    (hd : o.dst = some d) (hcx : IsFn (evA ρ cx) f caps) (hbox : noBox hs = true) (hown : ownsB hs rv = true) (hts : ToTs F η (args.toList.map (evA ρ) ++ caps) ts) :
    QRun P o F (cids d hs) ρ η (resV d (scrubL (cids d hs) (args.toList.map (evA ρ) ++ caps)) rv) (lkH (cblk d hs)) := by
  intro vs w0 μ η' a w Q K h1 h2 h3 h4
  obtain ⟨⟨fn, hfn, hbody, hname⟩, hcall⟩ := hc
  have hcv := h3 cx (by simp [ho, Op.operands, Call.operands])
  replace hcv := hcx.vr hcv
  rw [VR] at hcv
  obtain ⟨caps', hcv, hcaps⟩ := hcv
  have hargs : VRl vs w μ (okOf μ η') (args.toList.map (evA ρ) ++ caps) (args.toList.map a.eval ++ caps'.toList) := by
    obtain ⟨g1, g2⟩ := (VRl_iff ..).1 hcaps
    refine (VRl_iff ..).2 ⟨by simp [g1], fun i v hv => ?_⟩
    rcases Nat.lt_or_ge i args.toList.length with hi | hi
    · rw [List.getElem?_append_left (by simpa using hi)] at hv ⊢
      simp only [List.getElem?_map, Option.map_eq_some_iff] at hv
      obtain ⟨x, hx, rfl⟩ := hv
      exact ⟨a.eval x, by simp only [List.getElem?_map, hx, Option.map_some], h3 x (by simp [ho, Op.operands, Call.operands]; exact .inr (by simpa using List.mem_of_getElem? hx))⟩
    · rw [List.getElem?_append_right (by simpa using hi)] at hv ⊢
      simp only [List.length_map] at hv ⊢
      exact g2 _ v hv
  have hT := toTs_TR' (ok2 := fun _ => True) h1 h2 (fun _ _ => trivial) (fun _ _ _ _ _ => trivial) hts hargs
  have hcs := hcall w _ hT
  have hrun : (execOp a.eval o).run P w = .ok (.enter f (args.toList.map a.eval ++ caps'.toList).toArray) w := by
    have e : (args.toList.map a.eval ++ caps'.toList).toArray = args.map a.eval ++ caps' := by apply Array.ext'; simp
    rw [e]
    simp [execOp, ho, resolve, Deferred.ofValue, hcv, invoke, invoke_run hfn hbody hname]
  unfold Oper.wp
  rw [hrun, Oper.upon_enter]
  refine hcs.mono ?_
  rintro e w' ⟨y, μr, rfl, hcr, hrr⟩
  simp only []
  have hbel := hcr.below.below (fun _ h => h)
  let S := cids d hs
  let μ' : Nat → Option Nat := fun i => if i ∈ S then μr ((i - d) / 1000) else μ i
  have hcid : ∀ j, (cid d j - d) / 1000 = j := fun j => by unfold cid; omega
  have hin : ∀ j, (lkH hs j).isSome → cid d j ∈ S := fun j hj => by
    obtain ⟨B, hB⟩ := Option.isSome_iff_exists.1 hj
    exact mem_cids.2 ⟨j, B, lkH_mem hB, rfl⟩
  have hμn : ∀ j, (lkH hs j).isSome → μ' (cid d j) = μr j := fun j hj => by simp only [μ', if_pos (hin j hj), hcid]
  have hge : ∀ j b, (lkH hs j).isSome → μr j = some b → w.heap.size ≤ b := fun j b hj hm => by
    obtain ⟨B, hB⟩ := Option.isSome_iff_exists.1 hj
    exact (blk_lt (hcr.blk j B hB) hm).1.elim id False.elim
  have hold : ∀ i b, (η' i).isSome → μ i = some b → b < w.heap.size := fun i b hi hm => by
    obtain ⟨B, hB⟩ := Option.isSome_iff_exists.1 hi
    exact (blk_lt (h2.blk i B hB) hm).2
  let η2 := hpS S (lkH (cblk d hs)) η'
  have e2 : ∀ i, i ∉ S → η2 i = (η' i).map (scrubB S) := fun i hi => hpS_off (lkH_cblk_none hi) hi
  have hk : Keeps w w' μ μ' (okOf μ η') (okOf μ' η2) (· ∈ S) := by
    refine ⟨fun b hb hok => ⟨by have := hbel.size; omega, fun i hi => ?_, hbel.block b hb⟩, fun i hi => by simp only [μ', if_neg hi], fun i b hi hm s hs => ?_⟩
    · by_cases hiS : i ∈ S
      · obtain ⟨j, B, hj, rfl⟩ := mem_cids.1 hiS
        have hjs := lkH_some hj
        rw [hμn j hjs]
        intro h
        have := hge j b hjs h; omega
      · rw [e2 i hiS, Option.isSome_map] at hi
        simp only [μ', if_neg hiS]; exact hok i hi
    · have hb : b < w.heap.size := by
        rcases Nat.lt_or_ge b w.heap.size with h | h
        · exact h
        · simp [World.shape?, Array.getElem?_eq_none h] at hs
      rw [← hs]; exact shape?_of_block (hbel.block b hb)
  have hok2 : ∀ b, okF ⟨args.toList.map a.eval ++ caps'.toList, w.heap.size, noLoan⟩ (okOf μr (lkH hs)) b → okF vs (okOf μ' η2) b := fun b ⟨hb1, hb2⟩ => by
    refine ⟨fun i hi => ?_, by rw [h2.base]; exact Nat.le_trans h2.below.size hb2⟩
    by_cases hiS : i ∈ S
    · obtain ⟨j, B, hj, rfl⟩ := mem_cids.1 hiS
      have hjs := lkH_some hj
      rw [hμn j hjs]; exact hb1 j hjs
    · rw [e2 i hiS, Option.isSome_map] at hi
      simp only [μ', if_neg hiS]
      intro h
      have := hold i b hi h
      have hb2' : w.heap.size ≤ b := hb2
      omega
  have hHC : HC vs w0 μ' η2 w' := by
    refine HC_step h2 hk (h2.below.grow hbel) (fun i B hi _ _ b hm => hbel.block b (hold i b (by rw [hi]; rfl) hm)) (fun i B hi => ?_) (fun i j b hi hj hm1 hm2 => ?_)
    · have hiS : i ∈ S := Classical.byContradiction fun h => by rw [lkH_cblk_none h] at hi; cases hi
      obtain ⟨j, B0, hj, rfl⟩ := mem_cids.1 hiS
      rw [lkH_cblk] at hi
      have hjs : (lkH hs j).isSome := by rw [hi]; rfl
      obtain ⟨e0, c0, rfl⟩ := noBox_lk hbox j B hi
      obtain ⟨q1, q2⟩ := hcr.blk j _ hi
      refine ⟨q1, ?_⟩
      rw [hμn j hjs]
      refine Or.imp (fun x => x) ?_ q2
      rintro ⟨b, cs, r1, r2, r3, r4, r5⟩
      exact ⟨b, cs, r1, .inl (Nat.le_trans h2.below.size (r2.elim id False.elim)), r3, r4, TRl.mono (fun b hb hk => ⟨hb, hok2 b hk, rfl⟩) _ _ r5⟩
    · by_cases hiS : i ∈ S
      · obtain ⟨k, B, hkm, rfl⟩ := mem_cids.1 hiS
        have hks := lkH_some hkm
        rw [hμn k hks] at hm1
        by_cases hjS : j ∈ S
        · obtain ⟨l, B', hlm, rfl⟩ := mem_cids.1 hjS
          have hls := lkH_some hlm
          rw [hμn l hls] at hm2
          rw [hcr.inj k l b hks hls hm1 hm2]
        · have hj' : (η2 j).isSome := hj
          rw [e2 j hjS, Option.isSome_map] at hj'
          simp only [μ', if_neg hjS] at hm2
          have := hold j b hj' hm2
          have := hge k b hks hm1; omega
      · have hi' : (η2 i).isSome := hi
        rw [e2 i hiS, Option.isSome_map] at hi'
        simp only [μ', if_neg hiS] at hm1
        have h5 := hold i b hi' hm1
        by_cases hjS : j ∈ S
        · obtain ⟨l, B', hlm, rfl⟩ := mem_cids.1 hjS
          have hls := lkH_some hlm
          rw [hμn l hls] at hm2
          have := hge l b hls hm2; omega
        · have hj' : (η2 j).isSome := hj
          rw [e2 j hjS, Option.isSome_map] at hj'
          simp only [μ', if_neg hjS] at hm2
          exact h2.inj i j b hi' hj' hm1 hm2
  refine h4 y μ' w' hHC hk ?_
  -- the arguments as they stand now
  have havs : VRl vs w' μ' (okOf μ' η2) (scrubL S (args.toList.map (evA ρ) ++ caps)) (args.toList.map a.eval ++ caps'.toList) := VRl.mono hk _ _ (scrub_refsL S _) (VRl.scrub _ _ hargs)
  exact resV_VR (S := S) havs hok2 (fun j n hj => hμn j hj) rv hown y hrr
theorem q_call {f : FuncId} {caps : List AV} {args : Array Operand} {tys : Array TypeId} {cx : Operand} {ts : List T} {rv : RV} {hs : List (Nat × Blk)} {d : Nat} (hc : TCall P f ts rv hs) (ho : o.op = .call { callee := .value cx, args := args, argTypes := tys })
    (hd : o.dst = some d) (hcx : evA ρ cx = .fn f caps) (hbox : noBox hs = true) (hown : ownsB hs rv = true) (hts : ToTs F η (args.toList.map (evA ρ) ++ caps) ts) :
    QRun P o F (cids d hs) ρ η (resV d (scrubL (cids d hs) (args.toList.map (evA ρ) ++ caps)) rv) (lkH (cblk d hs)) := q_callf hc ho hd (by rw [hcx]; exact .fn) hbox hown hts
end
end Go.Aw
