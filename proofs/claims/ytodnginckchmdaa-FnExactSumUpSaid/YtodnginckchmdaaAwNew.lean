/- The rules of the operations that make blocks. -/
import Derived.Test.YtodnginckchmdaaAwMem
set_option linter.unusedVariables false
namespace Go.Aw
open Go.RowKit (Below)

def oneT : T → Bool
  | .v x => x.oneCell'
  | .agg _ => false
  | _ => true
def oneA : AV → Bool
  | .t u => oneT u
  | .old u => oneT u
  | .arg _ u => oneT u
  | .argc _ _ u => oneT u
  | .own _ _ _ | .argo _ _ _ _ | .emp | .bp _ _ | .fn _ _ => true
  | _ => false
def cellsA : AV → Option (List AV)
  | .agg l => bif l.all oneA then some l else none
  | .t (.agg l) => bif l.all oneT then some (l.map AV.t) else none
  | v => bif oneA v then some [v] else none

theorem oneT_one {w : World} {ok : Nat → Prop} {t : T} {y : Value} (h : TR w ok t y) (ht : oneT t = true) : y.oneCell' = true := by
  cases t with
  | v x => rw [TR] at h; subst h; exact ht
  | agg l => simp [oneT] at ht
  | fn f l => rw [TR] at h; obtain ⟨_, rfl, _⟩ := h; rfl
  | f k c => rw [TR] at h; obtain ⟨b, rfl, _⟩ := h; rfl
  | fl l => rw [TR] at h; obtain ⟨_, _, _, rfl, _⟩ := h; rfl
  | il l => rw [TR] at h; obtain ⟨_, _, _, rfl, _⟩ := h; rfl
  | bl l => rw [TR] at h; obtain ⟨_, _, _, rfl, _⟩ := h; rfl
  | tl l => rw [TR] at h; obtain ⟨_, _, _, rfl, _⟩ := h; rfl
  | ffl l => rw [TR] at h; obtain ⟨_, _, _, rfl, _⟩ := h; rfl
  | ref l => rw [TR] at h; obtain ⟨_, _, rfl, _⟩ := h; rfl
theorem oneA_one {vs : Env} {w : World} {μ : Nat → Option Nat} {ok : Nat → Prop} {v : AV} {y : Value} (h : VR vs w μ ok v y) (hv : oneA v = true) : y.oneCell' = true := by
  cases v with
  | t u => rw [VR] at h; exact oneT_one h hv
  | old u => rw [VR] at h; exact oneT_one h hv
  | arg i u => rw [VR] at h; exact oneT_one h.2 hv
  | argc i j u => rw [VR] at h; exact oneT_one h.2 hv
  | own i o n => rw [VR] at h; rcases h with ⟨_, _, _, rfl⟩ | ⟨_, _, _, _, _, rfl, _⟩ <;> rfl
  | emp => rw [VR] at h; obtain ⟨_, rfl⟩ := h; rfl
  | argo k i o n => rw [VR] at h; rcases h.2 with ⟨_, _, _, rfl⟩ | ⟨_, _, _, _, _, rfl, _⟩ <;> rfl
  | bp i o => rw [VR] at h; obtain ⟨_, _, rfl⟩ := h; rfl
  | fn f l => rw [VR] at h; obtain ⟨_, rfl, _⟩ := h; rfl
  | _ => simp [oneA] at hv
theorem cells_one {y : Value} (h : y.oneCell' = true) : y.cells = #[y] := by cases y <;> simp [Value.oneCell', Value.cells] at h ⊢

theorem cellsA_VR {vs : Env} {w : World} {μ : Nat → Option Nat} {ok : Nat → Prop} {v : AV} {l : List AV} {y : Value} (hl : cellsA v = some l) (h : VR vs w μ ok v y) :
    VRl vs w μ ok l y.cells.toList ∧ ∀ z ∈ y.cells.toList, z.oneCell' = true := by
  have single : oneA v = true → l = [v] → VRl vs w μ ok l y.cells.toList ∧ ∀ z ∈ y.cells.toList, z.oneCell' = true := fun h1 h2 => by
    have ho := oneA_one h h1
    rw [cells_one ho, h2]
    refine ⟨?_, by simpa using ho⟩
    rw [VRl]; exact ⟨y, [], rfl, h, by rw [VRl]⟩
  have many : ∀ (l' : List AV) (xs : Array Value), y = .agg xs → VRl vs w μ ok l' xs.toList → (∀ u ∈ l', oneA u = true) → l' = l → VRl vs w μ ok l y.cells.toList ∧ ∀ z ∈ y.cells.toList, z.oneCell' = true := fun l' xs hy hx h1 h2 => by
    subst hy; subst h2
    refine ⟨hx, fun z hz => ?_⟩
    obtain ⟨hlen, hx⟩ := (VRl_iff ..).1 hx
    obtain ⟨i, hi, hz⟩ := List.getElem_of_mem hz
    simp only [Value.cells] at hi hz
    have hi' : i < l'.length := by rw [hlen]; exact hi
    obtain ⟨z', hz', hr⟩ := hx i l'[i] (by simp [hi'])
    rw [List.getElem?_eq_getElem hi] at hz'; cases hz'
    rw [hz] at hr
    exact oneA_one hr (h1 _ (List.getElem_mem hi'))
  cases v with
  | agg l' =>
    simp only [cellsA] at hl
    cases ha : l'.all oneA with
    | false => simp [ha] at hl
    | true =>
      simp only [ha, cond_true, Option.some.injEq] at hl
      rw [VR] at h
      obtain ⟨xs, hy, hx⟩ := h
      exact many l' xs hy hx (by simpa using ha) hl
  | t u =>
    cases u with
    | agg l' =>
      simp only [cellsA] at hl
      cases ha : l'.all oneT with
      | false => simp [ha] at hl
      | true =>
        simp only [ha, cond_true, Option.some.injEq] at hl
        rw [VR, TR] at h
        obtain ⟨xs, hy, hx⟩ := h
        refine many (l'.map AV.t) xs hy ?_ (by simpa [oneA] using ha) hl
        obtain ⟨hlen, hx⟩ := (TRl_iff ..).1 hx
        refine (VRl_iff ..).2 ⟨by simpa using hlen, fun i u hu => ?_⟩
        simp only [List.getElem?_map, Option.map_eq_some_iff] at hu
        obtain ⟨t0, ht0, rfl⟩ := hu
        obtain ⟨z, hz, hr⟩ := hx i t0 ht0
        exact ⟨z, hz, by rw [VR]; exact hr⟩
    | v x => simp only [cellsA] at hl; cases h1 : oneA (.t (.v x)) <;> simp only [h1, cond_true, cond_false, Option.some.injEq, reduceCtorEq] at hl; exact single h1 hl.symm
    | f k c => simp only [cellsA] at hl; cases h1 : oneA (.t (.f k c)) <;> simp only [h1, cond_true, cond_false, Option.some.injEq, reduceCtorEq] at hl; exact single h1 hl.symm
    | fl c => simp only [cellsA] at hl; cases h1 : oneA (.t (.fl c)) <;> simp only [h1, cond_true, cond_false, Option.some.injEq, reduceCtorEq] at hl; exact single h1 hl.symm
    | il c => simp only [cellsA] at hl; cases h1 : oneA (.t (.il c)) <;> simp only [h1, cond_true, cond_false, Option.some.injEq, reduceCtorEq] at hl; exact single h1 hl.symm
    | bl c => simp only [cellsA] at hl; cases h1 : oneA (.t (.bl c)) <;> simp only [h1, cond_true, cond_false, Option.some.injEq, reduceCtorEq] at hl; exact single h1 hl.symm
    | ffl c => simp only [cellsA] at hl; cases h1 : oneA (.t (.ffl c)) <;> simp only [h1, cond_true, cond_false, Option.some.injEq, reduceCtorEq] at hl; exact single h1 hl.symm
    | tl c => simp only [cellsA] at hl; cases h1 : oneA (.t (.tl c)) <;> simp only [h1, cond_true, cond_false, Option.some.injEq, reduceCtorEq] at hl; exact single h1 hl.symm
    | ref c => simp only [cellsA] at hl; cases h1 : oneA (.t (.ref c)) <;> simp only [h1, cond_true, cond_false, Option.some.injEq, reduceCtorEq] at hl; exact single h1 hl.symm
    | fn g c => simp only [cellsA] at hl; cases h1 : oneA (.t (.fn g c)) <;> simp only [h1, cond_true, cond_false, Option.some.injEq, reduceCtorEq] at hl; exact single h1 hl.symm
  | old u => simp only [cellsA] at hl; cases h1 : oneA (.old u) <;> simp only [h1, cond_true, cond_false, Option.some.injEq, reduceCtorEq] at hl; exact single h1 hl.symm
  | arg i u => simp only [cellsA] at hl; cases h1 : oneA (.arg i u) <;> simp only [h1, cond_true, cond_false, Option.some.injEq, reduceCtorEq] at hl; exact single h1 hl.symm
  | argc i j u => simp only [cellsA] at hl; cases h1 : oneA (.argc i j u) <;> simp only [h1, cond_true, cond_false, Option.some.injEq, reduceCtorEq] at hl; exact single h1 hl.symm
  | emp => simp only [cellsA] at hl; cases h1 : oneA .emp <;> simp only [h1, cond_true, cond_false, Option.some.injEq, reduceCtorEq] at hl; exact single h1 hl.symm
  | argo k i j u => simp only [cellsA] at hl; cases h1 : oneA (.argo k i j u) <;> simp only [h1, cond_true, cond_false, Option.some.injEq, reduceCtorEq] at hl; exact single h1 hl.symm
  | own i j u => simp only [cellsA] at hl; cases h1 : oneA (.own i j u) <;> simp only [h1, cond_true, cond_false, Option.some.injEq, reduceCtorEq] at hl; exact single h1 hl.symm
  | bp i j => simp only [cellsA] at hl; cases h1 : oneA (.bp i j) <;> simp only [h1, cond_true, cond_false, Option.some.injEq, reduceCtorEq] at hl; exact single h1 hl.symm
  | fn i j => simp only [cellsA] at hl; cases h1 : oneA (.fn i j) <;> simp only [h1, cond_true, cond_false, Option.some.injEq, reduceCtorEq] at hl; exact single h1 hl.symm
  | tup j => simp [cellsA, oneA] at hl
  | dead j => simp [cellsA, oneA] at hl
  | junk => simp [cellsA, oneA] at hl

theorem refs_ids : ∀ (v : AV), ∀ i ∈ v.refs, i ∈ v.ids
  | .own _ _ _ => by simp [AV.refs, AV.ids]
  | .argo _ _ _ _ => by simp [AV.refs, AV.ids]
  | .bp _ _ => by simp [AV.refs, AV.ids]
  | .agg l => by
    simp only [AV.refs, AV.ids]
    exact go l
  | .tup l => by
    simp only [AV.refs, AV.ids]
    exact go l
  | .fn _ l => by
    simp only [AV.refs, AV.ids]
    exact go l
  | .t _ | .old _ | .arg _ _ | .argc _ _ _ | .emp | .dead _ | .junk => by simp [AV.refs]
where
  go : ∀ (l : List AV), ∀ i ∈ refsL l, i ∈ idsL l
  | [] => by simp [refsL]
  | v :: r => by
    intro i hi
    simp only [refsL, idsL, List.mem_append] at hi ⊢
    exact hi.imp (refs_ids v i) (go r i)

section
variable {P : Program} {o : Oper} {F : List Nat} {ρ : Fr} {η : Hp} {ty : Ty}

/-- a row of cells made anew -/
theorem qrun_new {v : AV} {i : Nat} {B : Blk} (h : ∀ (vs : Env) (w0 : World) (μ : Nat → Option Nat) (η' : Hp) (a : Act) (w : World), (∀ i ∈ F, η' i = η i) → HC vs w0 μ η' w →
      (∀ x ∈ o.op.operands, VR vs w μ (okOf μ η') (evA ρ x) (a.eval x)) → ∃ y cs e, (execOp a.eval o).run P w = .ok (.value y) (w.alloc (.cells cs e)) ∧
      (∀ w' μ' ok', Keeps w w' μ μ' (okOf μ η') ok' (· ∈ [i]) → μ' i = some w.heap.size → w'.heap[w.heap.size]? = some (.cells cs e (0, 0)) → BlkR vs w0.heap.size w' μ' ok' i B ∧ VR vs w' μ' ok' v y)) :
    QRun P o F [i] ρ η v (lkH [(i, B)]) := by
  intro vs w0 μ η' a w Q K h1 h2 h3 h4
  obtain ⟨y, cs, e, hr, hv⟩ := h vs w0 μ η' a w h1 h2 h3
  have hbel : Below w.heap.size w (w.alloc (.cells cs e)) := (Below.refl _ _).alloc (Nat.le_refl _) _
  have hnew : (w.alloc (.cells cs e)).heap[w.heap.size]? = some (.cells cs e (0, 0)) := heap_alloc_new w _
  have hμ : updM μ i (some w.heap.size) i = some w.heap.size := by simp [updM]
  obtain ⟨hc, hk⟩ := HC_new (i := i) (B := B) h2 hbel (Nat.le_refl _) fun hk => (hv _ _ _ hk hμ hnew).1
  unfold Oper.wp
  rw [hr, Oper.upon_value]
  exact h4 y _ _ hc hk (hv _ _ _ hk hμ hnew).2

theorem size_shape {w : World} {b : Nat} {cs : Array Value} {e : TypeId} {fz : Nat × Nat} (h : w.heap[b]? = some (.cells cs e fz)) : w.shape? b = some (e, cs.size) := by simp [World.shape?, h]

theorem q_box {t : TypeId} {x : Operand} {d : Nat} {l : List AV} (ho : o.op = .box t x) (hd : o.dst = some d) (hl : cellsA (evA ρ x) = some l) (hi : (idsL l).contains d = false) :
    QRun P o F [d] ρ η (.bp d 0) (lkH [(d, .box t l)]) := by
  refine qrun_new fun vs w0 μ η' a w h1 h2 h3 => ?_
  obtain ⟨hc, _⟩ := cellsA_VR hl (h3 x (by simp [ho, Op.operands]))
  refine ⟨.pointer (some ⟨w.heap.size, 0, none⟩), (a.eval x).cells, t, by simp [execOp, ho, Instr.box, newVar, newRow], fun w' μ' ok' hk hμ hw => ⟨?_, by rw [VR]; exact ⟨_, hμ, rfl⟩⟩⟩
  have hsz : w0.heap.size ≤ w.heap.size ∨ vs.loan w.heap.size := .inl h2.below.size
  refine ⟨_, _, hμ, hsz, hw, VRl.mono hk _ _ (fun j hj hm => ?_) hc⟩
  have : j = d := by simpa using hm
  subst this
  have := refs_ids.go l j hj
  simp at hi; exact hi this

/-- a zero cell -/
def zA : Value → AV
  | .float k b => bif okConst k b then .t (.f k b) else .junk
  | v => .t (.v v)
theorem zA_VR {vs : Env} {w : World} {μ : Nat → Option Nat} {ok : Nat → Prop} (y : Value) : VR vs w μ ok (zA y) y := by
  cases y with
  | float k b =>
    simp only [zA]
    cases hb : okConst k b with
    | false => simp only [cond_false]; rw [VR]; trivial
    | true =>
      simp only [cond_true]
      rw [VR, TR]
      simp only [okConst, Bool.and_eq_true, Bool.not_eq_true'] at hb
      exact ⟨b, rfl, by simp [canon, hb.1], by simpa using hb.2⟩
  | _ => simp only [zA]; rw [VR, TR]
theorem zA_VRl {vs : Env} {w : World} {μ : Nat → Option Nat} {ok : Nat → Prop} (l : List Value) : VRl vs w μ ok (l.map zA) l := by
  refine (VRl_iff ..).2 ⟨by simp, fun i v hv => ?_⟩
  simp only [List.getElem?_map, Option.map_eq_some_iff] at hv
  obtain ⟨y, hy, rfl⟩ := hv
  exact ⟨y, hy, zA_VR y⟩

theorem q_alloc {t : TypeId} {e : TE} {d : Nat} (hT : TyOk P ty) (ho : o.op = .alloc t) (hd : o.dst = some d) (ht : ty.get t = some e) :
    QRun P o F [d] ρ η (.bp d 0) (lkH [(d, .box t (e.z.cells.toList.map zA))]) := by
  refine qrun_new fun vs w0 μ η' a w h1 h2 h3 => ?_
  have hz := (hT.get ht).zero (w := w)
  refine ⟨.pointer (some ⟨w.heap.size, 0, none⟩), e.z.cells, t, by simp [execOp, ho, Instr.alloc, hz, newVar, newRow], fun w' μ' ok' hk hμ hw => ⟨?_, by rw [VR]; exact ⟨_, hμ, rfl⟩⟩⟩
  exact ⟨_, _, hμ, .inl h2.below.size, hw, zA_VRl _⟩

end
end Go.Aw
