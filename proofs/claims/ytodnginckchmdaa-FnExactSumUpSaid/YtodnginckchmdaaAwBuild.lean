/- Struct literals. -/
import Derived.Test.YtodnginckchmdaaAwStep
set_option linter.unusedVariables false
namespace Go.Aw
open Go.RowKit (Below)

theorem mapM_run {α β : Type} {P : Program} {w : World} (g : α → Sem β) (r : α → β) : ∀ l : List α, (∀ a ∈ l, (g a).run P w = .ok (r a) w) → (l.mapM g).run P w = .ok (l.map r) w
  | [], _ => by simp
  | a :: l, h => by
    have h1 := h a (by simp)
    have h2 := mapM_run (P := P) (w := w) g r l (fun b hb => h b (by simp [hb]))
    rw [List.mapM_cons]
    simp [h1, h2]

theorem fill_seq {place : Nat → Option (Nat × Nat)} {n : Nat} (hpl : ∀ i, i < n → place i = some (i, 1)) (ys : List Value) (h1 : ∀ y ∈ ys, y.oneCell' = true) : ∀ (k : Nat) (cs : Array Value), cs.size = n → k + ys.length ≤ n →
    ∃ cs', Instr.fill place cs ((ys.zipIdx k).map fun p => (p.2, p.1)) = some cs' ∧ cs'.toList = cs.toList.take k ++ ys ++ cs.toList.drop (k + ys.length) := by
  induction ys with
  | nil => intro k cs hs hk; exact ⟨cs, rfl, by simp⟩
  | cons y r ih =>
    intro k cs hs hk
    have hy := cells_one (h1 y (by simp))
    simp only [List.zipIdx_cons, List.map_cons, Instr.fill]
    have hlt : k < cs.size := by simp at hk; omega
    rw [hpl k (by omega)]
    obtain ⟨cs', h2, h3⟩ := ih (fun z hz => h1 z (by simp [hz])) (k + 1) (cs.setIfInBounds k y) (by simp [hs]) (by simp at hk ⊢; omega)
    refine ⟨cs', ?_, ?_⟩
    · rw [hy]
      simp only [List.size_toArray, List.length_cons, List.length_nil]
      rw [if_neg (by simp; omega)]
      simpa [Array.zipIdx] using h2
    · rw [h3]
      simp only [Array.toList_setIfInBounds, List.take_set]
      rw [List.take_succ_eq_append_getElem (by simpa using hlt)]
      rw [List.set_append_right _ _ (by simp; omega)]
      have : k - (List.take k cs.toList).length = 0 := by simp; omega
      rw [this]
      have hd : (cs.toList.set k y).drop (k + 1 + r.length) = cs.toList.drop (k + 1 + r.length) := by
        rw [List.drop_set_of_lt (by omega)]
      rw [hd]
      simp [Nat.add_assoc, Nat.add_comm 1]

theorem VRl_app {vs : Env} {w : World} {μ : Nat → Option Nat} {ok : Nat → Prop} {l l' : List AV} {xs xs' : List Value} (h : VRl vs w μ ok l xs) (h' : VRl vs w μ ok l' xs') : VRl vs w μ ok (l ++ l') (xs ++ xs') := by
  obtain ⟨h1, h2⟩ := (VRl_iff ..).1 h
  obtain ⟨h1', h2'⟩ := (VRl_iff ..).1 h'
  refine (VRl_iff ..).2 ⟨by simp [h1, h1'], fun i v hv => ?_⟩
  by_cases hi : i < l.length
  · rw [List.getElem?_append_left hi] at hv
    rw [List.getElem?_append_left (by omega)]
    exact h2 i v hv
  · rw [List.getElem?_append_right (by omega)] at hv
    rw [List.getElem?_append_right (by omega), ← h1]
    exact h2' _ v hv
theorem VRl_drop {vs : Env} {w : World} {μ : Nat → Option Nat} {ok : Nat → Prop} {l : List AV} {xs : List Value} (h : VRl vs w μ ok l xs) (n : Nat) : VRl vs w μ ok (l.drop n) (xs.drop n) := by
  obtain ⟨h1, h2⟩ := (VRl_iff ..).1 h
  refine (VRl_iff ..).2 ⟨by simp [h1], fun i v hv => ?_⟩
  rw [List.getElem?_drop] at hv ⊢
  exact h2 _ v hv

def oneFs : List (Nat × Nat) → Nat → Bool
  | [], _ => true
  | (o, s) :: r, k => Nat.beq o k && Nat.beq s 1 && oneFs r (k + 1)
theorem oneFs_get : ∀ (l : List (Nat × Nat)) (k : Nat), oneFs l k = true → ∀ i p, l[i]? = some p → p = (k + i, 1)
  | [], _, _, i, p, h => by simp at h
  | (o, s) :: r, k, h, i, p, hp => by
    simp only [oneFs, Bool.and_eq_true] at h
    have e1 := Nat.eq_of_beq_eq_true h.1.1
    have e2 := Nat.eq_of_beq_eq_true h.1.2
    cases i with
    | zero => simp at hp; subst hp; rw [e1, e2]; rfl
    | succ i =>
      have := oneFs_get r (k + 1) h.2 i p (by simpa using hp)
      rw [this]; simp; omega

theorem q_build {P : Program} {ty : Ty} {o : Oper} {F : List Nat} {ρ : Fr} {η : Hp} {t : TypeId} {e : TE} {fs : List (Nat × Nat)} {parts : Array (Nat × Operand)} (hT : TyOk P ty) (ho : o.op = .build t parts)
    (ht : ty.get t = some e) (hd : e.d = .st fs) (hfs : oneFs fs 0 = true) (hp : seqParts 0 parts.toList = true) (hle : Nat.ble parts.size fs.length = true) (hz : Nat.beq e.z.cells.size fs.length = true)
    (hone : (parts.toList.map fun p => evA ρ p.2).all oneA = true) :
    QRun P o F [] ρ η (.agg ((parts.toList.map fun p => evA ρ p.2) ++ (e.z.cells.toList.map zA).drop parts.size)) (lkH []) := by
  have hle := Nat.le_of_ble_eq_true hle
  have hz := Nat.eq_of_beq_eq_true hz
  refine qrun_val fun vs w0 μ η' a w h1 h2 h3 => ?_
  have hops : ∀ p ∈ parts.toList, p.2 ∈ o.op.operands := fun p hp => by
    rw [ho]; simp only [Op.operands, List.mem_toArray, List.mem_map]; exact ⟨p, hp, rfl⟩
  have hx : VRl vs w μ (okOf μ η') (parts.toList.map fun p => evA ρ p.2) (parts.toList.map fun p => a.eval p.2) := by
    refine (VRl_iff ..).2 ⟨by simp, fun i v hv => ?_⟩
    simp only [List.getElem?_map, Option.map_eq_some_iff] at hv
    obtain ⟨p, hp, rfl⟩ := hv
    exact ⟨a.eval p.2, by simp only [List.getElem?_map, hp, Option.map_some], h3 p.2 (hops p (List.mem_of_getElem? hp))⟩
  have hy1 : ∀ y ∈ (parts.toList.map fun p => a.eval p.2), y.oneCell' = true := by
    intro y hy
    simp only [List.mem_map] at hy
    obtain ⟨p, hp, rfl⟩ := hy
    refine oneA_one (h3 p.2 (hops p hp)) ?_
    exact List.all_eq_true.1 hone _ (List.mem_map.2 ⟨p, hp, rfl⟩)
  obtain ⟨fields, hu, hf⟩ := (hT.get ht).strct hd
  have hzv := (hT.get ht).zero (w := w)
  have hzip : ∀ (k : Nat) (l : List (Nat × Operand)), seqParts k l = true → (l.map fun p => (p.1, a.eval p.2)) = ((l.map fun p => a.eval p.2).zipIdx k).map fun p => (p.2, p.1) := by
    intro k l
    induction l generalizing k with
    | nil => simp
    | cons p r ih =>
      obtain ⟨i, x⟩ := p
      intro h
      simp only [seqParts, Bool.and_eq_true] at h
      have := Nat.eq_of_beq_eq_true h.1
      subst this
      simp [List.zipIdx_cons, ih _ h.2]
  have hplaces : (fields.mapM fun (f : Field) => do pure (f.offset, ← sizeOf f.type)).run P w = .ok fs.toArray w := by
    rw [Array.mapM_eq_mapM_toList]
    have := mapM_run (P := P) (w := w) (fun f : Field => do pure (f.offset, ← sizeOf f.type)) (fun (f : Field) => (f.offset, ((P.info? f.type).map (·.size)).getD 0)) fields.toList (fun f hfm => by
      obtain ⟨i, hi⟩ := List.getElem?_of_mem hfm
      have hfi : fs[i]? = some (f.offset, ((P.info? f.type).map (·.size)).getD 0) := by rw [← hf, List.getElem?_map, hi]; rfl
      have := oneFs_get fs 0 hfs i _ hfi
      cases hinf : P.info? f.type with
      | none => rw [hinf] at this; simp at this
      | some inf => simp [sizeOf, typeInfo, hinf])
    rw [hf] at this
    rw [← bind_pure_comp, Sem.run_bind, this]
    simp
  have hpl : ∀ i, i < fs.length → (fs.toArray[i]?) = some (i, 1) := fun i hi => by
    have h : fs[i]? = some (fs[i]) := List.getElem?_eq_getElem hi
    have := oneFs_get fs 0 hfs i _ h
    simp only [List.getElem?_toArray, h, this, Nat.zero_add]
  obtain ⟨cs', hfl, hcs⟩ := fill_seq (place := fun i => fs.toArray[i]?) hpl (parts.toList.map fun p => a.eval p.2) hy1 0 e.z.cells hz (by simp; exact hle)
  rw [← hzip 0 _ hp] at hfl
  refine ⟨.agg cs', w.drawn, ?_, ?_⟩
  · have hpar : (parts.map fun x => (x.1, a.eval x.2)).toList = parts.toList.map fun p => (p.1, a.eval p.2) := by simp
    simp only [execOp, ho, Instr.build, Sem.run_bind, hzv, Result.andThen_ok, run_underlying hu, hplaces, hpar, hfl]
    simp
  · rw [VR]
    refine ⟨cs', rfl, ?_⟩
    rw [hcs]
    simp only [List.take_zero, List.nil_append, Nat.zero_add, List.length_map]
    exact VRl_app hx (VRl_drop (zA_VRl _) _)
end Go.Aw
