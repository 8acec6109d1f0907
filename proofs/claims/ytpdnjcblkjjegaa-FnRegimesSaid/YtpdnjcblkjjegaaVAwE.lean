/- Struct literals that leave fields out. No condition. -/
import Derived.Test.YtpdnjcblkjjegaaVAwC
import Derived.Test.YtpdnjcblkjjegaaVAwB
import Derived.Test.YtpdnjcblkjjegaaVAwD
set_option linter.unusedVariables false
namespace Go.Aw
open Go.RowKit (Below)

theorem fill_any {place : Nat → Option (Nat × Nat)} {n : Nat} (hpl : ∀ i, i < n → place i = some (i, 1)) : ∀ (ps : List (Nat × Value)) (cs : Array Value), cs.size = n → (∀ p ∈ ps, p.1 < n ∧ p.2.oneCell' = true) →
    ∃ cs', Instr.fill place cs ps = some cs' ∧ cs'.toList = ps.foldl (fun l p => l.set p.1 p.2) cs.toList
  | [], cs, _, _ => ⟨cs, rfl, rfl⟩
  | (k, y) :: r, cs, hs, h => by
    obtain ⟨hk, hy1⟩ := h (k, y) (by simp)
    have hy := cells_one hy1
    simp only [Instr.fill]
    rw [hpl k hk]
    obtain ⟨cs', h2, h3⟩ := fill_any hpl r (cs.setIfInBounds k y) (by simp [hs]) (fun p hp => h p (by simp [hp]))
    refine ⟨cs', ?_, ?_⟩
    · rw [hy]
      simp only [List.size_toArray, List.length_cons, List.length_nil]
      rw [if_neg (by simp at hk ⊢; omega)]
      simpa [Array.zipIdx] using h2
    · rw [h3]; simp
theorem q_buildx {P : Program} {ty : Ty} {o : Oper} {F : List Nat} {ρ : Fr} {η : Hp} {t : TypeId} {e : TE} {fs : List (Nat × Nat)} {parts : Array (Nat × Operand)} (hT : TyOk P ty) (ho : o.op = .build t parts)
    (ht : ty.get t = some e) (hd : e.d = .st fs) (hfs : oneFs fs 0 = true) (hp : (parts.toList.all fun p => Nat.blt p.1 fs.length) = true) (hz : Nat.beq e.z.cells.size fs.length = true)
    (hone : (parts.toList.map fun p => evA ρ p.2).all oneA = true) :
    QRun P o F [] ρ η (.agg (parts.toList.foldl (fun l p => l.set p.1 (evA ρ p.2)) (e.z.cells.toList.map zA))) (lkH []) := by
  have hz := Nat.eq_of_beq_eq_true hz
  refine qrun_val fun vs w0 μ η' a w h1 h2 h3 => ?_
  have hops : ∀ p ∈ parts.toList, p.2 ∈ o.op.operands := fun p hp => by
    rw [ho]; simp only [Op.operands, List.mem_toArray, List.mem_map]; exact ⟨p, hp, rfl⟩
  have hx : VRl vs w μ (okOf μ η') (parts.toList.map fun p => evA ρ p.2) (parts.toList.map fun p => a.eval p.2) := by
    refine (VRl_iff ..).2 ⟨by simp, fun i v hv => ?_⟩
    simp only [List.getElem?_map, Option.map_eq_some_iff] at hv
    obtain ⟨p, hp, rfl⟩ := hv
    exact ⟨a.eval p.2, by simp only [List.getElem?_map, hp, Option.map_some], h3 p.2 (hops p (List.mem_of_getElem? hp))⟩
  have hy1 : ∀ y ∈ (parts.toList.map fun p => a.eval p.2), y.oneCell' = true := by
    intro y hy
    simp only [List.mem_map] at hy
    obtain ⟨p, hp, rfl⟩ := hy
    refine oneA_one (h3 p.2 (hops p hp)) ?_
    exact List.all_eq_true.1 hone _ (List.mem_map.2 ⟨p, hp, rfl⟩)
  obtain ⟨fields, hu, hf⟩ := (hT.get ht).strct hd
  have hzv := (hT.get ht).zero (w := w)
  have hplaces : (fields.mapM fun (f : Field) => do pure (f.offset, ← sizeOf f.type)).run P w = .ok fs.toArray w := by
    rw [Array.mapM_eq_mapM_toList]
    have := mapM_run (P := P) (w := w) (fun f : Field => do pure (f.offset, ← sizeOf f.type)) (fun (f : Field) => (f.offset, ((P.info? f.type).map (·.size)).getD 0)) fields.toList (fun f hfm => by
      obtain ⟨i, hi⟩ := List.getElem?_of_mem hfm
      have hfi : fs[i]? = some (f.offset, ((P.info? f.type).map (·.size)).getD 0) := by rw [← hf, List.getElem?_map, hi]; rfl
      have := oneFs_get fs 0 hfs i _ hfi
      cases hinf : P.info? f.type with
      | none => rw [hinf] at this; simp at this
      | some inf => simp [sizeOf, typeInfo, hinf])
    rw [hf] at this
    rw [← bind_pure_comp, Sem.run_bind, this]
    simp
  have hpl : ∀ i, i < fs.length → (fs.toArray[i]?) = some (i, 1) := fun i hi => by
    have h : fs[i]? = some (fs[i]) := List.getElem?_eq_getElem hi
    have := oneFs_get fs 0 hfs i _ h
    simp only [List.getElem?_toArray, h, this, Nat.zero_add]
  have hpn : ∀ p ∈ parts.toList, p.1 < fs.length := fun p hp' => by simpa using List.all_eq_true.1 hp p hp'
  obtain ⟨cs', hfl, hcs⟩ := fill_any (place := fun i => fs.toArray[i]?) hpl (parts.toList.map fun p => (p.1, a.eval p.2)) e.z.cells hz (fun q hq => by
    simp only [List.mem_map] at hq
    obtain ⟨p, hp', rfl⟩ := hq
    exact ⟨hpn p hp', hy1 _ (List.mem_map.2 ⟨p, hp', rfl⟩)⟩)
  refine ⟨.agg cs', w.drawn, ?_, ?_⟩
  · have hpar : (parts.map fun x => (x.1, a.eval x.2)).toList = parts.toList.map fun p => (p.1, a.eval p.2) := by simp
    simp only [execOp, ho, Instr.build, Sem.run_bind, hzv, Result.andThen_ok, run_underlying hu, hplaces, hpar, hfl]
    simp
  · rw [VR]
    refine ⟨cs', rfl, ?_⟩
    rw [hcs]
    have key : ∀ (q : List (Nat × Operand)), (∀ p ∈ q, p ∈ parts.toList) → ∀ (l : List AV) (xs : List Value), VRl vs w μ (okOf μ η') l xs →
        VRl vs w μ (okOf μ η') (q.foldl (fun l p => l.set p.1 (evA ρ p.2)) l) ((q.map fun p => (p.1, a.eval p.2)).foldl (fun l p => l.set p.1 p.2) xs) := by
      intro q
      induction q with
      | nil => intro _ l xs h; exact h
      | cons p r ih =>
        intro hq l xs h
        simp only [List.foldl_cons, List.map_cons]
        exact ih (fun z hz => hq z (by simp [hz])) _ _ (VRl_set h (h3 p.2 (hops p (hq p (by simp)))))
    exact key _ (fun _ h => h) _ _ (zA_VRl _)
end Go.Aw

