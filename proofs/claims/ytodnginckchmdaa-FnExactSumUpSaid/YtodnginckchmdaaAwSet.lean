/- Stores and appends. -/
import Derived.Test.YtodnginckchmdaaAwNew2
set_option linter.unusedVariables false
namespace Go.Aw
open Go.RowKit (Below)

/-- a block of the symbolic heap is written in place -/
theorem HC_mod {vs : Env} {w0 w w' : World} {μ : Nat → Option Nat} {η : Hp} {i b : Nat} {B0 B : Blk} {S : List Nat} (hc : HC vs w0 μ η w) (hS : ∀ j ∈ S, j = i) (hi : η i = some B0) (hb : μ i = some b)
    (hos : w'.os = w.os) (htape : w'.tape = w.tape) (hout : w'.output = w.output) (hsz : w'.heap.size = w.heap.size)
    (hoth : ∀ c, c ≠ b → w'.heap[c]? = w.heap[c]?) (hsh : w'.shape? b = w.shape? b)
    (hB : Keeps w w' μ μ (okOf μ η) (okOf μ (hpS S (lkH [(i, B)]) η)) (· ∈ S) → BlkR vs w0.heap.size w' μ (okOf μ (hpS S (lkH [(i, B)]) η)) i B) :
    HC vs w0 μ (hpS S (lkH [(i, B)]) η) w' ∧ Keeps w w' μ μ (okOf μ η) (okOf μ (hpS S (lkH [(i, B)]) η)) (· ∈ S) := by
  have e1 : hpS S (lkH [(i, B)]) η i = some B := by simp [hpS, lkH]
  have e2 : ∀ j, j ≠ i → hpS S (lkH [(i, B)]) η j = (η j).map (scrubB S) := fun j hj => by
    have hb : Nat.beq j i = false := by
      cases h : Nat.beq j i with
      | true => exact absurd (Nat.eq_of_beq_eq_true h) hj
      | false => rfl
    have hjS : j ∉ S := fun h => hj (hS j h)
    simp [hpS, lkH, hb, hjS]
  have hdom : ∀ j, (hpS S (lkH [(i, B)]) η j).isSome ↔ (η j).isSome := fun j => by
    by_cases hj : j = i
    · subst hj; rw [e1, hi]; simp
    · rw [e2 j hj, Option.isSome_map]
  have hbase : w0.heap.size ≤ b ∨ vs.loan b := (blk_lt (hc.blk i B0 hi) hb).1
  have hk : Keeps w w' μ μ (okOf μ η) (okOf μ (hpS S (lkH [(i, B)]) η)) (· ∈ S) := by
    refine ⟨fun c hc' hok => ⟨by omega, fun j hj => hok j ((hdom j).1 hj), hoth c fun h => ?_⟩, fun j _ => rfl, fun j c _ hm s hs => ?_⟩
    · subst h; exact hok i (by rw [hi]; rfl) hb
    · by_cases hcb : c = b
      · subst hcb; rw [hsh]; exact hs
      · rw [← hs]; exact shape?_of_block (hoth c hcb)
  refine ⟨HC_step hc hk ⟨hos.trans hc.below.os, htape.trans hc.below.tape, hout.trans hc.below.output, by have := hc.below.size; omega, fun c hc' hl => (hoth c (fun e => by subst e; rcases hbase with h | h; omega; exact hl h)).trans (hc.below.block c hc' hl),
      fun c s hs => by
        have h1 := hc.below.shape c s hs
        by_cases hcb : c = b
        · subst hcb; rw [hsh]; exact h1
        · rw [← h1]; exact shape?_of_block (hoth c hcb)⟩
    (fun j B' hj hjS hch c hm => hoth c fun h => ?_) (fun j B' hj => ?_) (fun j l c hj hl h1 h2 => hc.inj j l c ((hdom j).1 hj) ((hdom l).1 hl) h1 h2), hk⟩
  · subst h
    have : j = i := hc.inj j i c (by rw [hj]; rfl) (by rw [hi]; rfl) hm hb
    subst this; simp [lkH] at hch
  · have := lkH_mem hj
    simp at this; obtain ⟨rfl, rfl⟩ := this
    exact hB hk

theorem setCell_block {w : World} {b i : Nat} {cs : Array Value} {e : TypeId} {fz : Nat × Nat} (h : w.heap[b]? = some (.cells cs e fz)) (v : Value) :
    (w.setCell ⟨b, i, none⟩ v).heap[b]? = some (.cells (cs.setIfInBounds i v) e fz) := by
  simp [World.setCell, Array.getElem?_modify, h]
theorem setCell_other {w : World} {b i c : Nat} (hc : c ≠ b) (v : Value) : (w.setCell ⟨b, i, none⟩ v).heap[c]? = w.heap[c]? := by
  simp only [World.setCell, Array.getElem?_modify]
  rw [if_neg (fun h => hc h.symm)]

/-- one element of a content written -/
def T.put (i : Nat) : T → T → Option T
  | .f .f32 c, .fl l => some (.fl (l.set i c))
  | .v (.int .i64 n), .il l => some (.il (l.set i n))
  | .v (.bool b), .bl l => some (.bl (l.set i b))
  | .fl r, .ffl l => some (.ffl (l.set i r))
  | _, _ => none
theorem T.put_spec {i : Nat} {u c c' : T} (h : T.put i u c = some c') : c'.isSl = true ∧ c'.len = c.len ∧ c'.elems = c.elems.set i u ∧ oneT u = true := by
  unfold T.put at h
  split at h <;> simp only [Option.some.injEq, reduceCtorEq] at h <;> subst h <;> refine ⟨rfl, by simp [T.len], by simp [T.elems, List.map_set], rfl⟩

theorem TRl_set {w : World} {ok : Nat → Prop} {l : List T} {xs : List Value} {i : Nat} {u : T} {y : Value} (h : TRl w ok l xs) (hu : TR w ok u y) : TRl w ok (l.set i u) (xs.set i y) := by
  obtain ⟨h1, h2⟩ := (TRl_iff ..).1 h
  refine (TRl_iff ..).2 ⟨by simpa using h1, fun j t ht => ?_⟩
  rw [List.getElem?_set] at ht ⊢
  by_cases hij : i = j
  · subst hij
    simp only [if_true] at ht ⊢
    split at ht
    · rename_i hlt; cases ht; exact ⟨y, by rw [if_pos (by omega)], hu⟩
    · cases ht
  · rw [if_neg hij] at ht ⊢
    exact h2 j t ht

theorem VRl_set {vs : Env} {w : World} {μ : Nat → Option Nat} {ok : Nat → Prop} {l : List AV} {xs : List Value} {i : Nat} {u : AV} {y : Value} (h : VRl vs w μ ok l xs) (hu : VR vs w μ ok u y) : VRl vs w μ ok (l.set i u) (xs.set i y) := by
  obtain ⟨h1, h2⟩ := (VRl_iff ..).1 h
  refine (VRl_iff ..).2 ⟨by simpa using h1, fun j t ht => ?_⟩
  rw [List.getElem?_set] at ht ⊢
  by_cases hij : i = j
  · subst hij
    simp only [if_true] at ht ⊢
    split at ht
    · rename_i hlt; cases ht; exact ⟨y, by rw [if_pos (by omega)], hu⟩
    · cases ht
  · rw [if_neg hij] at ht ⊢
    exact h2 j t ht

section
variable {P : Program} {o : Oper} {F : List Nat} {ρ : Fr} {η : Hp} {ty : Ty}

theorem storeVar_one {t : TypeId} {e : TE} {w : World} {b off : Nat} {cs : Array Value} {e0 : TypeId} {y : Value} (h : TyR P t e) (hs : e.size = 1) (hy : y.oneCell' = true)
    (hb : w.heap[b]? = some (.cells cs e0 (0, 0))) (hlt : off < cs.size) : (storeVar t ⟨b, off, none⟩ y).run P w = .ok () (w.setCell ⟨b, off, none⟩ y) := by
  have hc : w.cell? ⟨b, off, none⟩ = some cs[off] := by rw [cell_of_block hb]; simp [hlt]
  have hf : w.frozen? ⟨b, off, none⟩ = false := by simp [World.frozen?, hb]
  have hst := run_store P w ⟨b, off, none⟩ y .plain hy
  rw [hc] at hst
  simp only [hf, Bool.false_eq_true, if_false] at hst
  have ha : (⟨b, off, none⟩ : Addr).add 0 = ⟨b, off, none⟩ := rfl
  have hz := h.sizeOf (w := w)
  rw [hs] at hz
  simp [storeVar, cells_one hy, hz, storeCells, ha, hst]

def scal : T → Bool
  | .f _ _ => true
  | .v _ => true
  | _ => false

/-- a store into an element of a slice of the call's own -/
theorem q_store_el {t : TypeId} {e : TE} {e0 : TypeId} {c c' : T} {u : T} {x y : Operand} {id off : Nat} {dd : Bool} (hT : TyOk P ty) (ho : o.op = .store t x y) (ht : ty.get t = some e) (hs : e.size = 1)
    (hx : evA ρ x = .bp id off) (hη : η id = some (.sl e0 c)) (hF : F.contains id = true) (hlt : off < c.len) (hy : (evA ρ y).tr = some (dd, u)) (hu : scal u = true) (hc : T.put off u c = some c') :
    QRun P o F [] ρ η .junk (lkH [(id, .sl e0 c')]) := by
  intro vs w0 μ η' a w Q K h1 h2 h3 h4
  have hx' := h3 x (by simp [ho, Op.operands])
  have hy' := VR_tree (h3 y (by simp [ho, Op.operands])) hy
  rw [hx, VR] at hx'
  obtain ⟨b, hμ, hv⟩ := hx'
  have hη' : η' id = some (.sl e0 c) := (h1 id (by simpa using hF)).trans hη
  have hB := h2.blk id _ hη'
  obtain ⟨hsl, hB⟩ := hB
  obtain ⟨p1, p2, p3, p4⟩ := T.put_spec hc
  rcases hB with ⟨hn, _⟩ | ⟨b', cs, hb', hbase, hw, hlen, hcs⟩
  · rw [hn] at hμ; cases hμ
  · rw [hb'] at hμ; cases hμ
    have hone := oneT_one hy' p4
    have hr := storeVar_one (P := P) (hT.get ht) hs hone hw (by omega : off < cs.size)
    have hw' := setCell_block (i := off) hw (a.eval y)
    have hyF : ∀ ok, TR w ok u (a.eval y) := fun ok => by
      cases u <;> simp only [scal, Bool.false_eq_true] at hu <;> rw [TR] at * <;> exact hy'
    obtain ⟨hc', hk⟩ := HC_mod (i := id) (b := b) (B := .sl e0 c') (S := []) (w' := w.setCell ⟨b, off, none⟩ (a.eval y)) h2 (by simp) hη' hb' rfl rfl rfl (by simp) (fun c hc => setCell_other hc _)
      (by rw [size_shape hw', size_shape hw]; simp) fun hk => by
        refine ⟨p1, .inr ⟨b, _, hb', hbase, hw', by rw [p2]; simpa using hlen, ?_⟩⟩
        rw [p3, p2]
        have : ((cs.setIfInBounds off (a.eval y)).toList.take c.len) = (cs.toList.take c.len).set off (a.eval y) := by rw [Array.toList_setIfInBounds, List.take_set]
        rw [this]
        exact TRl_set (TRl.mono hk.treeF _ _ hcs) (by
          have := hyF (okF vs (okOf μ η'))
          exact TR.mono hk.treeF _ _ this)
    unfold Oper.wp
    have : (execOp a.eval o).run P w = .ok .skip (w.setCell ⟨b, off, none⟩ (a.eval y)) := by simp [execOp, ho, hv, Instr.storeAt, Instr.sureAddr, hr]
    rw [this, Oper.upon_skip]
    exact h4 _ _ _ hc' hk (by rw [VR]; trivial)

/-- a store into one cell of a variable -/
theorem q_store_box {t : TypeId} {e : TE} {e0 : TypeId} {l : List AV} {x y : Operand} {id off : Nat} {v : AV} (hT : TyOk P ty) (ho : o.op = .store t x y) (ht : ty.get t = some e) (hs : e.size = 1)
    (hx : evA ρ x = .bp id off) (hη : η id = some (.box e0 l)) (hF : F.contains id = true) (hlt : Nat.blt off l.length = true) (hy : evA ρ y = v) (hv1 : oneA v = true) :
    QRun P o F [] ρ η .junk (lkH [(id, .box e0 (l.set off v))]) := by
  intro vs w0 μ η' a w Q K h1 h2 h3 h4
  have hx' := h3 x (by simp [ho, Op.operands])
  have hy' := h3 y (by simp [ho, Op.operands])
  rw [hy] at hy'
  rw [hx, VR] at hx'
  obtain ⟨b, hμ, hv⟩ := hx'
  have hlt : off < l.length := by simpa using hlt
  have hη' : η' id = some (.box e0 l) := (h1 id (by simpa using hF)).trans hη
  have hB := h2.blk id _ hη'
  obtain ⟨b', cs, hb', hbase, hw, hcs⟩ := hB
  rw [hb'] at hμ; cases hμ
  have hone := oneA_one hy' hv1
  have hlen := ((VRl_iff ..).1 hcs).1
  have hr := storeVar_one (P := P) (hT.get ht) hs hone hw (by simp at hlen; omega : off < cs.size)
  have hw' := setCell_block (i := off) hw (a.eval y)
  obtain ⟨hc', hk⟩ := HC_mod (i := id) (b := b) (B := .box e0 (l.set off v)) (S := []) (w' := w.setCell ⟨b, off, none⟩ (a.eval y)) h2 (by simp) hη' hb' rfl rfl rfl (by simp) (fun c hc => setCell_other hc _)
    (by rw [size_shape hw', size_shape hw]; simp) fun hk => by
      refine ⟨b, _, hb', hbase, hw', ?_⟩
      rw [Array.toList_setIfInBounds]
      exact VRl_set (VRl.mono hk _ _ (by simp) hcs) (VR.mono hk _ _ (by simp) hy')
  unfold Oper.wp
  have : (execOp a.eval o).run P w = .ok .skip (w.setCell ⟨b, off, none⟩ (a.eval y)) := by simp [execOp, ho, hv, Instr.storeAt, Instr.sureAddr, hr]
  rw [this, Oper.upon_skip]
  exact h4 _ _ _ hc' hk (by rw [VR]; trivial)

theorem setRow_size (w : World) (g : Nat) (cs : Array Value) : (w.setRow g cs).heap.size = w.heap.size := by simp [World.setRow]

/-- a store of a whole struct into a variable -/
theorem q_store_boxs {t : TypeId} {e : TE} {e0 : TypeId} {l l' : List AV} {x y : Operand} {id off : Nat} (hT : TyOk P ty) (ho : o.op = .store t x y) (ht : ty.get t = some e)
    (hx : evA ρ x = .bp id off) (hη : η id = some (.box e0 l)) (hF : F.contains id = true) (hy : cellsA (evA ρ y) = some l') (hs : Nat.beq e.size l'.length = true) (hlt : Nat.ble (off + l'.length) l.length = true) :
    QRun P o F [] ρ η .junk (lkH [(id, .box e0 (l.take off ++ l' ++ l.drop (off + l'.length)))]) := by
  intro vs w0 μ η' a w Q K h1 h2 h3 h4
  have hx' := h3 x (by simp [ho, Op.operands])
  obtain ⟨hy', hone⟩ := cellsA_VR hy (h3 y (by simp [ho, Op.operands]))
  rw [hx, VR] at hx'
  obtain ⟨b, hμ, hv⟩ := hx'
  have hlt := Nat.le_of_ble_eq_true hlt
  have hs := Nat.eq_of_beq_eq_true hs
  have hη' : η' id = some (.box e0 l) := (h1 id (by simpa using hF)).trans hη
  have hB := h2.blk id _ hη'
  obtain ⟨b', cs, hb', hbase, hw, hcs⟩ := hB
  rw [hb'] at hμ; cases hμ
  obtain ⟨hlen, hcs'⟩ := (VRl_iff ..).1 hcs
  obtain ⟨hlen', hy''⟩ := (VRl_iff ..).1 hy'
  simp at hlen
  have hst := run_storeCells_at P b off e0 (a.eval y).cells.toList 0 cs w hw (by rw [← hlen']; simp; omega) hone
  simp only [Nat.add_zero] at hst
  have hz := (hT.get ht).sizeOf (w := w)
  have hr : (storeVar t ⟨b, off, none⟩ (a.eval y)).run P w = .ok () (w.setRow b (cs.toList.take off ++ (a.eval y).cells.toList ++ cs.toList.drop (off + (a.eval y).cells.toList.length)).toArray) := by
    have hcsz : (a.eval y).cells.size = e.size := by rw [hs]; simpa using hlen'.symm
    simp only [storeVar, Sem.run_bind, hz, Result.andThen_ok, hcsz]
    simpa using hst
  have hw' := setRow_heap w b cs (cs.toList.take off ++ (a.eval y).cells.toList ++ cs.toList.drop (off + (a.eval y).cells.toList.length)).toArray e0 (0, 0) hw
  obtain ⟨hc', hk⟩ := HC_mod (i := id) (b := b) (B := .box e0 (l.take off ++ l' ++ l.drop (off + l'.length))) (S := []) (w' := w.setRow b (cs.toList.take off ++ (a.eval y).cells.toList ++ cs.toList.drop (off + (a.eval y).cells.toList.length)).toArray) h2 (by simp) hη' hb' rfl rfl rfl (setRow_size _ _ _)
    (fun c hc => setRow_other w b c _ hc)
    (by rw [size_shape hw', size_shape hw]; simp only [List.size_toArray, List.length_append, List.length_take, List.length_drop, ← hlen']; simp; omega) fun hk => by
      refine ⟨b, _, hb', hbase, hw', ?_⟩
      have hold := VRl.mono hk _ _ (by simp) hcs
      have hnew := VRl.mono hk _ _ (by simp) hy'
      obtain ⟨g1, g2⟩ := (VRl_iff ..).1 hold
      obtain ⟨g3, g4⟩ := (VRl_iff ..).1 hnew
      refine (VRl_iff ..).2 ⟨by simp [← hlen']; omega, fun j v hj => ?_⟩
      rcases Nat.lt_or_ge j off with hjo | hjo
      · rw [List.append_assoc, List.getElem?_append_left (by simp; omega), List.getElem?_take, if_pos hjo] at hj
        obtain ⟨z, hz, hr⟩ := g2 j v hj
        refine ⟨z, ?_, hr⟩
        rw [List.append_assoc, List.getElem?_append_left (by simp; omega), List.getElem?_take, if_pos hjo]; exact hz
      · rcases Nat.lt_or_ge j (off + l'.length) with hj2 | hj2
        · rw [List.getElem?_append_left (by simp; omega), List.getElem?_append_right (by simp; omega)] at hj
          have e1 : j - (List.take off l).length = j - off := by simp; omega
          rw [e1] at hj
          obtain ⟨z, hz, hr⟩ := g4 _ v hj
          refine ⟨z, ?_, hr⟩
          rw [List.getElem?_append_left (by simp; simp at hlen'; omega), List.getElem?_append_right (by simp; omega)]
          have e2 : j - (List.take off cs.toList).length = j - off := by simp; omega
          rw [e2]; exact hz
        · rw [List.getElem?_append_right (by simp; omega), List.getElem?_drop] at hj
          have e1 : off + l'.length + (j - (List.take off l ++ l').length) = j := by simp; omega
          rw [e1] at hj
          obtain ⟨z, hz, hr⟩ := g2 j v hj
          refine ⟨z, ?_, hr⟩
          rw [List.getElem?_append_right (by simp; simp at hlen'; omega), List.getElem?_drop]
          have e2 : off + (a.eval y).cells.toList.length + (j - (List.take off cs.toList ++ (a.eval y).cells.toList).length) = j := by simp; simp at hlen'; omega
          rw [e2]; exact hz
  unfold Oper.wp
  have : (execOp a.eval o).run P w = .ok .skip (w.setRow b (cs.toList.take off ++ (a.eval y).cells.toList ++ cs.toList.drop (off + (a.eval y).cells.toList.length)).toArray) := by simp [execOp, ho, hv, Instr.storeAt, Instr.sureAddr, hr]
  rw [this, Oper.upon_skip]
  exact h4 _ _ _ hc' hk (by rw [VR]; trivial)

end
end Go.Aw
