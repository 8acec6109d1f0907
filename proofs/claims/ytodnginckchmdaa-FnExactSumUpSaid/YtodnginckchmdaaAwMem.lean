/- The rules of the operations that read and write memory. -/
import Derived.Test.YtodnginckchmdaaAwOps
import Derived.Laws.OwnMore
import Derived.Laws.MakeOwn
import Derived.Laws.Append
set_option linter.unusedVariables false
namespace Go.Aw
open Go.RowKit (Below)

/-! ### types -/

inductive TI where
  | b | i (k : IntKind) | f (k : FloatKind) | sl (e : TypeId) | st (fs : List (Nat × Nat)) | ptr (e : TypeId) | fn | oth
structure TE where
  d : TI
  size : Nat
  bytes : Nat
  z : Value
def descTI (P : Program) : TypeDesc → TI
  | .bool => .b
  | .int k => .i k
  | .float k => .f k
  | .slice e => .sl e
  | .struct fs => .st (fs.toList.map fun f => (f.offset, ((P.info? f.type).map (·.size)).getD 0))
  | .pointer e => .ptr e
  | .func .. => .fn
  | _ => .oth
def TyR (P : Program) (t : TypeId) (e : TE) : Prop :=
  (P.underlying t).map (descTI P) = some e.d ∧ (P.info? t).map (fun i => (i.size, i.bytes, i.zero)) = some (e.size, e.bytes, some e.z)
abbrev Ty := List (TypeId × TE)
def Ty.get (ty : Ty) (t : TypeId) : Option TE := match ty with
  | [] => none
  | (u, e) :: r => bif Nat.beq t u then some e else Ty.get r t
def TyOk (P : Program) : Ty → Prop
  | [] => True
  | (t, e) :: r => TyR P t e ∧ TyOk P r
theorem TyOk.get {P : Program} : ∀ {ty : Ty} (h : TyOk P ty) {t : TypeId} {e : TE}, ty.get t = some e → TyR P t e
  | [], _, _, _, hg => by simp [Ty.get] at hg
  | (u, e') :: r, h, t, e, hg => by
    simp only [Ty.get] at hg
    cases hb : Nat.beq t u with
    | true => simp only [hb, cond_true, Option.some.injEq] at hg; subst hg; rw [Nat.eq_of_beq_eq_true hb]; exact h.1
    | false => simp only [hb, cond_false] at hg; exact TyOk.get h.2 hg

section
variable {P : Program} {t : TypeId} {e : TE} {w : World}
theorem TyR.info (h : TyR P t e) : ∃ i, P.info? t = some i ∧ i.size = e.size ∧ i.bytes = e.bytes ∧ i.zero = some e.z := by
  obtain ⟨_, h⟩ := h
  cases hi : P.info? t with
  | none => simp [hi] at h
  | some i => simp [hi] at h; exact ⟨i, rfl, h⟩
theorem TyR.desc (h : TyR P t e) : ∃ d, P.underlying t = some d ∧ descTI P d = e.d := by
  obtain ⟨h, _⟩ := h
  cases hu : P.underlying t with
  | none => simp [hu] at h
  | some d => simp [hu] at h; exact ⟨d, rfl, h⟩
theorem TyR.sizeOf (h : TyR P t e) : (sizeOf t).run P w = .ok e.size w := by
  obtain ⟨i, hi, h1, _⟩ := h.info
  simp [Go.sizeOf, typeInfo, hi, h1]
theorem TyR.zero (h : TyR P t e) : (zeroValue t).run P w = .ok e.z w := by
  obtain ⟨i, hi, _, _, h3⟩ := h.info
  simp [zeroValue, typeInfo, hi, h3]
def TI.agg : TI → Bool
  | .st _ => true
  | _ => false
theorem TyR.isAgg (h : TyR P t e) (ho : (match e.d with | .oth => false | _ => true) = true) : (isAgg t).run P w = .ok e.d.agg w := by
  obtain ⟨d, hd, h1⟩ := h.desc
  rw [← h1] at ho ⊢
  cases d <;> simp [Go.isAgg, run_underlying hd, descTI, TI.agg] at ho ⊢
theorem TyR.slice {u : TypeId} (h : TyR P t e) (hd : e.d = .sl u) : P.underlying t = some (.slice u) := by
  obtain ⟨d, hu, h1⟩ := h.desc
  rw [hd] at h1
  cases d <;> simp [descTI] at h1
  rw [hu, h1]
theorem TyR.strct {fs : List (Nat × Nat)} (h : TyR P t e) (hd : e.d = .st fs) : ∃ fields : Array Field, P.underlying t = some (.struct fields) ∧ (fields.toList.map fun f => (f.offset, ((P.info? f.type).map (·.size)).getD 0)) = fs := by
  obtain ⟨d, hu, h1⟩ := h.desc
  rw [hd] at h1
  cases d <;> simp [descTI] at h1
  exact ⟨_, hu, by simpa [descTI] using h1⟩
end

/-! ### how the heap goes on -/

theorem HC_step {vs : Env} {w0 w w' : World} {μ μ' : Nat → Option Nat} {η ch : Hp} {S : List Nat} (hc : HC vs w0 μ η w)
    (hk : Keeps w w' μ μ' (okOf μ η) (okOf μ' (hpS S ch η)) (· ∈ S)) (hb : Bel vs w0 w')
    (hold : ∀ i B, η i = some B → i ∉ S → ch i = none → ∀ b, μ i = some b → w'.heap[b]? = w.heap[b]?)
    (hch : ∀ i B, ch i = some B → BlkR vs w0.heap.size w' μ' (okOf μ' (hpS S ch η)) i B)
    (hinj : ∀ i j b, (hpS S ch η i).isSome → (hpS S ch η j).isSome → μ' i = some b → μ' j = some b → i = j) : HC vs w0 μ' (hpS S ch η) w' := by
  refine ⟨hc.base, hb, fun i B hB => ?_, hinj⟩
  cases hci : ch i with
  | some B' =>
    have : B' = B := by simpa [hpS, hci] using hB
    subst this; exact hch i B' hci
  | none =>
    by_cases hS : i ∈ S
    · simp [hpS, hci, hS] at hB
    · have hB' : (η i).map (scrubB S) = some B := by simpa [hpS, hci, hS] using hB
      cases hη : η i with
      | none => simp [hη] at hB'
      | some B0 =>
        simp only [hη, Option.map_some, Option.some.injEq] at hB'
        have h0 := hc.blk i B0 hη
        have hid : μ' i = μ i := hk.id i hS
        cases B0 with
        | sl e c =>
          simp only [scrubB] at hB'; subst hB'
          obtain ⟨h1, h2⟩ := h0
          refine ⟨h1, ?_⟩
          rcases h2 with h2 | ⟨b, cs, g1, g2, g3, g4, g5⟩
          · exact .inl ⟨by rw [hid]; exact h2.1, h2.2⟩
          · exact .inr ⟨b, cs, by rw [hid]; exact g1, g2, by rw [hold i _ hη hS hci b g1]; exact g3, g4, TRl.mono hk.treeF _ _ g5⟩
        | box e l =>
          simp only [scrubB] at hB'; subst hB'
          obtain ⟨b, cs, g1, g2, g3, g4⟩ := h0
          exact ⟨b, cs, by rw [hid]; exact g1, g2, by rw [hold i _ hη hS hci b g1]; exact g3, VRl.mono hk _ _ (scrub_refsL S l) (VRl.scrub _ _ g4)⟩

theorem blk_lt {vs : Env} {base : Nat} {w : World} {μ : Nat → Option Nat} {ok : Nat → Prop} {i : Nat} {B : Blk} (h : BlkR vs base w μ ok i B) {b : Nat} (hb : μ i = some b) : (base ≤ b ∨ vs.loan b) ∧ b < w.heap.size := by
  have key : ∀ b' cs e, w.heap[b']? = some (.cells cs e (0, 0)) → b' < w.heap.size := fun b' cs e h => (Array.getElem?_eq_some_iff.1 h).1
  cases B with
  | sl e c =>
    obtain ⟨_, h | ⟨b', cs, g1, g2, g3, _⟩⟩ := h
    · rw [h.1] at hb; cases hb
    · rw [g1] at hb; cases hb; exact ⟨g2, key _ _ _ g3⟩
  | box e l =>
    obtain ⟨b', cs, g1, g2, g3, _⟩ := h
    rw [g1] at hb; cases hb; exact ⟨g2, key _ _ _ g3⟩

def updM (μ : Nat → Option Nat) (i : Nat) (v : Option Nat) : Nat → Option Nat := fun j => if j = i then v else μ j

/-- a block that the world has grown by (at its end, or somewhere behind what was), known to the symbolic heap as 'i' -/
theorem HC_new {vs : Env} {w0 w w' : World} {μ : Nat → Option Nat} {η : Hp} {i b : Nat} {B : Blk} (hc : HC vs w0 μ η w) (hbel : Below w.heap.size w w') (hb : w.heap.size ≤ b)
    (hB : Keeps w w' μ (updM μ i (some b)) (okOf μ η) (okOf (updM μ i (some b)) (hpS [i] (lkH [(i, B)]) η)) (· ∈ [i]) →
      BlkR vs w0.heap.size w' (updM μ i (some b)) (okOf (updM μ i (some b)) (hpS [i] (lkH [(i, B)]) η)) i B) :
    HC vs w0 (updM μ i (some b)) (hpS [i] (lkH [(i, B)]) η) w' ∧ Keeps w w' μ (updM μ i (some b)) (okOf μ η) (okOf (updM μ i (some b)) (hpS [i] (lkH [(i, B)]) η)) (· ∈ [i]) := by
  have e1 : hpS [i] (lkH [(i, B)]) η i = some B := by simp [hpS, lkH]
  have e2 : ∀ j, j ≠ i → hpS [i] (lkH [(i, B)]) η j = (η j).map (scrubB [i]) := fun j hj => by
    have hb : Nat.beq j i = false := by
      cases h : Nat.beq j i with
      | true => exact absurd (Nat.eq_of_beq_eq_true h) hj
      | false => rfl
    simp [hpS, lkH, hb, hj]
  have hlt : ∀ j, (η j).isSome → ∀ c, μ j = some c → c < w.heap.size := fun j hj c hm => by
    obtain ⟨B', hB'⟩ := Option.isSome_iff_exists.1 hj
    exact (blk_lt (hc.blk j B' hB') hm).2
  have hk : Keeps w w' μ (updM μ i (some b)) (okOf μ η) (okOf (updM μ i (some b)) (hpS [i] (lkH [(i, B)]) η)) (· ∈ [i]) := by
    refine ⟨fun c hc' hok => ⟨by have := hbel.size; omega, fun j hj => ?_, hbel.block c hc'⟩, fun j hj => ?_, fun j c hj hm s hs => ?_⟩
    · by_cases hji : j = i
      · subst hji; simp only [updM, if_true]; intro h; cases h; omega
      · rw [e2 j hji, Option.isSome_map] at hj
        simp only [updM, if_neg hji]; exact hok j hj
    · simp only [List.mem_singleton] at hj; simp [updM, hj]
    · have hc' : c < w.heap.size := by
        rcases Nat.lt_or_ge c w.heap.size with h | h
        · exact h
        · simp [World.shape?, Array.getElem?_eq_none h] at hs
      rw [← hs]; exact shape?_of_block (hbel.block c hc')
  refine ⟨HC_step hc hk ?_ (fun j B' hj hS _ c hm => hbel.block c (hlt j (by rw [hj]; rfl) c hm)) (fun j B' hj => ?_) (fun j l c hj hl h1 h2 => ?_), hk⟩
  · exact hc.below.grow hbel
  · have := lkH_mem hj
    simp at this; obtain ⟨rfl, rfl⟩ := this
    exact hB hk
  · by_cases hji : j = i
    · by_cases hli : l = i
      · rw [hji, hli]
      · subst hji
        simp only [updM, if_true] at h1; cases h1
        simp only [updM, if_neg hli] at h2
        rw [e2 l hli, Option.isSome_map] at hl
        have := hlt l hl _ h2; omega
    · by_cases hli : l = i
      · subst hli
        simp only [updM, if_true] at h2; cases h2
        simp only [updM, if_neg hji] at h1
        rw [e2 j hji, Option.isSome_map] at hj
        have := hlt j hj _ h1; omega
      · rw [e2 j hji, Option.isSome_map] at hj
        rw [e2 l hli, Option.isSome_map] at hl
        simp only [updM, if_neg hji] at h1; simp only [updM, if_neg hli] at h2
        exact hc.inj j l c hj hl h1 h2

/-! ### the rules -/

/-- a value that reads as data; 'true': what it reads may lie in memory that was there before the call -/
def AV.tr : AV → Option (Bool × T)
  | .t u => some (false, u)
  | .old u => some (true, u)
  | .arg _ u => some (true, u)
  | .argc _ _ u => some (true, u)
  | _ => none
def okB (vs : Env) (ok : Nat → Prop) : Bool → Nat → Prop
  | true => ok
  | false => okF vs ok
theorem okB_ok {vs : Env} {ok : Nat → Prop} {d : Bool} {b : Nat} (h : okB vs ok d b) : ok b := by cases d; exact h.1; exact h
theorem VR_tr {vs : Env} {w : World} {μ : Nat → Option Nat} {ok : Nat → Prop} {v : AV} {d : Bool} {t : T} {y : Value} (h : VR vs w μ ok v y) (ht : v.tr = some (d, t)) : TR w (okB vs ok d) t y := by
  cases v <;> simp only [AV.tr, Option.some.injEq, reduceCtorEq, Prod.mk.injEq] at ht <;> obtain ⟨rfl, rfl⟩ := ht <;> rw [VR] at h
  · exact h
  · exact h
  · exact h.2
  · exact h.2
theorem TR.weak {w : World} {ok ok' : Nat → Prop} (h : ∀ b, ok b → ok' b) {t : T} {y : Value} (ht : TR w ok t y) : TR w ok' t y := TR.mono (fun b hb hk => ⟨hb, h b hk, rfl⟩) t y ht
theorem VR_tree {vs : Env} {w : World} {μ : Nat → Option Nat} {ok : Nat → Prop} {v : AV} {d : Bool} {t : T} {y : Value} (h : VR vs w μ ok v y) (ht : v.tr = some (d, t)) : TR w ok t y :=
  TR.weak (fun b hb => okB_ok hb) (VR_tr h ht)
/-- .. such a value -/
def AV.own? : AV → Option (Nat × Nat × Nat)
  | .own i o n => some (i, o, n)
  | .argo _ i o n => some (i, o, n)
  | _ => none
theorem VR_own {vs : Env} {w : World} {μ : Nat → Option Nat} {ok : Nat → Prop} {v : AV} {i o n : Nat} {y : Value} (h : VR vs w μ ok v y) (hv : v.own? = some (i, o, n)) : VR vs w μ ok (.own i o n) y := by
  cases v <;> simp only [AV.own?, Option.some.injEq, reduceCtorEq, Prod.mk.injEq] at hv <;> obtain ⟨rfl, rfl, rfl⟩ := hv
  · exact h
  · rw [VR] at *; exact h.2
def mkT (d : Bool) (u : T) : AV := match u with
  | .f k c => .t (.f k c)
  | .v x => .t (.v x)
  | u => bif d then .old u else .t u
theorem mkT_VR {vs : Env} {w : World} {μ : Nat → Option Nat} {ok : Nat → Prop} {d : Bool} {t : T} {y : Value} (h : TR w (okB vs ok d) t y) : VR vs w μ ok (mkT d t) y := by
  cases t with
  | f k c => simp only [mkT]; rw [VR]; rw [TR] at *; exact h
  | v x => simp only [mkT]; rw [VR]; rw [TR] at *; exact h
  | _ => cases d <;> simp only [mkT, cond_true, cond_false] <;> rw [VR] <;> exact h

section
variable {P : Program} {o : Oper} {F : List Nat} {ρ : Fr} {η : Hp} {ty : Ty}

theorem ord1 (x : Operand) : x ∈ (#[x] : Array Operand) := by simp

/-! len -/
theorem q_len_tree {t : TypeId} {e : TE} {u : TypeId} {x : Operand} {c : T} (hT : TyOk P ty) (ho : o.op = .call { callee := .builtin .len, args := #[x], argTypes := #[t] })
    (ht : ty.get t = some e) (hd : e.d = .sl u) {dd : Bool} (hx : (evA ρ x).tr = some (dd, c)) (hc : c.isSl = true) : QRun P o F [] ρ η (.t (.v (.int .i64 c.len))) (lkH []) := by
  refine qrun_v fun vs w0 μ η' a w h1 h2 h3 => ?_
  have hx' := VR_tree (h3 x (by simp [ho, Op.operands, Call.operands])) hx
  obtain ⟨a0, n, cp, hy, hn, _⟩ := (TR_sl w _ c hc _).1 hx'
  have hu := (hT.get ht).slice hd
  simp [execOp, ho, resolve, invoke, builtin, Builtin.len_, hy, run_underlying hu, goInt, hn]
theorem q_len_own {t : TypeId} {e : TE} {u : TypeId} {x : Operand} {i off n : Nat} (hT : TyOk P ty) (ho : o.op = .call { callee := .builtin .len, args := #[x], argTypes := #[t] })
    (ht : ty.get t = some e) (hd : e.d = .sl u) (hx : (evA ρ x).own? = some (i, off, n)) : QRun P o F [] ρ η (.t (.v (.int .i64 n))) (lkH []) := by
  refine qrun_v fun vs w0 μ η' a w h1 h2 h3 => ?_
  have hx' := VR_own (h3 x (by simp [ho, Op.operands, Call.operands])) hx
  rw [VR] at hx'
  have hu := (hT.get ht).slice hd
  rcases hx' with ⟨_, _, rfl, hy⟩ | ⟨b, cap, e0, m, _, hy, _⟩ <;>
    simp [execOp, ho, resolve, invoke, builtin, Builtin.len_, hy, run_underlying hu, goInt]
theorem q_len_nil {t : TypeId} {e : TE} {u : TypeId} {x : Operand} (hT : TyOk P ty) (ho : o.op = .call { callee := .builtin .len, args := #[x], argTypes := #[t] })
    (ht : ty.get t = some e) (hd : e.d = .sl u) (hx : evA ρ x = .t (.v (.slice none 0 0))) : QRun P o F [] ρ η (.t (.v (.int .i64 0))) (lkH []) := by
  refine qrun_v fun vs w0 μ η' a w h1 h2 h3 => ?_
  have hx' := h3 x (by simp [ho, Op.operands, Call.operands])
  rw [hx, VR, TR] at hx'
  have hu := (hT.get ht).slice hd
  simp [execOp, ho, resolve, invoke, builtin, Builtin.len_, hx', run_underlying hu, goInt]

/-! addresses -/
theorem add_one (b off k : Nat) : (⟨b, off, none⟩ : Addr).add (k * 1) = ⟨b, off + k, none⟩ := by
  unfold Addr.add
  split
  · rename_i h; have : k = 0 := by omega
    subst this; rfl
  · simp

theorem add1 (b off k : Nat) : (⟨b, off, none⟩ : Addr).add k = ⟨b, off + k, none⟩ := by have := add_one b off k; simpa using this

theorem q_idx_tree {t u : TypeId} {e eu : TE} {x y : Operand} {c : T} {k : IntKind} {i : Int} (j : Nat) (hT : TyOk P ty) (ho : o.op = .indexAddr t x y)
    (ht : ty.get t = some e) (hd : e.d = .sl u) (hu : ty.get u = some eu) (hs : eu.size = 1) {dd : Bool} (hx : (evA ρ x).tr = some (dd, c)) (hc : c.isSl = true)
    (hy : evA ρ y = .t (.v (.int k i))) (hj : i = (j : Int)) (hlt : j < c.len) : QRun P o F [] ρ η (mkT dd (.ref [c.get j])) (lkH []) := by
  refine qrun_val fun vs w0 μ η' a w h1 h2 h3 => ?_
  have hx' := VR_tr (h3 x (by simp [ho, Op.operands])) hx
  have hy' := h3 y (by simp [ho, Op.operands])
  rw [hy, VR, TR] at hy'
  obtain ⟨a0, n, cp, hv, hn, _, hcell⟩ := (TR_sl w _ c hc _).1 hx'
  rcases hcell with h0 | ⟨b, off, ha, hb, hok, hcs⟩
  · omega
  · subst hj; subst ha
    have hus := (hT.get ht).slice hd
    have hsz := (hT.get hu).sizeOf (w := w)
    rw [hs] at hsz
    have hjn : j < n := by omega
    refine ⟨.pointer (some ⟨b, off + j, none⟩), w.drawn, ?_, ?_⟩
    · simp [execOp, ho, hv, hy', Instr.indexAt, asIntOf, run_underlying hus, hsz, hjn, add1]
    · refine mkT_VR ?_
      rw [TR]
      refine ⟨b, off + j, rfl, hb, hok, ?_⟩
      rw [TRs, TRs]
      obtain ⟨z, hz, hr⟩ := (TRs_iff ..).1 hcs j _ (T.get_elems c hc j hlt)
      exact ⟨⟨z, hz, hr⟩, trivial⟩

theorem q_idx_own {t u : TypeId} {e eu : TE} {x y : Operand} {k : IntKind} {i : Int} {id off n : Nat} (j : Nat) (hT : TyOk P ty) (ho : o.op = .indexAddr t x y)
    (ht : ty.get t = some e) (hd : e.d = .sl u) (hu : ty.get u = some eu) (hs : eu.size = 1) (hx : (evA ρ x).own? = some (id, off, n))
    (hy : evA ρ y = .t (.v (.int k i))) (hj : i = (j : Int)) (hlt : j < n) : QRun P o F [] ρ η (.bp id (off + j)) (lkH []) := by
  refine qrun_val fun vs w0 μ η' a w h1 h2 h3 => ?_
  have hx' := VR_own (h3 x (by simp [ho, Op.operands])) hx
  have hy' := h3 y (by simp [ho, Op.operands])
  rw [hy, VR, TR] at hy'
  rw [VR] at hx'
  rcases hx' with ⟨_, _, h0, _⟩ | ⟨b, cap, e0, m, hμ, hv, _⟩
  · omega
  · subst hj
    have hus := (hT.get ht).slice hd
    have hsz := (hT.get hu).sizeOf (w := w)
    rw [hs] at hsz
    refine ⟨.pointer (some ⟨b, off + j, none⟩), w.drawn, ?_, by rw [VR]; exact ⟨b, hμ, rfl⟩⟩
    simp [execOp, ho, hv, hy', Instr.indexAt, asIntOf, run_underlying hus, hsz, hlt, add1]

theorem q_nilchk_bp {x : Operand} {id off : Nat} (ho : o.op = .nilCheck x) (hx : evA ρ x = .bp id off) : QRun P o F [] ρ η (.bp id off) (lkH []) := by
  refine qrun_val fun vs w0 μ η' a w h1 h2 h3 => ?_
  have hx' := h3 x (by simp [ho, Op.operands])
  rw [hx] at hx'
  have hx2 := hx'
  rw [VR] at hx'
  obtain ⟨b, hμ, hv⟩ := hx'
  rw [hv] at hx2
  exact ⟨_, w.drawn, by simp [execOp, ho, hv], hx2⟩
theorem q_nilchk_ref {x : Operand} {l : List T} (ho : o.op = .nilCheck x) {dd : Bool} (hx : (evA ρ x).tr = some (dd, .ref l)) : QRun P o F [] ρ η (mkT dd (.ref l)) (lkH []) := by
  refine qrun_val fun vs w0 μ η' a w h1 h2 h3 => ?_
  have hx' := VR_tr (h3 x (by simp [ho, Op.operands])) hx
  have hx2 := hx'
  rw [TR] at hx'
  obtain ⟨b, off, hv, _⟩ := hx'
  rw [hv] at hx2
  exact ⟨.pointer (some ⟨b, off, none⟩), w.drawn, by simp [execOp, ho, hv], mkT_VR hx2⟩

theorem fieldAt_run {t : TypeId} {e : TE} {fs : List (Nat × Nat)} {i fo sz : Nat} (h : TyR P t e) (hd : e.d = .st fs) (hi : fs[i]? = some (fo, sz)) (hs : sz ≠ 0) (w : World) (b off : Nat) :
    (Instr.fieldAt t (.pointer (some ⟨b, off, none⟩)) i).run P w = .ok (.pointer (some ⟨b, off + fo, none⟩)) w := by
  obtain ⟨fields, hu, hf⟩ := h.strct hd
  have hi' : (fields.toList.map fun f => (f.offset, ((P.info? f.type).map (·.size)).getD 0))[i]? = some (fo, sz) := by rw [hf]; exact hi
  simp only [List.getElem?_map, Option.map_eq_some_iff, Prod.mk.injEq] at hi'
  obtain ⟨f, hfi, hfo, hsz⟩ := hi'
  have hfi' : fields[i]? = some f := by simpa using hfi
  cases hinf : P.info? f.type with
  | none => simp [hinf] at hsz; omega
  | some inf =>
    have hsz' : inf.size = sz := by simpa [hinf] using hsz
    simp [Instr.fieldAt, run_underlying hu, hfi', Instr.sureAddr, fieldPlace, sizeOf, typeInfo, hinf, hsz', hs, hfo, add1]

theorem q_fld_bp {t : TypeId} {e : TE} {fs : List (Nat × Nat)} {x : Operand} {id off i fo sz : Nat} (hT : TyOk P ty) (ho : o.op = .fieldAddr t x i)
    (ht : ty.get t = some e) (hd : e.d = .st fs) (hi : fs[i]? = some (fo, sz)) (hs : (Nat.beq sz 0) = false) (hx : evA ρ x = .bp id off) : QRun P o F [] ρ η (.bp id (off + fo)) (lkH []) := by
  refine qrun_val fun vs w0 μ η' a w h1 h2 h3 => ?_
  have hx' := h3 x (by simp [ho, Op.operands])
  rw [hx, VR] at hx'
  obtain ⟨b, hμ, hv⟩ := hx'
  have hs' : sz ≠ 0 := by intro h; subst h; simp at hs
  exact ⟨.pointer (some ⟨b, off + fo, none⟩), w.drawn, by simp [execOp, ho, hv, fieldAt_run (hT.get ht) hd hi hs'], by rw [VR]; exact ⟨b, hμ, rfl⟩⟩
theorem q_fld_ref {t : TypeId} {e : TE} {fs : List (Nat × Nat)} {x : Operand} {l : List T} {i fo sz : Nat} (hT : TyOk P ty) (ho : o.op = .fieldAddr t x i)
    (ht : ty.get t = some e) (hd : e.d = .st fs) (hi : fs[i]? = some (fo, sz)) (hs : (Nat.beq sz 0) = false) {dd : Bool} (hx : (evA ρ x).tr = some (dd, .ref l)) : QRun P o F [] ρ η (mkT dd (.ref (l.drop fo))) (lkH []) := by
  refine qrun_val fun vs w0 μ η' a w h1 h2 h3 => ?_
  have hx' := VR_tr (h3 x (by simp [ho, Op.operands])) hx
  rw [TR] at hx'
  obtain ⟨b, off, hv, hb, hok, hl⟩ := hx'
  have hs' : sz ≠ 0 := by intro h; subst h; simp at hs
  refine ⟨.pointer (some ⟨b, off + fo, none⟩), w.drawn, by simp [execOp, ho, hv, fieldAt_run (hT.get ht) hd hi hs'], ?_⟩
  refine mkT_VR ?_
  rw [TR]
  refine ⟨b, off + fo, rfl, hb, hok, (TRs_iff ..).2 fun j u hu => ?_⟩
  have := (TRs_iff ..).1 hl (fo + j) u (by simpa using hu)
  simpa [Nat.add_assoc] using this

/-! loads -/
def TI.known : TI → Bool
  | .oth => false
  | _ => true
theorem TyR.isAgg' {t : TypeId} {e : TE} {w : World} (h : TyR P t e) (ho : e.d.known = true) : (Go.isAgg t).run P w = .ok e.d.agg w := by
  refine h.isAgg ?_
  cases hd : e.d <;> simp_all [TI.known]

theorem loadVar_scalar {t : TypeId} {e : TE} {w : World} {b off : Nat} {y : Value} (h : TyR P t e) (hk : e.d.known = true) (ha : e.d.agg = false) (hc : w.cell? ⟨b, off, none⟩ = some y) :
    (loadVar t ⟨b, off, none⟩).run P w = .ok y w := by
  simp [loadVar, h.isAgg' hk, ha, hc]
theorem loadVar_agg {t : TypeId} {e : TE} {w : World} {b off : Nat} {l : List Value} (h : TyR P t e) (hk : e.d.known = true) (ha : e.d.agg = true) (hl : l.length = e.size)
    (hc : ∀ j y, l[j]? = some y → w.cell? ⟨b, off + j, none⟩ = some y) : (loadVar t ⟨b, off, none⟩).run P w = .ok (.agg l.toArray) w := by
  have hr := run_loadCells_list (P := P) w ⟨b, off, none⟩ l (fun j v hj => by rw [add1]; exact hc j v hj)
  simp [loadVar, h.isAgg' hk, ha, h.sizeOf, ← hl, hr]

theorem cell_of_block {w : World} {b : Nat} {cs : Array Value} {e : TypeId} {fz : Nat × Nat} (h : w.heap[b]? = some (.cells cs e fz)) (i : Nat) : w.cell? ⟨b, i, none⟩ = cs[i]? := by
  simp [World.cell?, h]

theorem q_load_el {t : TypeId} {e : TE} {e0 : TypeId} {c : T} {x : Operand} {id off : Nat} (hT : TyOk P ty) (ho : o.op = .load t x) (ht : ty.get t = some e) (hk : e.d.known = true) (ha : e.d.agg = false)
    (hx : evA ρ x = .bp id off) (hη : η id = some (.sl e0 c)) (hF : F.contains id = true) (hlt : off < c.len) : QRun P o F [] ρ η (.t (c.get off)) (lkH []) := by
  refine qrun_val fun vs w0 μ η' a w h1 h2 h3 => ?_
  have hx' := h3 x (by simp [ho, Op.operands])
  rw [hx, VR] at hx'
  obtain ⟨b, hμ, hv⟩ := hx'
  have hB := h2.blk id _ ((h1 id (by simpa using hF)).trans hη)
  obtain ⟨hsl, hB⟩ := hB
  rcases hB with ⟨hn, _⟩ | ⟨b', cs, hb', _, hw, hlen, hcs⟩
  · rw [hn] at hμ; cases hμ
  · rw [hb'] at hμ; cases hμ
    obtain ⟨z, hz, hr⟩ := ((TRl_iff ..).1 hcs).2 off _ (T.get_elems c hsl off hlt)
    have hz' : cs[off]? = some z := by
      rw [List.getElem?_take, if_pos hlt] at hz
      rw [← Array.getElem?_toList]; exact hz
    exact ⟨z, w.drawn, by simp [execOp, ho, hv, Instr.loadAt, Instr.sureAddr, loadVar_scalar (hT.get ht) hk ha ((cell_of_block hw off).trans hz')], by rw [VR]; exact hr⟩

theorem q_load_box {t : TypeId} {e : TE} {e0 : TypeId} {l : List AV} {v : AV} {x : Operand} {id off : Nat} (hT : TyOk P ty) (ho : o.op = .load t x) (ht : ty.get t = some e) (hk : e.d.known = true) (ha : e.d.agg = false)
    (hx : evA ρ x = .bp id off) (hη : η id = some (.box e0 l)) (hF : F.contains id = true) (hlt : l[off]? = some v) : QRun P o F [] ρ η v (lkH []) := by
  refine qrun_val fun vs w0 μ η' a w h1 h2 h3 => ?_
  have hx' := h3 x (by simp [ho, Op.operands])
  rw [hx, VR] at hx'
  obtain ⟨b, hμ, hv⟩ := hx'
  have hB := h2.blk id _ ((h1 id (by simpa using hF)).trans hη)
  obtain ⟨b', cs, hb', _, hw, hcs⟩ := hB
  rw [hb'] at hμ; cases hμ
  obtain ⟨z, hz, hr⟩ := ((VRl_iff ..).1 hcs).2 off v hlt
  have hz' : cs[off]? = some z := by rw [← Array.getElem?_toList]; exact hz
  exact ⟨z, w.drawn, by simp [execOp, ho, hv, Instr.loadAt, Instr.sureAddr, loadVar_scalar (hT.get ht) hk ha ((cell_of_block hw off).trans hz')], hr⟩

theorem q_load_boxs {t : TypeId} {e : TE} {e0 : TypeId} {l : List AV} {x : Operand} {id off : Nat} (hT : TyOk P ty) (ho : o.op = .load t x) (ht : ty.get t = some e) (hk : e.d.known = true) (ha : e.d.agg = true)
    (hx : evA ρ x = .bp id off) (hη : η id = some (.box e0 l)) (hF : F.contains id = true) (hlt : Nat.ble (off + e.size) l.length = true) : QRun P o F [] ρ η (.agg ((l.drop off).take e.size)) (lkH []) := by
  refine qrun_val fun vs w0 μ η' a w h1 h2 h3 => ?_
  have hx' := h3 x (by simp [ho, Op.operands])
  rw [hx, VR] at hx'
  obtain ⟨b, hμ, hv⟩ := hx'
  have hlt := Nat.le_of_ble_eq_true hlt
  have hB := h2.blk id _ ((h1 id (by simpa using hF)).trans hη)
  obtain ⟨b', cs, hb', _, hw, hcs⟩ := hB
  rw [hb'] at hμ; cases hμ
  obtain ⟨hlen, hcs⟩ := (VRl_iff ..).1 hcs
  have hl2 : ((cs.toList.drop off).take e.size).length = e.size := by rw [List.length_take, List.length_drop, ← hlen]; omega
  refine ⟨.agg ((cs.toList.drop off).take e.size).toArray, w.drawn, ?_, ?_⟩
  · have hr := loadVar_agg (P := P) (w := w) (b := b) (off := off) (hT.get ht) hk ha hl2 (fun j y hj => by
      rw [cell_of_block hw, ← Array.getElem?_toList]
      rw [List.getElem?_take] at hj
      split at hj
      · simpa using hj
      · cases hj)
    simp [execOp, ho, hv, Instr.loadAt, Instr.sureAddr, hr]
  · rw [VR]
    refine ⟨_, rfl, (VRl_iff ..).2 ⟨by simp only []; rw [hl2, List.length_take, List.length_drop]; omega, fun i u hu => ?_⟩⟩
    rw [List.getElem?_take] at hu
    split at hu
    · rename_i hi
      rw [List.getElem?_drop] at hu
      obtain ⟨z, hz, hr⟩ := hcs _ _ hu
      exact ⟨z, by simp only [List.getElem?_take, hi, if_true, List.getElem?_drop]; exact hz, hr⟩
    · cases hu

theorem q_load_ref {t : TypeId} {e : TE} {c : T} {r : List T} {x : Operand} (hT : TyOk P ty) (ho : o.op = .load t x) (ht : ty.get t = some e) (hk : e.d.known = true) (ha : e.d.agg = false)
    {dd : Bool} (hx : (evA ρ x).tr = some (dd, .ref (c :: r))) : QRun P o F [] ρ η (mkT dd c) (lkH []) := by
  refine qrun_val fun vs w0 μ η' a w h1 h2 h3 => ?_
  have hx' := VR_tr (h3 x (by simp [ho, Op.operands])) hx
  rw [TR] at hx'
  obtain ⟨b, off, hv, _, _, hl⟩ := hx'
  rw [TRs] at hl
  obtain ⟨⟨z, hz, hr⟩, _⟩ := hl
  exact ⟨z, w.drawn, by simp [execOp, ho, hv, Instr.loadAt, Instr.sureAddr, loadVar_scalar (hT.get ht) hk ha hz], mkT_VR hr⟩

theorem q_load_refs {t : TypeId} {e : TE} {l : List T} {x : Operand} (hT : TyOk P ty) (ho : o.op = .load t x) (ht : ty.get t = some e) (hk : e.d.known = true) (ha : e.d.agg = true)
    {dd : Bool} (hx : (evA ρ x).tr = some (dd, .ref l)) (hlt : Nat.ble e.size l.length = true) : QRun P o F [] ρ η (.agg ((l.take e.size).map (mkT dd))) (lkH []) := by
  refine qrun_val fun vs w0 μ η' a w h1 h2 h3 => ?_
  have hx' := VR_tr (h3 x (by simp [ho, Op.operands])) hx
  have hlt := Nat.le_of_ble_eq_true hlt
  rw [TR] at hx'
  obtain ⟨b, off, hv, _, _, hl⟩ := hx'
  have hl := (TRs_iff ..).1 hl
  have hall : ∀ n, n ≤ l.length → ∃ ys : List Value, ys.length = n ∧ ∀ j, j < n → ∃ z u, ys[j]? = some z ∧ l[j]? = some u ∧ w.cell? ⟨b, off + j, none⟩ = some z ∧ TR w (okB vs (okOf μ η') dd) u z := by
    intro n
    induction n with
    | zero => exact fun _ => ⟨[], rfl, fun j hj => by omega⟩
    | succ n ih =>
      intro hn
      obtain ⟨ys, hy, hys⟩ := ih (by omega)
      obtain ⟨z, hz, hr⟩ := hl n l[n] (by simp)
      refine ⟨ys ++ [z], by simp [hy], fun j hj => ?_⟩
      by_cases hjn : j = n
      · subst hjn; exact ⟨z, l[j], by simp [← hy], by simp, hz, hr⟩
      · obtain ⟨z', u', h1, h2, h3⟩ := hys j (by omega)
        exact ⟨z', u', by rw [List.getElem?_append_left (by omega)]; exact h1, h2, h3⟩
  obtain ⟨ys, hy, hys⟩ := hall e.size hlt
  refine ⟨.agg ys.toArray, w.drawn, ?_, ?_⟩
  · have hr := loadVar_agg (P := P) (w := w) (b := b) (off := off) (hT.get ht) hk ha hy (fun j y hj => by
      have hjl : j < e.size := by rw [← hy]; exact (List.getElem?_eq_some_iff.1 hj).1
      obtain ⟨z, u, g1, g2, g3, _⟩ := hys j hjl
      rw [g1] at hj; cases hj; exact g3)
    simp [execOp, ho, hv, Instr.loadAt, Instr.sureAddr, hr]
  · rw [VR]
    refine ⟨_, rfl, (VRl_iff ..).2 ⟨by simp [hy]; omega, fun i u hu => ?_⟩⟩
    simp only [List.getElem?_map, Option.map_eq_some_iff] at hu
    obtain ⟨t0, ht0, rfl⟩ := hu
    rw [List.getElem?_take] at ht0
    split at ht0
    · rename_i hi
      obtain ⟨z, u, g1, g2, g3, g4⟩ := hys i hi
      rw [g2] at ht0; cases ht0
      exact ⟨z, by simpa using g1, mkT_VR g4⟩
    · cases ht0

end
end Go.Aw
