/- The symbolic state, what an operation does to it, regions in whatever order, code, calls. -/
import Derived.Test.YtodnginckchmdaaAwBase
set_option linter.unusedVariables false
namespace Go.Aw
open Go.RowKit (Below)

/-! ### the heap of a symbolic state -/

/-- block 'b' is none that the symbolic heap owns -/
def okOf (μ : Nat → Option Nat) (η : Hp) (b : Nat) : Prop := ∀ i, (η i).isSome → μ i ≠ some b

def BlkR (vs : Env) (base : Nat) (w : World) (μ : Nat → Option Nat) (ok : Nat → Prop) (i : Nat) : Blk → Prop
  | .sl e c => c.isSl = true ∧ ((μ i = none ∧ c.len = 0) ∨ ∃ b cs, μ i = some b ∧ (base ≤ b ∨ vs.loan b) ∧ w.heap[b]? = some (.cells cs e (0, 0)) ∧ c.len ≤ cs.size ∧ TRl w (okF vs ok) c.elems (cs.toList.take c.len))
  | .box e l => ∃ b cs, μ i = some b ∧ (base ≤ b ∨ vs.loan b) ∧ w.heap[b]? = some (.cells cs e (0, 0)) ∧ VRl vs w μ ok l cs.toList

/-- nothing has changed but the memory that is lent; what is lent keeps its shape -/
structure Bel (vs : Env) (w0 w : World) : Prop where
  os : w.os = w0.os
  tape : w.tape = w0.tape
  output : w.output = w0.output
  size : w0.heap.size ≤ w.heap.size
  block : ∀ k, k < w0.heap.size → ¬ vs.loan k → w.heap[k]? = w0.heap[k]?
  shape : ∀ k s, w0.shape? k = some s → w.shape? k = some s
theorem shape_lt {w : World} {k : Nat} {s : TypeId × Nat} (h : w.shape? k = some s) : k < w.heap.size := by
  rcases Nat.lt_or_ge k w.heap.size with h' | h'
  · exact h'
  · simp [World.shape?, Array.getElem?_eq_none h'] at h
theorem Bel.refl (vs : Env) (w : World) : Bel vs w w := ⟨rfl, rfl, rfl, Nat.le_refl _, fun _ _ _ => rfl, fun _ _ h => h⟩
theorem Bel.drew {vs : Env} {w0 w : World} (h : Bel vs w0 w) : Bel vs w0 w.drew := ⟨h.os, h.tape, h.output, h.size, h.block, h.shape⟩
theorem Bel.grow {vs : Env} {w0 w w' : World} (h : Bel vs w0 w) (hb : Below w.heap.size w w') : Bel vs w0 w' :=
  ⟨hb.os.trans h.os, hb.tape.trans h.tape, hb.output.trans h.output, Nat.le_trans h.size hb.size, fun k hk hl => (hb.block k (Nat.lt_of_lt_of_le hk h.size)).trans (h.block k hk hl),
    fun k s hs => by have h1 := h.shape k s hs; rw [← h1]; exact shape?_of_block (hb.block k (shape_lt h1))⟩
theorem Bel.below {vs : Env} {w0 w : World} (h : Bel vs w0 w) (hn : ∀ b, ¬ vs.loan b) : Below w0.heap.size w0 w := ⟨h.os, h.tape, h.output, h.size, fun k hk => h.block k hk (hn k)⟩
structure HC (vs : Env) (w0 : World) (μ : Nat → Option Nat) (η : Hp) (w : World) : Prop where
  base : vs.base = w0.heap.size
  below : Bel vs w0 w
  blk : ∀ i B, η i = some B → BlkR vs w0.heap.size w μ (okOf μ η) i B
  inj : ∀ i j b, (η i).isSome → (η j).isSome → μ i = some b → μ j = some b → i = j

def scrubB (S : List Nat) : Blk → Blk
  | .sl e c => .sl e c
  | .box e l => .box e (scrubL S l)
def hpS (S : List Nat) (ch η : Hp) : Hp := fun i =>
  match ch i with
  | some B => some B
  | none => if S.contains i then none else (η i).map (scrubB S)

theorem scrub_nil (v : AV) : scrub [] v = v := scrub_id v (by simp)
theorem scrubB_nil (B : Blk) : scrubB [] B = B := by
  cases B with
  | sl e c => rfl
  | box e l => simp only [scrubB]; rw [scrub_idL l (by simp)]
theorem hpS_nil (η : Hp) : hpS [] (fun _ => none) η = η := by
  funext i; simp only [hpS, List.contains_nil]; cases η i <;> simp [scrubB_nil]

theorem mem_idsL {i : Nat} : ∀ {l : List AV}, i ∈ idsL l ↔ ∃ v ∈ l, i ∈ v.ids
  | [] => by simp [idsL]
  | v :: r => by simp [idsL, mem_idsL (l := r)]

theorem scrubB_ids (S : List Nat) (B : Blk) : (scrubB S B).ids = B.ids := by
  cases B with
  | sl e c => rfl
  | box e l => simp only [scrubB, Blk.ids]; exact scrub_idsL S l
theorem scrubB_id {S : List Nat} {B : Blk} (h : ∀ i ∈ B.ids, i ∉ S) : scrubB S B = B := by
  cases B with
  | sl e c => rfl
  | box e l => simp only [scrubB]; rw [scrub_idL l h]
theorem scrubB_comm (S U : List Nat) (B : Blk) : scrubB S (scrubB U B) = scrubB U (scrubB S B) := by
  cases B with
  | sl e c => rfl
  | box e l => simp only [scrubB]; rw [scrub_commL]

/-! ### the frame -/

structure StR (vs : Env) (N : Nat) (w0 : World) (μ : Nat → Option Nat) (ρ : Fr) (η : Hp) (a : Act) (w : World) : Prop where
  hc : HC vs w0 μ η w
  size : a.tmps.size = N
  defers : a.defers = []
  slots : ∀ n, VR vs w μ (okOf μ η) (ρ n) (a.tmps.getD n undef)

def updF (ρ : Fr) (d : Option Nat) (v : AV) : Fr := match d with
  | some d => fun n => if n = d then v else ρ n
  | none => ρ

def stepF (S : List Nat) (d : Option Nat) (v : AV) (ρ : Fr) : Fr := updF (fun n => scrub S (ρ n)) d v
theorem stepF_nil (d : Option Nat) (v : AV) (ρ : Fr) : stepF [] d v ρ = updF ρ d v := by unfold stepF; simp only [scrub_nil]

def okConst (k : FloatKind) (b : Nat) : Bool := !isNan k b && Nat.blt b (2 ^ k.format.width)
/-- an operand's symbolic value -/
def evA (ρ : Fr) : Operand → AV
  | .tmp t => ρ t
  | .const (.float k b) => bif okConst k b then .t (.f k b) else .junk
  | .const v => .t (.v v)
  | .global _ => .junk
  | .func f => .fn f []

theorem evA_VR {vs : Env} {N : Nat} {w0 : World} {μ : Nat → Option Nat} {ρ : Fr} {η : Hp} {a : Act} {w : World} (h : StR vs N w0 μ ρ η a w) (x : Operand) : VR vs w μ (okOf μ η) (evA ρ x) (a.eval x) := by
  cases x with
  | tmp t => exact h.slots t
  | const v =>
    cases v with
    | float k b =>
      simp only [evA]
      cases hb : okConst k b with
      | false => simp only [cond_false]; rw [VR]; trivial
      | true =>
        simp only [cond_true, Act.eval]
        rw [VR, TR]
        simp only [okConst, Bool.and_eq_true, Bool.not_eq_true'] at hb
        exact ⟨b, rfl, by simp [canon, hb.1], by simpa using hb.2⟩
    | _ => simp only [evA, Act.eval]; rw [VR, TR]
  | global g => simp only [evA]; rw [VR]; trivial
  | func f => simp only [evA, Act.eval]; rw [VR]; exact ⟨#[], rfl, by rw [VRl]⟩

/-! ### one operation -/

/-- In whatever state whose heap is as 'η' at the ids 'F' and whose operands are as 'ρ' says: operation 'o' yields 'v', changes the heap by 'ch' and scrubs the ids 'S'. -/
def QRun (P : Program) (o : Oper) (F S : List Nat) (ρ : Fr) (η : Hp) (v : AV) (ch : Hp) : Prop :=
  ∀ (vs : Env) (w0 : World) (μ : Nat → Option Nat) (η' : Hp) (a : Act) (w : World) (Q : Exit → Act → World → Prop) (K : Act → World → Prop),
    (∀ i ∈ F, η' i = η i) → HC vs w0 μ η' w → (∀ x ∈ o.op.operands, VR vs w μ (okOf μ η') (evA ρ x) (a.eval x)) →
    (∀ y μ' w', HC vs w0 μ' (hpS S ch η') w' → Keeps w w' μ μ' (okOf μ η') (okOf μ' (hpS S ch η')) (· ∈ S) → VR vs w' μ' (okOf μ' (hpS S ch η')) v y → K (a.put o.dst y) w') →
    o.wp P a w K Q

/-- is the operation carried out? -/
def guardA (ops : Array Oper) (ρ : Fr) (o : Oper) : Option Bool :=
  match o.guard with
  | none => some true
  | some (j, want) =>
    match (ops[j]?).bind (·.dst) with
    | none => none
    | some t => match ρ t with
      | .t (.v (.bool b)) => some (b == want)
      | _ => none

theorem guard_wanted {vs : Env} {N : Nat} {w0 : World} {μ : Nat → Option Nat} {ρ : Fr} {η : Hp} {a : Act} {w : World} {ops : Array Oper} {o : Oper} {b : Bool}
    (h : StR vs N w0 μ ρ η a w) (hg : guardA ops ρ o = some b) : Region.wanted o (yielded ops a.tmps) = b := by
  unfold guardA at hg
  unfold Region.wanted
  cases hgu : o.guard with
  | none => simp [hgu] at hg; simp [hg]
  | some jw =>
    obtain ⟨j, want⟩ := jw
    simp only [hgu] at hg
    unfold yielded
    cases hj : (ops[j]?).bind (·.dst) with
    | none => simp [hj] at hg
    | some t =>
      simp only [hj] at hg
      have hs := h.slots t
      cases hr : ρ t with
      | t u =>
        rw [hr] at hg hs
        cases u with
        | v x =>
          cases x with
          | bool c =>
            simp only [Option.some.injEq] at hg
            rw [VR, TR] at hs
            rw [Array.getD_eq_getD_getElem?] at hs
            cases ht : a.tmps[t]? with
            | none => rw [ht] at hs; simp [undef] at hs
            | some z =>
              rw [ht] at hs
              simp only [Option.getD_some] at hs
              subst hs
              simp only [hj, Option.bind_some, ht]
              cases c <;> cases want <;> simp_all
          | _ => simp at hg
        | _ => simp at hg
      | _ => rw [hr] at hg; simp at hg

/-! ### the operations of a region, in the order of the text -/

def lkH : List (Nat × Blk) → Hp
  | [], _ => none
  | (i, B) :: r, j => bif Nat.beq j i then some B else lkH r j

def dstB (N : Nat) : Option Nat → Bool
  | none => true
  | some d => Nat.blt d N
def subB (l F : List Nat) : Bool := l.all fun i => F.contains i
/-- 'F' holds every id that the operation meets, 'C' every id that it changes -/
def footB (F C S : List Nat) (xs : List AV) (η : Hp) (v : AV) (ch : List (Nat × Blk)) : Bool :=
  xs.all (fun x => subB x.ids F) && subB v.ids F && ch.all (fun p => C.contains p.1 && subB p.2.ids F) && subB C F && subB S C &&
    F.all fun i => match η i with | some B => subB B.ids F | none => true

def Yld (P : Program) (N : Nat) (ops : Array Oper) (dr : Bool) (F C S : List Nat) (o : Oper) (v : AV) (ch : List (Nat × Blk)) (ρ : Fr) (η : Hp) : Prop :=
  dstB N o.dst = true ∧
  ((guardA ops ρ o = some true ∧ QRun P o F S ρ η v (lkH ch) ∧ (!dr || footB F C S (o.op.operands.toList.map (evA ρ)) η v ch) = true) ∨
   (guardA ops ρ o = some false ∧ v = .junk ∧ ch = [] ∧ S = []))

def Lex (P : Program) (N : Nat) (ops : Array Oper) (dr : Bool) (K : Fr → Hp → Prop) : List (List Nat × List Nat) → List Oper → Fr → Hp → Prop
  | tab, [], ρ, η => tab = [] ∧ K ρ η
  | tab, o :: l, ρ, η => ∃ F C S v ch tab', tab = (F, C) :: tab' ∧ Yld P N ops dr F C S o v ch ρ η ∧ Lex P N ops dr K tab' l (stepF S o.dst v ρ) (hpS S (lkH ch) η)

theorem put_getD {a : Act} {N : Nat} (hs : a.tmps.size = N) {d : Option Nat} (hd : dstB N d = true) (y : Value) (n : Nat) :
    (a.put d y).tmps.getD n undef = match d with | some d => if n = d then y else a.tmps.getD n undef | none => a.tmps.getD n undef := by
  cases d with
  | none => rfl
  | some d =>
    have hlt : d < a.tmps.size := by simpa [dstB, hs] using hd
    simp only [Act.put, Array.getD_eq_getD_getElem?]
    by_cases h : n = d
    · subst h; simp [hlt]
    · rw [Array.getElem?_setIfInBounds_ne (Ne.symm h)]; simp [h]

theorem StR.step {vs : Env} {N : Nat} {w0 : World} {μ μ' : Nat → Option Nat} {ρ : Fr} {η η' : Hp} {a : Act} {w w' : World} {S : List Nat} {d : Option Nat} {v : AV} {y : Value}
    (h : StR vs N w0 μ ρ η a w) (hd : dstB N d = true) (hc : HC vs w0 μ' η' w') (hk : Keeps w w' μ μ' (okOf μ η) (okOf μ' η') (· ∈ S)) (hv : VR vs w' μ' (okOf μ' η') v y) :
    StR vs N w0 μ' (stepF S d v ρ) η' (a.put d y) w' := by
  refine ⟨hc, ?_, ?_, fun n => ?_⟩
  · cases d <;> simp [Act.put, h.size]
  · cases d <;> simp [Act.put, h.defers]
  · rw [put_getD h.size hd]
    have old : ∀ n, VR vs w' μ' (okOf μ' η') (scrub S (ρ n)) (a.tmps.getD n undef) := fun n => VR.mono hk _ _ (scrub_refs S _) (VR.scrub _ _ (h.slots n))
    cases d with
    | none => exact old n
    | some d =>
      simp only [stepF, updF]
      split
      · exact hv
      · exact old n

/-- one operation of the concrete machine -/
theorem wpOp_of_yld {P : Program} {vs : Env} {N : Nat} {w0 : World} {ops : Array Oper} {dr : Bool} {F C S : List Nat} {i : Nat} {o : Oper} {v : AV} {ch : List (Nat × Blk)} {ρ : Fr} {η : Hp}
    (hi : ops[i]? = some o) (hy : Yld P N ops dr F C S o v ch ρ η) {μ : Nat → Option Nat} {a : Act} {w : World} (h : StR vs N w0 μ ρ η a w) {Q : Exit → Act → World → Prop} {K : Act → World → Prop}
    (hK : ∀ μ' a' w', StR vs N w0 μ' (stepF S o.dst v ρ) (hpS S (lkH ch) η) a' w' → K a' w') : wpOp P ops Q i K a w := by
  unfold wpOp
  simp only [hi]
  obtain ⟨hd, ⟨hg, hq, _⟩ | ⟨hg, rfl, rfl, rfl⟩⟩ := hy
  · rw [guard_wanted h hg, if_pos rfl]
    exact .inl (hq vs w0 μ η a w Q K (fun _ _ => rfl) h.hc (fun x _ => evA_VR h x) fun y μ' w' hc hk hv => hK _ _ _ (h.step hd hc hk hv))
  · rw [guard_wanted h hg, if_neg (by simp)]
    refine hK μ _ _ ?_
    have e : hpS [] (lkH []) η = η := hpS_nil η
    rw [e]
    refine h.step hd h.hc ⟨fun b hb hk => ⟨hb, hk, rfl⟩, fun _ _ => rfl, fun _ _ _ _ _ hs => hs⟩ (by rw [VR]; trivial)

theorem wpOps_of_lex {P : Program} {vs : Env} {N : Nat} {w0 : World} {ops : Array Oper} {dr : Bool} {K : Fr → Hp → Prop} {Q : Exit → Act → World → Prop} :
    ∀ (l : List Oper) (tab : List (List Nat × List Nat)) (k : Nat) (ρ : Fr) (η : Hp) (μ : Nat → Option Nat) (a : Act) (w : World), (∀ j, l[j]? = ops[k + j]?) → Lex P N ops dr K tab l ρ η → StR vs N w0 μ ρ η a w →
      (∀ ρ η μ a w, K ρ η → StR vs N w0 μ ρ η a w → Q .normal a w) → wpOps P ops Q ((List.range l.length).map (k + ·)) a w
  | [], _, _, _, _, _, _, _, _, h, hs, hQ => by
    simp only [List.length_nil, List.range_zero, List.map_nil, wpOps]
    exact hQ _ _ _ _ _ h.2 hs
  | o :: l, tab, k, ρ, η, μ, a, w, hl, h, hs, hQ => by
    obtain ⟨F, C, S, v, ch, tab', rfl, hy, hr⟩ := h
    have h0 : ops[k]? = some o := by simpa using (hl 0).symm
    rw [List.length_cons, List.range_succ_eq_map, List.map_cons, List.map_map, wpOps_cons]
    refine wpOp_of_yld h0 hy hs fun μ' a' w' hs' => ?_
    have := wpOps_of_lex l tab' (k + 1) _ _ μ' a' w' (fun j => by have := hl (j + 1); simpa [Nat.add_assoc, Nat.add_comm 1 j] using this) hr hs' hQ
    have e : ((fun x => k + x) ∘ Nat.succ) = (fun x => k + 1 + x) := by funext x; simp only [Function.comp]; omega
    rw [e]
    exact this

end Go.Aw
