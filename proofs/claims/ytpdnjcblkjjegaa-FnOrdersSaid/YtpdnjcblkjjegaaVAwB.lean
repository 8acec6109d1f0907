/- Symbolic states: new memory, append, calls, the steps of a walk. No condition. -/
import Derived.Test.YtpdnjcblkjjegaaVAwA
import Derived.Laws.Small
import Derived.KernelRfl
set_option linter.unusedVariables false
namespace Go.Aw
open Go.RowKit (Below)

/-- the elements of a slice made of values -/
def ofF : List AV → Option (List Nat)
  | [] => some []
  | v :: r => match v.tr, ofF r with
    | some (_, .f .f32 c), some l => some (c :: l)
    | _, _ => none
def ofI : List AV → Option (List Int)
  | [] => some []
  | v :: r => match v.tr, ofI r with
    | some (_, .v (.int .i64 n)), some l => some (n :: l)
    | _, _ => none
def ofB : List AV → Option (List Bool)
  | [] => some []
  | v :: r => match v.tr, ofB r with
    | some (_, .v (.bool n)), some l => some (n :: l)
    | _, _ => none
def ofT : List AV → Option (List T)
  | [] => some []
  | v :: r => match v.tr, ofT r with
    | some (false, u), some l => bif oneT u then some (u :: l) else none
    | _, _ => none
def ofL : TI → List AV → Option T
  | .f .f32, l => (ofF l).map T.fl
  | .i .i64, l => (ofI l).map T.il
  | .b, l => (ofB l).map T.bl
  | .sl _, l => (ofT l).map T.tl
  | _, _ => none

theorem ofL_TR {vs : Env} {w : World} {μ : Nat → Option Nat} {ok : Nat → Prop} {k : TI} {l : List AV} {c : T} (h : ofL k l = some c) {xs : List Value} (hx : VRl vs w μ ok l xs) :
    c.isSl = true ∧ c.len = l.length ∧ TRl w (okF vs ok) c.elems xs ∧ ∀ z ∈ xs, z.oneCell' = true := by
  have hF : ∀ (l : List AV) (xs : List Value) (m : List Nat), ofF l = some m → VRl vs w μ ok l xs → m.length = l.length ∧ TRl w (okF vs ok) (m.map (T.f .f32)) xs ∧ ∀ z ∈ xs, z.oneCell' = true := by
    intro l
    induction l with
    | nil => intro xs m h hx; rw [VRl] at hx; simp [ofF] at h; subst h; subst hx; exact ⟨rfl, by simp [TRl], by simp⟩
    | cons v r ih =>
      intro xs m h hx
      rw [VRl] at hx
      obtain ⟨x, ys, rfl, hv, hr⟩ := hx
      simp only [ofF] at h
      split at h
      · rename_i _ c l' h1 h2
        simp only [Option.some.injEq] at h; subst h
        obtain ⟨g1, g2, g3⟩ := ih ys l' h2 hr
        have ht := VR_tree hv h1
        refine ⟨by simp [g1], ?_, ?_⟩
        · rw [List.map_cons, TRl]; exact ⟨x, ys, rfl, by rw [TR] at *; exact ht, g2⟩
        · intro z hz; rcases List.mem_cons.1 hz with rfl | hz
          · exact oneT_one ht rfl
          · exact g3 z hz
      · cases h
  have hI : ∀ (l : List AV) (xs : List Value) (m : List Int), ofI l = some m → VRl vs w μ ok l xs → m.length = l.length ∧ TRl w (okF vs ok) (m.map fun n => T.v (.int .i64 n)) xs ∧ ∀ z ∈ xs, z.oneCell' = true := by
    intro l
    induction l with
    | nil => intro xs m h hx; rw [VRl] at hx; simp [ofI] at h; subst h; subst hx; exact ⟨rfl, by simp [TRl], by simp⟩
    | cons v r ih =>
      intro xs m h hx
      rw [VRl] at hx
      obtain ⟨x, ys, rfl, hv, hr⟩ := hx
      simp only [ofI] at h
      split at h
      · rename_i _ c l' h1 h2
        simp only [Option.some.injEq] at h; subst h
        obtain ⟨g1, g2, g3⟩ := ih ys l' h2 hr
        have ht := VR_tree hv h1
        refine ⟨by simp [g1], ?_, ?_⟩
        · rw [List.map_cons, TRl]; exact ⟨x, ys, rfl, by rw [TR] at *; exact ht, g2⟩
        · intro z hz; rcases List.mem_cons.1 hz with rfl | hz
          · exact oneT_one ht rfl
          · exact g3 z hz
      · cases h
  have hB : ∀ (l : List AV) (xs : List Value) (m : List Bool), ofB l = some m → VRl vs w μ ok l xs → m.length = l.length ∧ TRl w (okF vs ok) (m.map fun n => T.v (.bool n)) xs ∧ ∀ z ∈ xs, z.oneCell' = true := by
    intro l
    induction l with
    | nil => intro xs m h hx; rw [VRl] at hx; simp [ofB] at h; subst h; subst hx; exact ⟨rfl, by simp [TRl], by simp⟩
    | cons v r ih =>
      intro xs m h hx
      rw [VRl] at hx
      obtain ⟨x, ys, rfl, hv, hr⟩ := hx
      simp only [ofB] at h
      split at h
      · rename_i _ c l' h1 h2
        simp only [Option.some.injEq] at h; subst h
        obtain ⟨g1, g2, g3⟩ := ih ys l' h2 hr
        have ht := VR_tree hv h1
        refine ⟨by simp [g1], ?_, ?_⟩
        · rw [List.map_cons, TRl]; exact ⟨x, ys, rfl, by rw [TR] at *; exact ht, g2⟩
        · intro z hz; rcases List.mem_cons.1 hz with rfl | hz
          · exact oneT_one ht rfl
          · exact g3 z hz
      · cases h
  have hT : ∀ (l : List AV) (xs : List Value) (m : List T), ofT l = some m → VRl vs w μ ok l xs → m.length = l.length ∧ TRl w (okF vs ok) m xs ∧ ∀ z ∈ xs, z.oneCell' = true := by
    intro l
    induction l with
    | nil => intro xs m h hx; rw [VRl] at hx; simp [ofT] at h; subst h; subst hx; exact ⟨rfl, by simp [TRl], by simp⟩
    | cons v r ih =>
      intro xs m h hx
      rw [VRl] at hx
      obtain ⟨x, ys, rfl, hv, hr⟩ := hx
      simp only [ofT] at h
      split at h
      · rename_i c l' h1 h2
        cases hc : oneT c with
        | false => simp [hc] at h
        | true =>
          simp only [hc, cond_true, Option.some.injEq] at h; subst h
          obtain ⟨g1, g2, g3⟩ := ih ys l' h2 hr
          have ht : TR w (okF vs ok) c x := VR_tr hv h1
          refine ⟨by simp [g1], ?_, ?_⟩
          · rw [TRl]; exact ⟨x, ys, rfl, ht, g2⟩
          · intro z hz; rcases List.mem_cons.1 hz with rfl | hz
            · exact oneT_one ht hc
            · exact g3 z hz
      · cases h
  cases k with
  | f k =>
    cases k with
    | f32 =>
      simp only [ofL, Option.map_eq_some_iff] at h
      obtain ⟨m, hm, rfl⟩ := h
      obtain ⟨g1, g2, g3⟩ := hF l xs m hm hx
      exact ⟨rfl, g1, g2, g3⟩
    | f64 => simp [ofL] at h
  | i k =>
    cases k <;> simp only [ofL, Option.map_eq_some_iff, reduceCtorEq] at h
    obtain ⟨m, hm, rfl⟩ := h
    obtain ⟨g1, g2, g3⟩ := hI l xs m hm hx
    exact ⟨rfl, g1, g2, g3⟩
  | b =>
    simp only [ofL, Option.map_eq_some_iff] at h
    obtain ⟨m, hm, rfl⟩ := h
    obtain ⟨g1, g2, g3⟩ := hB l xs m hm hx
    exact ⟨rfl, g1, g2, g3⟩
  | sl e =>
    simp only [ofL, Option.map_eq_some_iff] at h
    obtain ⟨m, hm, rfl⟩ := h
    obtain ⟨g1, g2, g3⟩ := hT l xs m hm hx
    exact ⟨rfl, g1, g2, g3⟩
  | _ => simp [ofL] at h

/-- a row made of parts that are given from the first to the last -/
theorem fill_row (ys : List Value) (h1 : ∀ y ∈ ys, y.oneCell' = true) : ∀ (k : Nat) (cs : Array Value), cs.size = k + ys.length →
    ∃ cs', Instr.fill (fun i => some (i * 1, 1)) cs ((ys.zipIdx k).map fun p => (p.2, p.1)) = some cs' ∧ cs'.toList = cs.toList.take k ++ ys := by
  induction ys with
  | nil => intro k cs hs; exact ⟨cs, rfl, by simp at hs; rw [List.take_of_length_le (by simp; omega)]; simp⟩
  | cons y r ih =>
    intro k cs hs
    have hy := cells_one (h1 y (by simp))
    simp only [List.zipIdx_cons, List.map_cons, Instr.fill]
    have hlt : k < cs.size := by simp at hs; omega
    obtain ⟨cs', h2, h3⟩ := ih (fun z hz => h1 z (by simp [hz])) (k + 1) (cs.setIfInBounds k y) (by simp at hs ⊢; omega)
    refine ⟨cs', ?_, ?_⟩
    · rw [hy]
      simp only [List.size_toArray, List.length_cons, List.length_nil, Nat.mul_one]
      rw [if_neg (by simp; omega)]
      simpa [Array.zipIdx] using h2
    · rw [h3]
      simp only [Array.toList_setIfInBounds, List.take_set]
      rw [List.take_succ_eq_append_getElem (by simpa using hlt)]
      rw [List.set_append_right _ _ (by simp; omega)]
      have : k - (List.take k cs.toList).length = 0 := by simp; omega
      rw [this]; simp

section
variable {P : Program} {o : Oper} {F : List Nat} {ρ : Fr} {η : Hp} {ty : Ty}

/-- the parts of a slice literal, from the first to the last -/
def seqParts : Nat → List (Nat × Operand) → Bool
  | _, [] => true
  | k, (i, _) :: r => Nat.beq i k && seqParts (k + 1) r

theorem q_bslice {t u : TypeId} {e eu : TE} {n : Nat} {parts : Array (Nat × Operand)} {d : Nat} {c : T} (hT : TyOk P ty) (ho : o.op = .buildSlice t n parts) (hd : o.dst = some d)
    (ht : ty.get t = some e) (hsl : e.d = .sl u) (hu : ty.get u = some eu) (hs : eu.size = 1) (hz : eu.z.oneCell' = true) (hp : seqParts 0 parts.toList = true) (hn : Nat.beq n parts.size = true) (hsm : Nat.ble n 16777216 = true)
    (hc : ofL eu.d (parts.toList.map fun p => evA ρ p.2) = some c) : QRun P o F [d] ρ η (.own d 0 n) (lkH [(d, .sl u c)]) := by
  refine qrun_new fun vs w0 μ η' a w h1 h2 h3 => ?_
  have hn := Nat.eq_of_beq_eq_true hn
  have hsm := Nat.le_of_ble_eq_true hsm
  have hops : ∀ p ∈ parts.toList, p.2 ∈ o.op.operands := fun p hp => by
    rw [ho]; simp only [Op.operands, List.mem_toArray, List.mem_map]; exact ⟨p, hp, rfl⟩
  have hx : VRl vs w μ (okOf μ η') (parts.toList.map fun p => evA ρ p.2) (parts.toList.map fun p => a.eval p.2) := by
    refine (VRl_iff ..).2 ⟨by simp, fun i v hv => ?_⟩
    simp only [List.getElem?_map, Option.map_eq_some_iff] at hv
    obtain ⟨p, hp, rfl⟩ := hv
    exact ⟨a.eval p.2, by simp only [List.getElem?_map, hp, Option.map_some], h3 p.2 (hops p (List.mem_of_getElem? hp))⟩
  obtain ⟨g1, g2, g3, g4⟩ := ofL_TR hc hx
  have hus := (hT.get ht).slice hsl
  have hsz := (hT.get hu).sizeOf (w := w)
  have hzv := (hT.get hu).zero (w := w)
  rw [hs] at hsz
  have hzip : ∀ (k : Nat) (l : List (Nat × Operand)), seqParts k l = true → (l.map fun p => (p.1, a.eval p.2)) = ((l.map fun p => a.eval p.2).zipIdx k).map fun p => (p.2, p.1) := by
    intro k l
    induction l generalizing k with
    | nil => simp
    | cons p r ih =>
      obtain ⟨i, x⟩ := p
      intro h
      simp only [seqParts, Bool.and_eq_true] at h
      have := Nat.eq_of_beq_eq_true h.1
      subst this
      simp [List.zipIdx_cons, ih _ h.2]
  let zs : Array Value := if n * 1 = 0 then #[] else eu.z.cells
  obtain ⟨cs', hf, hl⟩ := fill_row (parts.toList.map fun p => a.eval p.2) g4 0 ((Array.range (n * 1)).map (zs[· % zs.size]!)) (by simp [hn])
  rw [← hzip 0 _ hp] at hf
  have hl' : cs'.toList = parts.toList.map fun p => a.eval p.2 := by simpa using hl
  have hsize : cs'.size = n := by rw [← Array.length_toList, hl']; simp [hn]
  refine ⟨.slice (some ⟨w.heap.size, 0, none⟩) n n, cs', u, ?_, fun w' μ' ok' hk hμ hw => ⟨⟨g1, .inr ⟨_, _, hμ, .inl h2.below.size, hw, ?_, ?_⟩⟩, ?_⟩⟩
  · have hpar : (parts.map fun x => (x.1, a.eval x.2)).toList = parts.toList.map fun p => (p.1, a.eval p.2) := by simp
    have hno : ¬ (n > 16777216) := by omega
    have hzv := (hT.get hu).zero (w := w)
    simp only [Nat.mul_one] at hf
    by_cases h0 : n = 0
    · have hz0 : zs = #[] := by simp [zs, h0]
      rw [hz0] at hf
      simp only [execOp, ho, Instr.buildSlice, Sem.run_bind, run_underlying hus, Result.andThen_ok, hsz, Nat.mul_one, hpar]
      simp [h0] at hf ⊢
      simp [hf, newRow]
    · have hz0 : zs = eu.z.cells := by simp [zs, h0]
      rw [hz0] at hf
      simp only [execOp, ho, Instr.buildSlice, Sem.run_bind, run_underlying hus, Result.andThen_ok, hsz, Nat.mul_one, hpar]
      simp [hno, h0, hzv] at hf ⊢
      simp [hf, newRow]
  · rw [g2, hsize]; simp [hn]
  · have : c.len = cs'.toList.length := by rw [g2, hl']; simp
    rw [this, List.take_length, hl']
    exact TRl.mono hk.treeF _ _ g3
  · rw [VR]
    exact .inr ⟨_, n, _, _, hμ, rfl, size_shape hw, by rw [hsize]; omega, Nat.le_refl _⟩

/-! cutting -/
theorem sliceBounds_run {lo hi : Option Value} {n cap : Nat} {l h : Nat} {w : World} (hlo : (lo = none ∧ l = 0) ∨ ∃ k, lo = some (.int k (l : Int))) (hhi : (hi = none ∧ h = n) ∨ ∃ k, hi = some (.int k (h : Int)))
    (h1 : l ≤ h) (h2 : h ≤ n) (h3 : n ≤ cap) : (Instr.sliceBounds true n cap lo hi none).run P w = .ok (l, h, cap) w := by
  have b : ∀ (k : IntKind) (m y : Nat) (code : BoundsCode), m ≤ y → (Instr.sliceBound (.int k (m : Int)) y code).run P w = .ok m w := fun k m y code hm => by
    simp [Instr.sliceBound, asIntOf, hm]
  rcases hlo with ⟨rfl, rfl⟩ | ⟨k, rfl⟩ <;> rcases hhi with ⟨rfl, rfl⟩ | ⟨k', rfl⟩ <;> simp [Instr.sliceBounds, b, h1, Nat.le_trans h2 h3]

theorem slice_run {t u : TypeId} {e eu : TE} (hT : TyOk P ty) (ht : ty.get t = some e) (hsl : e.d = .sl u) (hu : ty.get u = some eu) (hs : eu.size = 1) {lo hi : Option Value} {a : Option Addr} {n cap l h : Nat} {w : World}
    (hlo : (lo = none ∧ l = 0) ∨ ∃ k, lo = some (.int k (l : Int))) (hhi : (hi = none ∧ h = n) ∨ ∃ k, hi = some (.int k (h : Int))) (h1 : l ≤ h) (h2 : h ≤ n) (h3 : n ≤ cap) :
    (Instr.sliceAt t (.slice a n cap) lo hi none).run P w = .ok (.slice (if cap = l then a else a.map (·.add (l * 1))) (h - l) (cap - l)) w := by
  have hus := (hT.get ht).slice hsl
  have hsz := (hT.get hu).sizeOf (w := w)
  rw [hs] at hsz
  have hb := sliceBounds_run (P := P) (w := w) hlo hhi h1 h2 h3
  simp [Instr.sliceAt, Instr.slice, run_underlying hus, hb, hsz]

/-- a bound of a slice expression -/
def bnd (ρ : Fr) (x : Option Operand) (dflt m : Nat) : Prop := match x with
  | none => m = dflt
  | some y => ∃ k i, evA ρ y = .t (.v (.int k i)) ∧ i = (m : Int)

theorem bnd_run {vs : Env} {w : World} {μ : Nat → Option Nat} {ok : Nat → Prop} {a : Act} {x : Option Operand} {dflt m : Nat} (h : bnd ρ x dflt m) (hv : ∀ y, x = some y → VR vs w μ ok (evA ρ y) (a.eval y)) :
    (x.map a.eval = none ∧ m = dflt) ∨ ∃ k, x.map a.eval = some (.int k (m : Int)) := by
  cases x with
  | none => exact .inl ⟨rfl, h⟩
  | some y =>
    obtain ⟨k, i, h1, h2⟩ := h
    have := hv y rfl
    rw [h1, VR, TR] at this
    exact .inr ⟨k, by simp [this, h2]⟩

theorem q_slice_tree {t u : TypeId} {e eu : TE} {x : Operand} {lo hi : Option Operand} {c : T} (l h : Nat) (hT : TyOk P ty) (ho : o.op = .slice t x lo hi none)
    (ht : ty.get t = some e) (hsl : e.d = .sl u) (hu : ty.get u = some eu) (hs : eu.size = 1) {dd : Bool} (hx : (evA ρ x).tr = some (dd, c)) (hc : c.isSl = true)
    (hlo : bnd ρ lo 0 l) (hhi : bnd ρ hi c.len h) (h1 : l ≤ h) (h2 : h ≤ c.len) : QRun P o F [] ρ η (mkT dd (c.cut l h)) (lkH []) := by
  refine qrun_val fun vs w0 μ η' a w g1 g2 g3 => ?_
  have hx' := VR_tr (g3 x (by simp [ho, Op.operands])) hx
  obtain ⟨a0, n, cp, hv, hn, hncp, hcell⟩ := (TR_sl w _ c hc _).1 hx'
  have hl' := bnd_run hlo (a := a) (fun y hy => g3 y (by simp [ho, Op.operands, hy]))
  have hh' := bnd_run hhi (a := a) (fun y hy => g3 y (by simp [ho, Op.operands, hy]))
  rw [← hn] at hh' h2
  have hr := slice_run (P := P) (w := w) (a := a0) hT ht hsl hu hs hl' hh' h1 h2 hncp
  refine ⟨_, w.drawn, by simp [execOp, ho, hv, hr]; rfl, ?_⟩
  refine mkT_VR ?_
  refine (TR_sl w _ _ (by rw [T.cut_isSl]; exact hc) _).2 ⟨_, _, _, rfl, (T.cut_len c hc l h (by omega)).symm, by omega, ?_⟩
  by_cases h0 : h - l = 0
  · exact .inl h0
  · right
    rcases hcell with hz | ⟨b, off, ha, hb, hok, hcs⟩
    · omega
    · subst ha
      refine ⟨b, off + l, ?_, hb, hok, (TRs_iff ..).2 fun i v hv => ?_⟩
      · rw [if_neg (by omega)]; simp [add1]
      · rw [T.cut_elems c hc] at hv
        rw [List.getElem?_drop, List.getElem?_take] at hv
        split at hv
        · have := (TRs_iff ..).1 hcs _ _ hv
          simpa [Nat.add_assoc] using this
        · cases hv

theorem q_slice_own {t u : TypeId} {e eu : TE} {x : Operand} {lo hi : Option Operand} {id off n : Nat} (l h : Nat) (hT : TyOk P ty) (ho : o.op = .slice t x lo hi none)
    (ht : ty.get t = some e) (hsl : e.d = .sl u) (hu : ty.get u = some eu) (hs : eu.size = 1) (hx : (evA ρ x).own? = some (id, off, n))
    (hlo : bnd ρ lo 0 l) (hhi : bnd ρ hi n h) (h1 : l ≤ h) (h2 : h ≤ n) (hlt : l < n ∨ off + l = 0) : QRun P o F [] ρ η (.own id (off + l) (h - l)) (lkH []) := by
  refine qrun_val fun vs w0 μ η' a w g1 g2 g3 => ?_
  have hx' := VR_own (g3 x (by simp [ho, Op.operands])) hx
  rw [VR] at hx'
  have hl' := bnd_run hlo (a := a) (fun y hy => g3 y (by simp [ho, Op.operands, hy]))
  have hh' := bnd_run hhi (a := a) (fun y hy => g3 y (by simp [ho, Op.operands, hy]))
  rcases hx' with ⟨hμ, rfl, rfl, hv⟩ | ⟨b, cap, e0, m, hμ, hv, hshape, hm, hcap⟩
  · have hr := slice_run (P := P) (w := w) (a := none) hT ht hsl hu hs hl' hh' h1 h2 (Nat.le_refl _)
    obtain rfl : l = 0 := by omega
    obtain rfl : h = 0 := by omega
    refine ⟨.slice none 0 0, w.drawn, by simp [execOp, ho, hv, hr], ?_⟩
    rw [VR]
    exact .inl ⟨hμ, rfl, rfl, rfl⟩
  · have hr := slice_run (P := P) (w := w) (a := some ⟨b, off, none⟩) hT ht hsl hu hs hl' hh' h1 h2 hcap
    refine ⟨_, w.drawn, by simp [execOp, ho, hv, hr]; rfl, ?_⟩
    rw [VR]
    refine .inr ⟨b, cap - l, e0, m, hμ, ?_, hshape, by omega, by omega⟩
    by_cases hcl : cap = l
    · have : off + l = 0 := by omega
      have h0 : l = 0 := by omega
      subst h0
      simp [hcl]
    · rw [if_neg hcl]; simp [add1]

/-! made -/
def zeros : TI → Nat → Option T
  | .f .f32, n => some (.fl (List.replicate n 0))
  | .i .i64, n => some (.il (List.replicate n 0))
  | .b, n => some (.bl (List.replicate n false))
  | .sl _, n => some (.tl (List.replicate n (.v (.slice none 0 0))))
  | _, _ => none
/-- the zero of an element's type is the one that is taken for it -/
def zeroOk : TI → Value → Bool
  | .f .f32, .float .f32 0 => true
  | .i .i64, .int .i64 0 => true
  | .b, .bool false => true
  | .sl _, .slice none 0 0 => true
  | _, _ => false
theorem zeros_TR {w : World} {ok : Nat → Prop} {k : TI} {z : Value} {n : Nat} {c : T} (hz : zeroOk k z = true) (hc : zeros k n = some c) : c.isSl = true ∧ c.len = n ∧ TRl w ok c.elems (List.replicate n z) := by
  have key : ∀ (t : T), TR w ok t z → TRl w ok (List.replicate n t) (List.replicate n z) := fun t h => (TRl_iff ..).2 ⟨by simp, fun i u hu => by
    simp only [List.getElem?_replicate] at hu ⊢
    split at hu
    · rename_i hi; cases hu; exact ⟨z, by simp [hi], h⟩
    · cases hu⟩
  unfold zeroOk at hz
  split at hz <;> simp only [zeros, Option.some.injEq, Bool.false_eq_true] at hc hz <;> subst hc
  · refine ⟨rfl, by simp [T.len], ?_⟩
    simp only [T.elems, List.map_replicate]
    refine key _ ?_
    rw [TR]
    exact ⟨0, rfl, by rw [FR, canon, nanB_eq, width32]; simp [nanB]⟩
  · refine ⟨rfl, by simp [T.len], ?_⟩
    simp only [T.elems, List.map_replicate]; exact key _ (by rw [TR])
  · refine ⟨rfl, by simp [T.len], ?_⟩
    simp only [T.elems, List.map_replicate]; exact key _ (by rw [TR])
  · refine ⟨rfl, by simp [T.len], ?_⟩
    simp only [T.elems]; exact key _ (by rw [TR])

theorem q_make {t u : TypeId} {e eu : TE} {x y : Operand} {k k' : IntKind} {i : Int} {d : Nat} {c : T} (n : Nat) (hT : TyOk P ty) (ho : o.op = .makeSlice t x y) (hd : o.dst = some d)
    (ht : ty.get t = some e) (hsl : e.d = .sl u) (hu : ty.get u = some eu) (hs : eu.size = 1) (hz : zeroOk eu.d eu.z = true) (hx : evA ρ x = .t (.v (.int k i))) (hy : evA ρ y = .t (.v (.int k' i))) (hi : i = (n : Int))
    (hc : zeros eu.d n = some c) (hb : eu.bytes * n ≤ 281474976710656) (hb2 : n ≤ 281474976710656) : QRun P o F [d] ρ η (.own d 0 n) (lkH [(d, .sl u c)]) := by
  refine qrun_new fun vs w0 μ η' a w h1 h2 h3 => ?_
  have hx' := h3 x (by simp [ho, Op.operands])
  have hy' := h3 y (by simp [ho, Op.operands])
  rw [hx, VR, TR] at hx'; rw [hy, VR, TR] at hy'
  subst hi
  obtain ⟨inf, hinf, g1, g2, g3⟩ := (hT.get hu).info
  have hus := (hT.get ht).slice hsl
  have hb' : (inf.bytes : Int) * (n : Int) ≤ 281474976710656 := by
    rw [g2]
    have h : ((eu.bytes * n : Nat) : Int) ≤ 281474976710656 := by omega
    rwa [Int.natCast_mul] at h
  have hr := run_make (P := P) w t u inf eu.z hus hinf g3 k k' n n (by omega) (Int.le_refl _) hb' (by omega)
  simp only [Int.toNat_natCast, g1, hs, Nat.mul_one] at hr
  have hone : eu.z.cells = #[eu.z] := by
    refine cells_one ?_
    unfold zeroOk at hz
    split at hz <;> simp_all [Value.oneCell']
  rw [hone] at hr
  refine ⟨_, madeCells #[eu.z] n, u, by simp [execOp, ho, hx', hy', hr]; rfl, fun w' μ' ok' hk hμ hw => ?_⟩
  obtain ⟨q1, q2, q3⟩ := zeros_TR (w := w') (ok := okF vs ok') hz hc
  refine ⟨⟨q1, .inr ⟨_, _, hμ, .inl h2.below.size, hw, by rw [q2, size_madeCells]; exact Nat.le_refl _, ?_⟩⟩, ?_⟩
  · rw [toList_madeCells_one, q2, List.take_of_length_le (by simp)]; exact q3
  · rw [VR]
    exact .inr ⟨_, n, _, _, hμ, rfl, size_shape hw, by rw [size_madeCells]; omega, Nat.le_refl _⟩

end
end Go.Aw

set_option linter.unusedVariables false
namespace Go.Aw
open Go.RowKit (Below)

/-- a block of the symbolic heap is written in place -/
theorem HC_mod {vs : Env} {w0 w w' : World} {μ : Nat → Option Nat} {η : Hp} {i b : Nat} {B0 B : Blk} {S : List Nat} (hc : HC vs w0 μ η w) (hS : ∀ j ∈ S, j = i) (hi : η i = some B0) (hb : μ i = some b)
    (hos : w'.os = w.os) (htape : w'.tape = w.tape) (hout : w'.output = w.output) (hsz : w'.heap.size = w.heap.size)
    (hoth : ∀ c, c ≠ b → w'.heap[c]? = w.heap[c]?) (hsh : shp w' b = shp w b)
    (hB : Keeps w w' μ μ (okOf μ η) (okOf μ (hpS S (lkH [(i, B)]) η)) (· ∈ S) → BlkR vs w0.heap.size w' μ (okOf μ (hpS S (lkH [(i, B)]) η)) i B) :
    HC vs w0 μ (hpS S (lkH [(i, B)]) η) w' ∧ Keeps w w' μ μ (okOf μ η) (okOf μ (hpS S (lkH [(i, B)]) η)) (· ∈ S) := by
  have e1 : hpS S (lkH [(i, B)]) η i = some B := by simp [hpS, lkH]
  have e2 : ∀ j, j ≠ i → hpS S (lkH [(i, B)]) η j = (η j).map (scrubB S) := fun j hj => by
    have hb : Nat.beq j i = false := by
      cases h : Nat.beq j i with
      | true => exact absurd (Nat.eq_of_beq_eq_true h) hj
      | false => rfl
    have hjS : j ∉ S := fun h => hj (hS j h)
    simp [hpS, lkH, hb, hjS]
  have hdom : ∀ j, (hpS S (lkH [(i, B)]) η j).isSome ↔ (η j).isSome := fun j => by
    by_cases hj : j = i
    · subst hj; rw [e1, hi]; simp
    · rw [e2 j hj, Option.isSome_map]
  have hbase : w0.heap.size ≤ b ∨ vs.loan b := (blk_lt (hc.blk i B0 hi) hb).1
  have hk : Keeps w w' μ μ (okOf μ η) (okOf μ (hpS S (lkH [(i, B)]) η)) (· ∈ S) := by
    refine ⟨fun c hc' hok => ⟨by omega, fun j hj => hok j ((hdom j).1 hj), hoth c fun h => ?_⟩, fun j _ => rfl, fun j c _ hm s hs => ?_⟩
    · subst h; exact hok i (by rw [hi]; rfl) hb
    · by_cases hcb : c = b
      · subst hcb; rw [shape_shp, hsh, ← shape_shp]; exact hs
      · rw [← hs]; exact shape?_of_block (hoth c hcb)
  refine ⟨HC_step hc hk ⟨hos.trans hc.below.os, htape.trans hc.below.tape, hout.trans hc.below.output, by have := hc.below.size; omega, fun c hc' hl => (hoth c (fun e => by subst e; rcases hbase with h | h; omega; exact hl h)).trans (hc.below.block c hc' hl),
      fun c s hs => by
        have h1 := hc.below.shape c s hs
        by_cases hcb : c = b
        · subst hcb; rw [hsh]; exact h1
        · rw [← h1]; exact shp_of_block (hoth c hcb)⟩
    (fun j B' hj hjS hch c hm => hoth c fun h => ?_) (fun j B' hj => ?_) (fun j l c hj hl h1 h2 => hc.inj j l c ((hdom j).1 hj) ((hdom l).1 hl) h1 h2), hk⟩
  · subst h
    have : j = i := hc.inj j i c (by rw [hj]; rfl) (by rw [hi]; rfl) hm hb
    subst this; simp [lkH] at hch
  · have := lkH_mem hj
    simp at this; obtain ⟨rfl, rfl⟩ := this
    exact hB hk

theorem setCell_block {w : World} {b i : Nat} {cs : Array Value} {e : TypeId} {fz : Nat × Nat} (h : w.heap[b]? = some (.cells cs e fz)) (v : Value) :
    (w.setCell ⟨b, i, none⟩ v).heap[b]? = some (.cells (cs.setIfInBounds i v) e fz) := by
  simp [World.setCell, Array.getElem?_modify, h]
theorem setCell_other {w : World} {b i c : Nat} (hc : c ≠ b) (v : Value) : (w.setCell ⟨b, i, none⟩ v).heap[c]? = w.heap[c]? := by
  simp only [World.setCell, Array.getElem?_modify]
  rw [if_neg (fun h => hc h.symm)]

/-- one element of a content written -/
def T.put (i : Nat) : T → T → Option T
  | .f .f32 c, .fl l => some (.fl (l.set i c))
  | .v (.int .i64 n), .il l => some (.il (l.set i n))
  | .v (.bool b), .bl l => some (.bl (l.set i b))
  | .fl r, .ffl l => some (.ffl (l.set i r))
  | .gf r, .tl l => some (.tl (l.set i (.gf r)))
  | .f .f32 c, .tl l => some (.tl (l.set i (.f .f32 c)))
  | _, _ => none
theorem T.put_spec {i : Nat} {u c c' : T} (h : T.put i u c = some c') : c'.isSl = true ∧ c'.len = c.len ∧ c'.elems = c.elems.set i u ∧ oneT u = true := by
  unfold T.put at h
  split at h <;> simp only [Option.some.injEq, reduceCtorEq] at h <;> subst h <;> refine ⟨rfl, by simp [T.len], by simp [T.elems, List.map_set], rfl⟩

theorem TRl_set {w : World} {ok : Nat → Prop} {l : List T} {xs : List Value} {i : Nat} {u : T} {y : Value} (h : TRl w ok l xs) (hu : TR w ok u y) : TRl w ok (l.set i u) (xs.set i y) := by
  obtain ⟨h1, h2⟩ := (TRl_iff ..).1 h
  refine (TRl_iff ..).2 ⟨by simpa using h1, fun j t ht => ?_⟩
  rw [List.getElem?_set] at ht ⊢
  by_cases hij : i = j
  · subst hij
    simp only [if_true] at ht ⊢
    split at ht
    · rename_i hlt; cases ht; exact ⟨y, by rw [if_pos (by omega)], hu⟩
    · cases ht
  · rw [if_neg hij] at ht ⊢
    exact h2 j t ht

theorem VRl_set {vs : Env} {w : World} {μ : Nat → Option Nat} {ok : Nat → Prop} {l : List AV} {xs : List Value} {i : Nat} {u : AV} {y : Value} (h : VRl vs w μ ok l xs) (hu : VR vs w μ ok u y) : VRl vs w μ ok (l.set i u) (xs.set i y) := by
  obtain ⟨h1, h2⟩ := (VRl_iff ..).1 h
  refine (VRl_iff ..).2 ⟨by simpa using h1, fun j t ht => ?_⟩
  rw [List.getElem?_set] at ht ⊢
  by_cases hij : i = j
  · subst hij
    simp only [if_true] at ht ⊢
    split at ht
    · rename_i hlt; cases ht; exact ⟨y, by rw [if_pos (by omega)], hu⟩
    · cases ht
  · rw [if_neg hij] at ht ⊢
    exact h2 j t ht

section
variable {P : Program} {o : Oper} {F : List Nat} {ρ : Fr} {η : Hp} {ty : Ty}

theorem storeVar_one {t : TypeId} {e : TE} {w : World} {b off : Nat} {cs : Array Value} {e0 : TypeId} {y : Value} (h : TyR P t e) (hs : e.size = 1) (hy : y.oneCell' = true)
    (hb : w.heap[b]? = some (.cells cs e0 (0, 0))) (hlt : off < cs.size) : (storeVar t ⟨b, off, none⟩ y).run P w = .ok () (w.setCell ⟨b, off, none⟩ y) := by
  have hc : w.cell? ⟨b, off, none⟩ = some cs[off] := by rw [cell_of_block hb]; simp [hlt]
  have hf : w.frozen? ⟨b, off, none⟩ = false := by simp [World.frozen?, hb]
  have hst := run_store P w ⟨b, off, none⟩ y .plain hy
  rw [hc] at hst
  simp only [hf, Bool.false_eq_true, if_false] at hst
  have ha : (⟨b, off, none⟩ : Addr).add 0 = ⟨b, off, none⟩ := rfl
  have hz := h.sizeOf (w := w)
  rw [hs] at hz
  simp [storeVar, cells_one hy, hz, storeCells, ha, hst]

def scal : T → Bool
  | .f _ _ => true
  | .v _ => true
  | _ => false

/-- a store into an element of a slice of the call's own -/
theorem q_store_el {t : TypeId} {e : TE} {e0 : TypeId} {c c' : T} {u : T} {x y : Operand} {id off : Nat} {dd : Bool} (hT : TyOk P ty) (ho : o.op = .store t x y) (ht : ty.get t = some e) (hs : e.size = 1)
    (hx : evA ρ x = .bp id off) (hη : η id = some (.sl e0 c)) (hF : F.contains id = true) (hlt : off < c.len) (hy : (evA ρ y).tr = some (dd, u)) (hu : scal u = true) (hc : T.put off u c = some c') :
    QRun P o F [] ρ η .junk (lkH [(id, .sl e0 c')]) := by
  intro vs w0 μ η' a w Q K h1 h2 h3 h4
  have hx' := h3 x (by simp [ho, Op.operands])
  have hy' := VR_tree (h3 y (by simp [ho, Op.operands])) hy
  rw [hx, VR] at hx'
  obtain ⟨b, hμ, hv⟩ := hx'
  have hη' : η' id = some (.sl e0 c) := (h1 id (by simpa using hF)).trans hη
  have hB := h2.blk id _ hη'
  obtain ⟨hsl, hB⟩ := hB
  obtain ⟨p1, p2, p3, p4⟩ := T.put_spec hc
  rcases hB with ⟨hn, _⟩ | ⟨b', cs, hb', hbase, hw, hlen, hcs⟩
  · rw [hn] at hμ; cases hμ
  · rw [hb'] at hμ; cases hμ
    have hone := oneT_one hy' p4
    have hr := storeVar_one (P := P) (hT.get ht) hs hone hw (by omega : off < cs.size)
    have hw' := setCell_block (i := off) hw (a.eval y)
    have hyF : ∀ ok, TR w ok u (a.eval y) := fun ok => by
      cases u <;> simp only [scal, Bool.false_eq_true] at hu <;> rw [TR] at * <;> exact hy'
    obtain ⟨hc', hk⟩ := HC_mod (i := id) (b := b) (B := .sl e0 c') (S := []) (w' := w.setCell ⟨b, off, none⟩ (a.eval y)) h2 (by simp) hη' hb' rfl rfl rfl (by simp) (fun c hc => setCell_other hc _)
      (by rw [size_shp hw', size_shp hw]; simp) fun hk => by
        refine ⟨p1, .inr ⟨b, _, hb', hbase, hw', by rw [p2]; simpa using hlen, ?_⟩⟩
        rw [p3, p2]
        have : ((cs.setIfInBounds off (a.eval y)).toList.take c.len) = (cs.toList.take c.len).set off (a.eval y) := by rw [Array.toList_setIfInBounds, List.take_set]
        rw [this]
        exact TRl_set (TRl.mono hk.treeF _ _ hcs) (by
          have := hyF (okF vs (okOf μ η'))
          exact TR.mono hk.treeF _ _ this)
    unfold Oper.wp
    have : (execOp a.eval o).run P w = .ok .skip (w.setCell ⟨b, off, none⟩ (a.eval y)) := by simp [execOp, ho, hv, Instr.storeAt, Instr.sureAddr, hr]
    rw [this, Oper.upon_skip]
    exact h4 _ _ _ hc' hk (by rw [VR]; trivial)

/-- a store into one cell of a variable -/
theorem q_store_box {t : TypeId} {e : TE} {e0 : TypeId} {l : List AV} {x y : Operand} {id off : Nat} {v : AV} (hT : TyOk P ty) (ho : o.op = .store t x y) (ht : ty.get t = some e) (hs : e.size = 1)
    (hx : evA ρ x = .bp id off) (hη : η id = some (.box e0 l)) (hF : F.contains id = true) (hlt : Nat.blt off l.length = true) (hy : evA ρ y = v) (hv1 : oneA v = true) :
    QRun P o F [] ρ η .junk (lkH [(id, .box e0 (l.set off v))]) := by
  intro vs w0 μ η' a w Q K h1 h2 h3 h4
  have hx' := h3 x (by simp [ho, Op.operands])
  have hy' := h3 y (by simp [ho, Op.operands])
  rw [hy] at hy'
  rw [hx, VR] at hx'
  obtain ⟨b, hμ, hv⟩ := hx'
  have hlt : off < l.length := by simpa using hlt
  have hη' : η' id = some (.box e0 l) := (h1 id (by simpa using hF)).trans hη
  have hB := h2.blk id _ hη'
  obtain ⟨b', cs, hb', hbase, hw, hcs⟩ := hB
  rw [hb'] at hμ; cases hμ
  have hone := oneA_one hy' hv1
  have hlen := ((VRl_iff ..).1 hcs).1
  have hr := storeVar_one (P := P) (hT.get ht) hs hone hw (by simp at hlen; omega : off < cs.size)
  have hw' := setCell_block (i := off) hw (a.eval y)
  obtain ⟨hc', hk⟩ := HC_mod (i := id) (b := b) (B := .box e0 (l.set off v)) (S := []) (w' := w.setCell ⟨b, off, none⟩ (a.eval y)) h2 (by simp) hη' hb' rfl rfl rfl (by simp) (fun c hc => setCell_other hc _)
    (by rw [size_shp hw', size_shp hw]; simp) fun hk => by
      refine ⟨b, _, hb', hbase, hw', ?_⟩
      rw [Array.toList_setIfInBounds]
      exact VRl_set (VRl.mono hk _ _ (by simp) hcs) (VR.mono hk _ _ (by simp) hy')
  unfold Oper.wp
  have : (execOp a.eval o).run P w = .ok .skip (w.setCell ⟨b, off, none⟩ (a.eval y)) := by simp [execOp, ho, hv, Instr.storeAt, Instr.sureAddr, hr]
  rw [this, Oper.upon_skip]
  exact h4 _ _ _ hc' hk (by rw [VR]; trivial)

theorem setRow_size (w : World) (g : Nat) (cs : Array Value) : (w.setRow g cs).heap.size = w.heap.size := by simp [World.setRow]

/-- a store of a whole struct into a variable -/
theorem q_store_boxs {t : TypeId} {e : TE} {e0 : TypeId} {l l' : List AV} {x y : Operand} {id off : Nat} (hT : TyOk P ty) (ho : o.op = .store t x y) (ht : ty.get t = some e)
    (hx : evA ρ x = .bp id off) (hη : η id = some (.box e0 l)) (hF : F.contains id = true) (hy : cellsA (evA ρ y) = some l') (hs : Nat.beq e.size l'.length = true) (hlt : Nat.ble (off + l'.length) l.length = true) :
    QRun P o F [] ρ η .junk (lkH [(id, .box e0 (l.take off ++ l' ++ l.drop (off + l'.length)))]) := by
  intro vs w0 μ η' a w Q K h1 h2 h3 h4
  have hx' := h3 x (by simp [ho, Op.operands])
  obtain ⟨hy', hone⟩ := cellsA_VR hy (h3 y (by simp [ho, Op.operands]))
  rw [hx, VR] at hx'
  obtain ⟨b, hμ, hv⟩ := hx'
  have hlt := Nat.le_of_ble_eq_true hlt
  have hs := Nat.eq_of_beq_eq_true hs
  have hη' : η' id = some (.box e0 l) := (h1 id (by simpa using hF)).trans hη
  have hB := h2.blk id _ hη'
  obtain ⟨b', cs, hb', hbase, hw, hcs⟩ := hB
  rw [hb'] at hμ; cases hμ
  obtain ⟨hlen, hcs'⟩ := (VRl_iff ..).1 hcs
  obtain ⟨hlen', hy''⟩ := (VRl_iff ..).1 hy'
  simp at hlen
  have hst := run_storeCells_at P b off e0 (a.eval y).cells.toList 0 cs w hw (by rw [← hlen']; simp; omega) hone
  simp only [Nat.add_zero] at hst
  have hz := (hT.get ht).sizeOf (w := w)
  have hr : (storeVar t ⟨b, off, none⟩ (a.eval y)).run P w = .ok () (w.setRow b (cs.toList.take off ++ (a.eval y).cells.toList ++ cs.toList.drop (off + (a.eval y).cells.toList.length)).toArray) := by
    have hcsz : (a.eval y).cells.size = e.size := by rw [hs]; simpa using hlen'.symm
    simp only [storeVar, Sem.run_bind, hz, Result.andThen_ok, hcsz]
    simpa using hst
  have hw' := setRow_heap w b cs (cs.toList.take off ++ (a.eval y).cells.toList ++ cs.toList.drop (off + (a.eval y).cells.toList.length)).toArray e0 (0, 0) hw
  obtain ⟨hc', hk⟩ := HC_mod (i := id) (b := b) (B := .box e0 (l.take off ++ l' ++ l.drop (off + l'.length))) (S := []) (w' := w.setRow b (cs.toList.take off ++ (a.eval y).cells.toList ++ cs.toList.drop (off + (a.eval y).cells.toList.length)).toArray) h2 (by simp) hη' hb' rfl rfl rfl (setRow_size _ _ _)
    (fun c hc => setRow_other w b c _ hc)
    (by rw [size_shp hw', size_shp hw]; simp only [List.size_toArray, List.length_append, List.length_take, List.length_drop, ← hlen']; simp; omega) fun hk => by
      refine ⟨b, _, hb', hbase, hw', ?_⟩
      have hold := VRl.mono hk _ _ (by simp) hcs
      have hnew := VRl.mono hk _ _ (by simp) hy'
      obtain ⟨g1, g2⟩ := (VRl_iff ..).1 hold
      obtain ⟨g3, g4⟩ := (VRl_iff ..).1 hnew
      refine (VRl_iff ..).2 ⟨by simp [← hlen']; omega, fun j v hj => ?_⟩
      rcases Nat.lt_or_ge j off with hjo | hjo
      · rw [List.append_assoc, List.getElem?_append_left (by simp; omega), List.getElem?_take, if_pos hjo] at hj
        obtain ⟨z, hz, hr⟩ := g2 j v hj
        refine ⟨z, ?_, hr⟩
        rw [List.append_assoc, List.getElem?_append_left (by simp; omega), List.getElem?_take, if_pos hjo]; exact hz
      · rcases Nat.lt_or_ge j (off + l'.length) with hj2 | hj2
        · rw [List.getElem?_append_left (by simp; omega), List.getElem?_append_right (by simp; omega)] at hj
          have e1 : j - (List.take off l).length = j - off := by simp; omega
          rw [e1] at hj
          obtain ⟨z, hz, hr⟩ := g4 _ v hj
          refine ⟨z, ?_, hr⟩
          rw [List.getElem?_append_left (by simp; simp at hlen'; omega), List.getElem?_append_right (by simp; omega)]
          have e2 : j - (List.take off cs.toList).length = j - off := by simp; omega
          rw [e2]; exact hz
        · rw [List.getElem?_append_right (by simp; omega), List.getElem?_drop] at hj
          have e1 : off + l'.length + (j - (List.take off l ++ l').length) = j := by simp; omega
          rw [e1] at hj
          obtain ⟨z, hz, hr⟩ := g2 j v hj
          refine ⟨z, ?_, hr⟩
          rw [List.getElem?_append_right (by simp; simp at hlen'; omega), List.getElem?_drop]
          have e2 : off + (a.eval y).cells.toList.length + (j - (List.take off cs.toList ++ (a.eval y).cells.toList).length) = j := by simp; simp at hlen'; omega
          rw [e2]; exact hz
  unfold Oper.wp
  have : (execOp a.eval o).run P w = .ok .skip (w.setRow b (cs.toList.take off ++ (a.eval y).cells.toList ++ cs.toList.drop (off + (a.eval y).cells.toList.length)).toArray) := by simp [execOp, ho, hv, Instr.storeAt, Instr.sureAddr, hr]
  rw [this, Oper.upon_skip]
  exact h4 _ _ _ hc' hk (by rw [VR]; trivial)

end
end Go.Aw

set_option linter.unusedVariables false
namespace Go.Aw
open Go.RowKit (Below)

def T.flat : T → Bool
  | .fl _ | .il _ | .bl _ => true
  | _ => false
theorem flat_any {w : World} {ok ok' : Nat → Prop} {c : T} (hf : c.flat = true) {xs : List Value} (h : TRl w ok c.elems xs) : TRl w ok' c.elems xs := by
  obtain ⟨h1, h2⟩ := (TRl_iff ..).1 h
  refine (TRl_iff ..).2 ⟨h1, fun i u hu => ?_⟩
  obtain ⟨z, hz, hr⟩ := h2 i u hu
  refine ⟨z, hz, ?_⟩
  cases c <;> simp only [T.flat, Bool.false_eq_true] at hf <;> simp only [T.elems, List.getElem?_map, Option.map_eq_some_iff] at hu <;> obtain ⟨v, _, rfl⟩ := hu <;> rw [TR] at * <;> exact hr

def T.app : T → T → T
  | .fl a, .fl b => .fl (a ++ b)
  | .il a, .il b => .il (a ++ b)
  | .bl a, .bl b => .bl (a ++ b)
  | .tl a, .tl b => .tl (a ++ b)
  | .ffl a, .ffl b => .ffl (a ++ b)
  | a, _ => a
def T.same : T → T → Bool
  | .fl _, .fl _ | .il _, .il _ | .bl _, .bl _ | .tl _, .tl _ | .ffl _, .ffl _ => true
  | _, _ => false
theorem T.app_spec {a b : T} (h : T.same a b = true) : (T.app a b).isSl = true ∧ (T.app a b).len = a.len + b.len ∧ (T.app a b).elems = a.elems ++ b.elems ∧ b.isSl = true := by
  cases a <;> cases b <;> simp_all [T.same, T.app, T.isSl, T.len, T.elems]

theorem oneT_elems {c : T} {w : World} {ok : Nat → Prop} {xs : List Value} (h : TRl w ok c.elems xs) (ho : c.elems.all oneT = true ∨ c.flat = true ∨ ∃ l, c = .ffl l) : ∀ z ∈ xs, z.oneCell' = true := by
  obtain ⟨h1, h2⟩ := (TRl_iff ..).1 h
  have hall : ∀ u ∈ c.elems, oneT u = true := by
    rcases ho with ho | ho | ⟨l, rfl⟩
    · simpa using ho
    · intro u hu
      cases c <;> simp only [T.flat, Bool.false_eq_true] at ho <;> simp only [T.elems, List.mem_map] at hu <;> obtain ⟨v, _, rfl⟩ := hu <;> rfl
    · simp [T.elems, oneT]
  intro z hz
  obtain ⟨i, hi, hz⟩ := List.getElem_of_mem hz
  obtain ⟨z', hz', hr⟩ := h2 i c.elems[i] (by rw [List.getElem?_eq_getElem (by omega)])
  rw [List.getElem?_eq_getElem hi] at hz'; cases hz'
  rw [hz] at hr
  exact oneT_one hr (hall _ (List.getElem_mem _))

section
variable {P : Program} {o : Oper} {F : List Nat} {ρ : Fr} {η : Hp} {ty : Ty}

/-- 'x' is a slice of content 'c': a slice of the call's own, whole, or data -/
def Src (F : List Nat) (η : Hp) (x : AV) (c : T) : Prop :=
  (∃ id e, x = .own id 0 c.len ∧ η id = some (.sl e c) ∧ F.contains id = true) ∨ (∃ dd, x.tr = some (dd, c) ∧ (!dd || c.flat) = true)

theorem src_spec {vs : Env} {w0 w : World} {μ : Nat → Option Nat} {η' : Hp} {x : AV} {c : T} {y : Value} (hs : Src F η x c) (hc : c.isSl = true) (hF : ∀ i ∈ F, η' i = η i) (hh : HC vs w0 μ η' w) (hv : VR vs w μ (okOf μ η') x y) :
    ∃ ax cp news, y = .slice ax c.len cp ∧ news.length = c.len ∧ TRl w (okF vs (okOf μ η')) c.elems news ∧ (∀ n, (Builtin.firstCells 1 c.len y).run P { w with drawn := n } = .ok news.toArray { w with drawn := n }) := by
  rcases hs with ⟨id, e, rfl, hη, hf⟩ | ⟨dd, htr, hdd⟩
  · have hη' := (hF id (by simpa using hf)).trans hη
    obtain ⟨_, hB⟩ := hh.blk id _ hη'
    rw [VR] at hv
    rcases hB with ⟨hn, h0⟩ | ⟨b, cs, hb, _, hw, hlen, hcs⟩
    · rcases hv with ⟨_, _, _, rfl⟩ | ⟨b, _, _, _, hb, _⟩
      · refine ⟨none, 0, [], by rw [h0], by simp [h0], ?_, fun n => ?_⟩
        · have : c.elems = [] := List.eq_nil_of_length_eq_zero (by rw [T.len_elems, h0])
          rw [this, TRl]
        · rw [h0]
          simp [Builtin.firstCells]
      · rw [hn] at hb; cases hb
    · rcases hv with ⟨hn, _⟩ | ⟨b', cap, e1, n1, hb', rfl, _⟩
      · rw [hn] at hb; cases hb
      · rw [hb] at hb'; cases hb'
        refine ⟨_, cap, cs.toList.take c.len, rfl, by simp; omega, hcs, fun n => ?_⟩
        have hrun := run_firstCells_some (P := P) { w with drawn := n } 1 c.len ⟨b, 0, none⟩ c.len cap (cs.toList.take c.len) (by simp; omega) (fun j v hj => by
          rw [add1, Nat.zero_add]
          rw [List.getElem?_take] at hj
          split at hj
          · have := cell_of_block (w := { w with drawn := n }) hw j
            rw [this]; simpa using hj
          · cases hj)
        exact hrun
  · have ht := VR_tr hv htr
    obtain ⟨a, n, cp, rfl, hn, _, hcell⟩ := (TR_sl w _ c hc _).1 ht
    subst hn
    rcases hcell with h0 | ⟨b, off, rfl, hb, hok, hcs⟩
    · refine ⟨a, cp, [], rfl, by simp [h0], ?_, fun n => ?_⟩
      · have : c.elems = [] := List.eq_nil_of_length_eq_zero (by rw [T.len_elems, h0])
        rw [this, TRl]
      · rw [h0]
        cases a with
        | none => simp [Builtin.firstCells]
        | some a => simp [Builtin.firstCells, loadCells, loadCellsFrom]
    · have hall : ∀ (l : List T) (o : Nat), TRs w (okB vs (okOf μ η') dd) l b o → ∃ ys : List Value, TRl w (okB vs (okOf μ η') dd) l ys ∧ ∀ j z, ys[j]? = some z → w.cell? ⟨b, o + j, none⟩ = some z := by
        intro l
        induction l with
        | nil => intro o _; exact ⟨[], by rw [TRl], by simp⟩
        | cons t r ih =>
          intro o h
          rw [TRs] at h
          obtain ⟨⟨x, hx, hr⟩, hrest⟩ := h
          obtain ⟨ys, h1, h2⟩ := ih (o + 1) hrest
          refine ⟨x :: ys, by rw [TRl]; exact ⟨x, ys, rfl, hr, h1⟩, fun j z hj => ?_⟩
          cases j with
          | zero => simp at hj; subst hj; simpa using hx
          | succ j => have := h2 j z (by simpa using hj); simpa [Nat.add_assoc, Nat.add_comm 1 j] using this
      obtain ⟨ys, h1, h2⟩ := hall _ _ hcs
      have hlen : ys.length = c.len := by rw [← ((TRl_iff ..).1 h1).1, T.len_elems]
      refine ⟨_, cp, ys, rfl, hlen, ?_, fun n => ?_⟩
      · cases dd with
        | false => exact h1
        | true => exact flat_any (by simpa using hdd) h1
      · exact run_firstCells_some (P := P) { w with drawn := n } 1 c.len ⟨b, off, none⟩ c.len cp ys (by simp [hlen]) (fun j v hj => by rw [add1]; exact h2 j v hj)

theorem run_app_room (w : World) {t ty' e : TypeId} {i : TypeInfo} (ht : P.underlying t = some (.slice e)) (hi : P.info? e = some i) (h1 : i.size = 1)
    {g sLen sCap : Nat} {cur : Array Value} (hg : w.heap[g]? = some (.cells cur e (0, 0))) {x : Value} {ax : Option Addr} {m cp : Nat} (hx : x = .slice ax m cp) {news : List Value} (hl : news.length = m)
    (hf : (Builtin.firstCells 1 m x).run P w = .ok news.toArray w) (hone : ∀ u ∈ news, u.oneCell' = true) (hroom : sLen + m ≤ sCap) (hfit : sLen + m ≤ cur.size) :
    (Builtin.append_ #[t, t] ty' #[.slice (some ⟨g, 0, none⟩) sLen sCap, x]).run P w =
      .ok (.slice (some ⟨g, 0, none⟩) (sLen + m) sCap) (w.setRow g (cur.toList.take sLen ++ news ++ cur.toList.drop (sLen + m)).toArray) := by
  have hst := run_storeCells_at P g sLen e news 0 cur w hg (by rw [hl]; simpa using hfit) hone
  simp only [Nat.add_zero, hl] at hst
  subst hx
  simp [Builtin.append_, run_underlying ht, sizeOf, typeInfo, hi, h1, Builtin.lenOf, hroom, hf, add1, hst]

theorem run_app_none (w : World) {t ty' e : TypeId} {i : TypeInfo} (ht : P.underlying t = some (.slice e)) (hi : P.info? e = some i) (h1 : i.size = 1)
    {b : Option Addr} {sLen sCap : Nat} {x : Value} {ax : Option Addr} {cp : Nat} (hx : x = .slice ax 0 cp)
    (hf : (Builtin.firstCells 1 0 x).run P w = .ok #[] w) (hroom : sLen ≤ sCap) :
    (Builtin.append_ #[t, t] ty' #[.slice b sLen sCap, x]).run P w = .ok (.slice b sLen sCap) w := by
  subst hx
  cases b <;> simp [Builtin.append_, run_underlying ht, sizeOf, typeInfo, hi, h1, Builtin.lenOf, hroom, hf, storeCells]

theorem run_app_grow (w : World) {t ty' e : TypeId} {i : TypeInfo} {z : Value} (ht : P.underlying t = some (.slice e)) (hi : P.info? e = some i) (hz : i.zero = some z) (h1 : i.size = 1)
    {s : Value} {b : Option Addr} {sLen sCap : Nat} (hs : s = .slice b sLen sCap) {olds : List Value} (hfo : (Builtin.firstCells 1 sLen s).run P w.drew = .ok olds.toArray w.drew)
    {x : Value} {ax : Option Addr} {m cp : Nat} (hx : x = .slice ax m cp) {news : List Value}
    (hf : (Builtin.firstCells 1 m x).run P w.drew = .ok news.toArray w.drew)
    (hg : sCap < sLen + m) (hb : (sLen + m) * i.bytes ≤ 140737488355328) (h63 : sLen + m ≤ 140737488355328) :
    (Builtin.append_ #[t, t] ty' #[s, x]).run P w =
      .ok (.slice (some ⟨w.heap.size, 0, none⟩) (sLen + m) (grownCap w (sLen + m) sCap e))
        (w.drew.alloc (.cells (olds.toArray ++ news.toArray ++ Builtin.zeroCells z.cells (grownCap w (sLen + m) sCap e - (sLen + m))) e)) := by
  have hn : ¬ (sLen + m ≤ sCap) := by omega
  have h63' : ¬ (9223372036854775807 < ((sLen : Int) + (m : Int))) := by omega
  have h48 := growslice_fits hg hb
  have h48' : ¬ (281474976710656 < Builtin.nextslicecap (sLen + m) sCap * i.bytes) := by omega
  subst hs; subst hx
  simp [Builtin.append_, run_underlying ht, sizeOf, typeInfo, zeroValue, hi, hz, h1, Builtin.lenOf, hn, h63', h48', Question.forced, hf, hfo, newRow, grownCap]
  congr 2
  apply Array.ext'
  simp [List.append_assoc]

/-- 's = append(s, x...)', s of the call's own -/
theorem q_append {t u : TypeId} {e eu : TE} {tys : Array TypeId} {s x : Operand} {id : Nat} {e0 : TypeId} {n : Nat} {c c2 : T} (hT : TyOk P ty) (ho : o.op = .call { callee := .builtin .append, args := #[s, x], argTypes := tys }) (htys : tys = #[t, t])
    (ht : ty.get t = some e) (hsl : e.d = .sl u) (hu : ty.get u = some eu) (hs1 : eu.size = 1) (hz1 : eu.z.oneCell' = true)
    (hs : evA ρ s = .own id 0 n) (hη : η id = some (.sl u c)) (hF : F.contains id = true) (hn : c.len = n) (hx : Src F η (evA ρ x) c2) (hsame : T.same c c2 = true) (hone : c2.elems.all oneT = true ∨ c2.flat = true ∨ ∃ l, c2 = .ffl l)
    (hb : (c.len + c2.len) * eu.bytes ≤ 140737488355328) (hb2 : c.len + c2.len ≤ 140737488355328) :
    QRun P o F [id] ρ η (.own id 0 (T.app c c2).len) (lkH [(id, .sl u (T.app c c2))]) := by
  intro vs w0 μ η' a w Q K h1 h2 h3 h4
  subst htys
  have hs' := h3 s (by simp [ho, Op.operands, Call.operands])
  have hx' := h3 x (by simp [ho, Op.operands, Call.operands])
  obtain ⟨p1, p2, p3, p4⟩ := T.app_spec hsame
  obtain ⟨ax, cp, news, hxv, hl, hnews, hf⟩ := src_spec (P := P) hx p4 h1 h2 hx'
  have hη' := (h1 id (by simpa using hF)).trans hη
  have h1news := oneT_elems hnews hone
  obtain ⟨inf, hinf, g1, g2, g3⟩ := (hT.get hu).info
  have hus := (hT.get ht).slice hsl
  rw [hs1] at g1
  rw [← g2] at hb
  rw [hs, VR] at hs'
  have hexec : ∀ r, (Builtin.append_ #[t, t] o.type #[a.eval s, a.eval x]).run P w = r → (execOp a.eval o).run P w = r.andThen fun v w' => .ok (.value v) w' := fun r hr => by
    simp [execOp, ho, resolve, invoke, builtin, hr]
  have hBlk := h2.blk id _ hη'
  obtain ⟨hsl0, hB⟩ := hBlk
  -- the two ways
  have grow : ∀ (sv : Value) (b : Option Addr) (cap : Nat) (olds : List Value), a.eval s = .slice b c.len cap → cap < c.len + c2.len → olds.length = c.len → TRl w (okF vs (okOf μ η')) c.elems olds →
      (Builtin.firstCells 1 c.len (a.eval s)).run P w.drew = .ok olds.toArray w.drew → o.wp P a w K Q := by
    intro sv b cap olds hsv hcap hol holds hfo
    have hr := run_app_grow (P := P) w (ty' := o.type) hus hinf g3 g1 hsv hfo hxv (hf (w.drawn + 1)) hcap hb hb2
    let cs := olds.toArray ++ news.toArray ++ Builtin.zeroCells eu.z.cells (grownCap w (c.len + c2.len) cap u - (c.len + c2.len))
    have hbel : Below w.heap.size w (w.drew.alloc (.cells cs u)) := ((Below.refl _ _).drew).alloc (Nat.le_refl _) _
    have hnew : (w.drew.alloc (.cells cs u)).heap[w.heap.size]? = some (.cells cs u (0, 0)) := heap_alloc_new w.drew _
    have hcap2 := grownCap_ge w (c.len + c2.len) cap u
    have hcsz : cs.size = grownCap w (c.len + c2.len) cap u := by
      simp only [cs, Array.size_append, List.size_toArray, size_zeroCells, cells_one hz1, hol, hl]
      simp; omega
    obtain ⟨hc, hk⟩ := HC_new (i := id) (b := w.heap.size) (B := .sl u (T.app c c2)) h2 hbel (Nat.le_refl _) fun hk => by
      refine ⟨p1, .inr ⟨_, cs, by simp [updM], .inl h2.below.size, hnew, by rw [p2, hcsz]; exact hcap2, ?_⟩⟩
      have : cs.toList.take (T.app c c2).len = olds ++ news := by
        simp only [cs, Array.toList_append, p2]
        rw [List.take_left' (by simp [hol, hl])]
      rw [this, p3]
      obtain ⟨q1, q2⟩ := (TRl_iff ..).1 (TRl.mono hk.treeF _ _ holds)
      obtain ⟨q3, q4⟩ := (TRl_iff ..).1 (TRl.mono hk.treeF _ _ hnews)
      refine (TRl_iff ..).2 ⟨by simp [q1, q3], fun j v hj => ?_⟩
      rcases Nat.lt_or_ge j c.elems.length with h | h
      · rw [List.getElem?_append_left h] at hj
        rw [List.getElem?_append_left (by omega)]; exact q2 j v hj
      · rw [List.getElem?_append_right h] at hj
        rw [List.getElem?_append_right (by omega), ← q1]; exact q4 _ v hj
    unfold Oper.wp
    rw [hexec _ hr, Result.andThen_ok, Oper.upon_value]
    refine h4 _ _ _ hc hk ?_
    rw [VR]
    exact .inr ⟨_, _, _, _, by simp [updM], by rw [p2], size_shape hnew, by rw [hcsz]; omega, by rw [p2]; exact hcap2⟩
  rcases hB with ⟨hnil, h0⟩ | ⟨b, cs, hb', hbase, hw, hlen, hcs⟩
  · rcases hs' with ⟨_, _, _, hsv⟩ | ⟨b, _, _, _, hbb, _⟩
    · by_cases hm : c2.len = 0
      · have hf0 := hf w.drawn
        have hn0 : news = [] := List.eq_nil_of_length_eq_zero (by omega)
        subst hn0
        rw [hm] at hxv hf0
        have hr := run_app_none (P := P) w (ty' := o.type) (b := none) (sLen := 0) (sCap := 0) hus hinf g1 hxv hf0 (Nat.le_refl _)
        rw [← hsv] at hr
        have e : ∀ i, hpS [id] (lkH [(id, .sl u (T.app c c2))]) η' i = if i = id then some (.sl u (T.app c c2)) else (η' i).map (scrubB [id]) := fun i => by
          by_cases hi : i = id
          · subst hi; simp [hpS, lkH]
          · have hbq : Nat.beq i id = false := by
              cases h : Nat.beq i id with
              | true => exact absurd (Nat.eq_of_beq_eq_true h) hi
              | false => rfl
            simp [hpS, lkH, hbq, hi]
        have hdom : ∀ j, (hpS [id] (lkH [(id, .sl u (T.app c c2))]) η' j).isSome ↔ (η' j).isSome := fun j => by
          rw [e]; split
          · rename_i hj; subst hj; rw [hη']; simp
          · rw [Option.isSome_map]
        have hk : Keeps w w μ μ (okOf μ η') (okOf μ (hpS [id] (lkH [(id, .sl u (T.app c c2))]) η')) (· ∈ [id]) :=
          ⟨fun b hb hk => ⟨hb, fun j hj => hk j ((hdom j).1 hj), rfl⟩, fun _ _ => rfl, fun _ _ _ _ _ hs => hs⟩
        have hc := HC_step h2 hk h2.below (fun _ _ _ _ _ _ _ => rfl) (fun j B hj => by
          have := lkH_mem hj
          simp at this; obtain ⟨rfl, rfl⟩ := this
          exact ⟨p1, .inl ⟨hnil, by rw [p2]; omega⟩⟩) (fun i j b hi hj => h2.inj i j b ((hdom i).1 hi) ((hdom j).1 hj))
        unfold Oper.wp
        rw [hexec _ hr, Result.andThen_ok, Oper.upon_value]
        refine h4 _ _ _ hc hk ?_
        rw [VR]
        exact .inl ⟨hnil, rfl, by rw [p2]; omega, hsv⟩
      · refine grow (a.eval s) none 0 [] (by rw [hsv, h0]) (by omega) (by simp [h0]) ?_ ?_
        · have : c.elems = [] := List.eq_nil_of_length_eq_zero (by rw [T.len_elems, h0])
          rw [this, TRl]
        · rw [hsv, h0]
          simp [Builtin.firstCells]
    · rw [hnil] at hbb; cases hbb
  · rcases hs' with ⟨hnil, _⟩ | ⟨b1, cap, e1, n1, hb1, hsv, hshape, hcap, hncap⟩
    · rw [hnil] at hb'; cases hb'
    · rw [hb'] at hb1; cases hb1
      rw [size_shape hw] at hshape
      simp only [Option.some.injEq, Prod.mk.injEq] at hshape
      obtain ⟨_, rfl⟩ := hshape
      subst hn
      by_cases hroom : c.len + c2.len ≤ cap
      · have hr := run_app_room (P := P) w (ty' := o.type) hus hinf g1 hw hxv hl (hf w.drawn) h1news hroom (by omega)
        have hw' := setRow_heap w b cs (cs.toList.take c.len ++ news ++ cs.toList.drop (c.len + c2.len)).toArray u (0, 0) hw
        have hsz' : (cs.toList.take c.len ++ news ++ cs.toList.drop (c.len + c2.len)).toArray.size = cs.size := by simp [hl]; omega
        obtain ⟨hc, hk⟩ := HC_mod (i := id) (b := b) (B := .sl u (T.app c c2)) (S := [id]) (w' := w.setRow b (cs.toList.take c.len ++ news ++ cs.toList.drop (c.len + c2.len)).toArray) h2 (by simp) hη' hb' rfl rfl rfl (setRow_size _ _ _)
          (fun k hk => setRow_other w b k _ hk) (by rw [size_shp hw', size_shp hw, hsz']) fun hk => by
            refine ⟨p1, .inr ⟨b, _, hb', hbase, hw', by rw [p2, hsz']; omega, ?_⟩⟩
            have : ((cs.toList.take c.len ++ news ++ cs.toList.drop (c.len + c2.len)).toArray.toList.take (T.app c c2).len) = cs.toList.take c.len ++ news := by
              rw [p2]; exact List.take_left' (by simp [hl]; omega)
            rw [this, p3]
            obtain ⟨q1, q2⟩ := (TRl_iff ..).1 (TRl.mono hk.treeF _ _ hcs)
            obtain ⟨q3, q4⟩ := (TRl_iff ..).1 (TRl.mono hk.treeF _ _ hnews)
            refine (TRl_iff ..).2 ⟨by simp only [List.length_append, q1, q3], fun j v hj => ?_⟩
            rcases Nat.lt_or_ge j c.elems.length with h | h
            · rw [List.getElem?_append_left h] at hj
              rw [List.getElem?_append_left (by omega)]; exact q2 j v hj
            · rw [List.getElem?_append_right h] at hj
              rw [List.getElem?_append_right (by omega), ← q1]; exact q4 _ v hj
        unfold Oper.wp
        rw [hsv] at hexec
        rw [hexec _ hr, Result.andThen_ok, Oper.upon_value]
        refine h4 _ _ _ hc hk ?_
        rw [VR]
        exact .inr ⟨b, cap, u, cs.size, hb', by rw [p2], by rw [size_shape hw', hsz'], hcap, by rw [p2]; exact hroom⟩
      · refine grow (a.eval s) (some ⟨b, 0, none⟩) cap (cs.toList.take c.len) hsv (by omega) (by simp; omega) hcs ?_
        rw [hsv]
        exact run_firstCells_some (P := P) w.drew 1 c.len ⟨b, 0, none⟩ c.len cap (cs.toList.take c.len) (by simp; omega) (fun j v hj => by
          rw [add1, Nat.zero_add]
          rw [List.getElem?_take] at hj
          split at hj
          · have := cell_of_block (w := w.drew) hw j
            rw [this]; simpa using hj
          · cases hj)

end
end Go.Aw

set_option linter.unusedVariables false
namespace Go.Aw
open Go.RowKit (Below)

/-- what a call hands back -/
inductive RV where
  | t (t : T)
  | arg (i : Nat)
  | argc (i j : Nat)
  | own (j n : Nat)
  | cut (j off n : Nat)
  | agg (l : List RV)
  | tup (l : List RV)

mutual
def RRel (args : List Value) (w : World) (μ : Nat → Option Nat) (ok : Nat → Prop) : RV → Value → Prop
  | .t t, y => TR w ok t y
  | .arg i, y => args[i]? = some y
  | .argc i j, y => ∃ xs : Array Value, args[i]? = some (.agg xs) ∧ xs[j]? = some y
  | .own j n, y => (μ j = none ∧ n = 0 ∧ y = .slice none 0 0) ∨ ∃ b cap e m, μ j = some b ∧ y = .slice (some ⟨b, 0, none⟩) n cap ∧ w.shape? b = some (e, m) ∧ cap ≤ m ∧ n ≤ cap
  | .cut j off n, y => (μ j = none ∧ off = 0 ∧ n = 0 ∧ y = .slice none 0 0) ∨ ∃ b cap e m, μ j = some b ∧ y = .slice (some ⟨b, off, none⟩) n cap ∧ w.shape? b = some (e, m) ∧ off + cap ≤ m ∧ n ≤ cap
  | .agg l, y => ∃ xs : Array Value, y = .agg xs ∧ RRell args w μ ok l xs.toList
  | .tup l, y => ∃ xs : Array Value, y = .tuple xs ∧ RRell args w μ ok l xs.toList
def RRell (args : List Value) (w : World) (μ : Nat → Option Nat) (ok : Nat → Prop) : List RV → List Value → Prop
  | [], xs => xs = []
  | t :: r, xs => ∃ x ys, xs = x :: ys ∧ RRel args w μ ok t x ∧ RRell args w μ ok r ys
end

def Enters (P : Program) (f : FuncId) : Prop := ∃ fn, P.funcs[f]? = some fn ∧ fn.body.isSome = true ∧ (fn.name == "runtime.NumGoroutine") = false

/-- **A contract**: called with arguments that read as 'ts' (in whatever memory) the function returns 'rv'; the slices that it makes are the blocks 'hs', its caller's own from then on; what was there before has not changed. -/
def TCall (P : Program) (f : FuncId) (ts : List T) (rv : RV) (hs : List (Nat × Blk)) : Prop :=
  Enters P f ∧ ∀ (w : World) (args : List Value), TRl w (fun _ => True) ts args → Calls P f args.toArray w fun e w' =>
    ∃ y μ, e = .returned y ∧ HC ⟨args, w.heap.size, noLoan⟩ w μ (lkH hs) w' ∧ RRel args w' μ (okF ⟨args, w.heap.size, noLoan⟩ (okOf μ (lkH hs))) rv y

/-! ### a function's body -/

/-- numbers are taken as numbers, all else keeps its name -/
def argS (v : AV) : T → AV
  | .f k c => .t (.f k c)
  | .v x => .t (.v x)
  | _ => v
theorem argS_VR {vs : Env} {w : World} {μ : Nat → Option Nat} {ok : Nat → Prop} {v : AV} {t : T} {y : Value} (h : TR w ok t y) (hv : VR vs w μ ok v y) : VR vs w μ ok (argS v t) y := by
  cases t with
  | f k c => simp only [argS]; rw [VR]; rw [TR] at *; exact h
  | v x => simp only [argS]; rw [VR]; rw [TR] at *; exact h
  | _ => exact hv

def argCs (i : Nat) : Nat → List T → List AV
  | _, [] => []
  | j, t :: r => argS (.argc i j t) t :: argCs i (j + 1) r
def argAV (i : Nat) : T → AV
  | .agg l => .agg (argCs i 0 l)
  | t => argS (.arg i t) t
def argsL : Nat → List T → List (Nat × AV)
  | _, [] => []
  | i, t :: r => (i, argAV i t) :: argsL (i + 1) r

theorem argAV_VR {w : World} {μ : Nat → Option Nat} {ok : Nat → Prop} {args : List Value} {i : Nat} {lo : Nat → Prop} {t : T} {y : Value} (hlo : ∀ b, ok b → ¬ lo b) (hi : args[i]? = some y) (h : TR w ok t y) : VR ⟨args, w.heap.size, lo⟩ w μ ok (argAV i t) y := by
  have lt : ∀ {t : T} {y : Value}, TR w ok t y → TR w (okA ⟨args, w.heap.size, lo⟩ ok) t y := fun h => TR.mono (fun b hb hk => ⟨hb, ⟨hk, hb, hlo b hk⟩, rfl⟩) _ _ h
  have cs : ∀ (l : List T) (j : Nat) (xs : Array Value), y = .agg xs → TRl w ok l (xs.toList.drop j) → VRl ⟨args, w.heap.size, lo⟩ w μ ok (argCs i j l) (xs.toList.drop j) := by
    intro l
    induction l with
    | nil => intro j xs _ h; rw [TRl] at h; simp only [argCs]; rw [VRl]; exact h
    | cons t r ih =>
      intro j xs hy h
      rw [TRl] at h
      obtain ⟨x, ys, hx, ht, hr⟩ := h
      have hj : xs.toList[j]? = some x := by
        have := congrArg (fun l => l[0]?) hx
        simpa using this
      have hd : xs.toList.drop (j + 1) = ys := by
        have := congrArg (List.drop 1) hx
        simpa [List.drop_drop, Nat.add_comm] using this
      simp only [argCs]
      rw [VRl]
      refine ⟨x, ys, hx, ?_, ?_⟩
      · refine argS_VR ht ?_
        rw [VR]; exact ⟨⟨xs, by rw [← hy]; exact hi, by simpa using hj⟩, lt ht⟩
      · rw [← hd]; exact ih (j + 1) xs hy (by rw [hd]; exact hr)
  cases t with
  | agg l =>
    rw [TR] at h
    obtain ⟨xs, hy, hl⟩ := h
    simp only [argAV]
    rw [VR]
    exact ⟨xs, hy, by simpa using cs l 0 xs hy (by simpa using hl)⟩
  | _ => simp only [argAV]; refine argS_VR h ?_; rw [VR]; exact ⟨hi, lt h⟩

theorem argsL_lk (ts : List T) : ∀ (i n : Nat), lkF (argsL i ts) n = if n < i then .junk else match ts[n - i]? with | some t => argAV n t | none => .junk := by
  induction ts with
  | nil => intro i n; simp [argsL, lkF]
  | cons t r ih =>
    intro i n
    simp only [argsL, lkF]
    cases hb : Nat.beq n i with
    | true =>
      have := Nat.eq_of_beq_eq_true hb
      subst this; simp
    | false =>
      have hne : n ≠ i := fun h => by subst h; simp at hb
      simp only [cond_false, ih]
      by_cases h1 : n < i
      · rw [if_pos (by omega), if_pos h1]
      · rw [if_neg (by omega), if_neg h1]
        have : n - i = (n - (i + 1)) + 1 := by omega
        rw [this]; simp

theorem start_StR {w : World} {ts : List T} {args : List Value} (h : TRl w (fun _ => True) ts args) {N : Nat} (hN : ts.length ≤ N) :
    StR ⟨args, w.heap.size, noLoan⟩ N w (fun _ => none) (lkF (argsL 0 ts)) (lkH []) { tmps := args.toArray ++ Array.replicate (N - args.toArray.size) undef, defers := [] } w := by
  obtain ⟨hlen, hall⟩ := (TRl_iff ..).1 h
  refine ⟨⟨rfl, Bel.refl _ _, fun i B hB => by simp [lkH] at hB, fun i j b hi => by simp [lkH] at hi⟩, ?_, rfl, fun n => ?_⟩
  · simp; omega
  · rw [argsL_lk]
    simp only [Nat.not_lt_zero, if_false, Nat.sub_zero]
    cases ht : ts[n]? with
    | none => simp only []; rw [VR]; trivial
    | some t =>
      obtain ⟨y, hy, hr⟩ := hall n t ht
      have hlt : n < args.length := (List.getElem?_eq_some_iff.1 hy).1
      have e : (args.toArray ++ Array.replicate (N - args.toArray.size) undef).getD n undef = y := by
        simp [Array.getD_eq_getD_getElem?, Array.getElem?_append, hlt]
        have := (List.getElem?_eq_some_iff.1 hy).2
        exact this
      simp only []
      rw [e]
      exact argAV_VR (fun _ _ h => h) hy (TR.weak (fun b _ i hi => by simp [lkH] at hi) hr)

/-- the function's results stand as 'v' -/
def RetA (P : Program) (fn : Func) (v : AV) (ρ : Fr) (η : Hp) : Prop :=
  ∀ (vs : Env) (N : Nat) (w0 : World) (μ : Nat → Option Nat) (a : Act) (w : World), StR vs N w0 μ ρ η a w → ∃ y, (results fn a.tmps).run P w = .ok y w ∧ VR vs w μ (okOf μ η) v y

def resGet (tmps : Array Value) : ResultVar → Sem Value
  | .tmp t => pure (tmps.getD t undef)
  | .cell a t => do loadVar t (← asAddr (tmps.getD a undef))
theorem results_eq (fn : Func) (tmps : Array Value) : results fn tmps = (do
    let vs ← fn.results.mapM (resGet tmps)
    pure (if h : vs.size = 1 then vs[0] else .tuple vs)) := by
  unfold results
  have : (fun x => match x with
    | ResultVar.tmp t => pure (tmps.getD t undef)
    | ResultVar.cell a t => do loadVar t (← asAddr (tmps.getD a undef)) : ResultVar → Sem Value) = resGet tmps := by
    funext x; cases x <;> rfl
  rw [← this]
  rfl
def joinA : List AV → AV
  | [v] => v
  | l => .tup l

/-- one result -/
inductive ResA (ty : Ty) (ρ : Fr) (η : Hp) : ResultVar → AV → Prop
  | tmp {t : Tmp} : ResA ty ρ η (.tmp t) (ρ t)
  | cell {a : Tmp} {t : TypeId} {e : TE} {id : Nat} {e0 : TypeId} {l : List AV} (ha : ρ a = .bp id 0) (hη : η id = some (.box e0 l)) (ht : ty.get t = some e) (hk : e.d.known = true) (hg : e.d.agg = true) (hs : Nat.beq e.size l.length = true) : ResA ty ρ η (.cell a t) (.agg l)
  | cell1 {a : Tmp} {t : TypeId} {e : TE} {id : Nat} {e0 : TypeId} {v : AV} (ha : ρ a = .bp id 0) (hη : η id = some (.box e0 [v])) (ht : ty.get t = some e) (hk : e.d.known = true) (hg : e.d.agg = false) : ResA ty ρ η (.cell a t) v
inductive ResAl (ty : Ty) (ρ : Fr) (η : Hp) : List ResultVar → List AV → Prop
  | nil : ResAl ty ρ η [] []
  | cons {r : ResultVar} {v : AV} {rs : List ResultVar} {vs : List AV} (h : ResA ty ρ η r v) (hs : ResAl ty ρ η rs vs) : ResAl ty ρ η (r :: rs) (v :: vs)

theorem resA_run {P : Program} {ty : Ty} (hT : TyOk P ty) {vs : Env} {N : Nat} {w0 : World} {μ : Nat → Option Nat} {ρ : Fr} {η : Hp} {a : Act} {w : World} (hs : StR vs N w0 μ ρ η a w) {r : ResultVar} {v : AV} (h : ResA ty ρ η r v) :
    ∃ y, (resGet a.tmps r).run P w = .ok y w ∧ VR vs w μ (okOf μ η) v y := by
  cases h with
  | tmp => exact ⟨_, rfl, hs.slots _⟩
  | @cell p t e id e0 l ha hη ht hk hg hsz =>
    have hv := hs.slots p
    rw [ha, VR] at hv
    obtain ⟨b, hμ, hv⟩ := hv
    obtain ⟨b', cs, hb', _, hw, hcs⟩ := hs.hc.blk id _ hη
    rw [hb'] at hμ; cases hμ
    have hlen := ((VRl_iff ..).1 hcs).1
    have hsz := Nat.eq_of_beq_eq_true hsz
    have hr := loadVar_agg (P := P) (w := w) (b := b) (off := 0) (l := cs.toList) (hT.get ht) hk hg (by rw [hsz, hlen]) (fun j y hj => by rw [cell_of_block hw, Nat.zero_add, ← Array.getElem?_toList]; exact hj)
    refine ⟨.agg cs, ?_, by rw [VR]; exact ⟨cs, rfl, hcs⟩⟩
    simp only [resGet, hv, asAddr]
    simpa using hr
  | @cell1 p t e id e0 v ha hη ht hk hg =>
    have hv := hs.slots p
    rw [ha, VR] at hv
    obtain ⟨b, hμ, hv⟩ := hv
    obtain ⟨b', cs, hb', _, hw, hcs⟩ := hs.hc.blk id _ hη
    rw [hb'] at hμ; cases hμ
    obtain ⟨y, hy, hr⟩ := ((VRl_iff ..).1 hcs).2 0 v rfl
    have hr' := loadVar_scalar (P := P) (w := w) (b := b) (off := 0) (hT.get ht) hk hg (by rw [cell_of_block hw, ← Array.getElem?_toList]; exact hy)
    refine ⟨y, ?_, hr⟩
    simp only [resGet, hv, asAddr]
    simpa using hr'

theorem retA_of {P : Program} {ty : Ty} (hT : TyOk P ty) {fn : Func} {rs : List ResultVar} (hf : fn.results.toList = rs) {ρ : Fr} {η : Hp} {l : List AV} (h : ResAl ty ρ η rs l) :
    RetA P fn (joinA l) ρ η := by
  intro vs N w0 μ a w hs
  have key : ∀ (rs : List ResultVar) (l : List AV), ResAl ty ρ η rs l → ∃ ys : List Value, (rs.mapM (resGet a.tmps)).run P w = .ok ys w ∧ VRl vs w μ (okOf μ η) l ys := by
    intro rs l h
    induction h with
    | nil => exact ⟨[], by simp, by rw [VRl]⟩
    | @cons r v rs vs' h _ ih =>
      obtain ⟨y, hy, hv⟩ := resA_run hT hs h
      obtain ⟨ys, hys, hvs⟩ := ih
      refine ⟨y :: ys, ?_, by rw [VRl]; exact ⟨y, ys, rfl, hv, hvs⟩⟩
      rw [List.mapM_cons]
      simp only [Sem.run_bind, hy, Result.andThen_ok, hys, Sem.run_pure]
  obtain ⟨ys, hys, hvs⟩ := key rs l h
  have hr : (fn.results.mapM (resGet a.tmps)).run P w = .ok ys.toArray w := by
    have : fn.results = rs.toArray := by rw [← hf]
    rw [this, List.mapM_toArray, Sem.run_map, hys]; rfl
  have hlen := ((VRl_iff ..).1 hvs).1
  rw [results_eq]
  simp only [Sem.run_bind, hr, Result.andThen_ok]
  match l, ys, hvs, hlen with
  | [], [], hvs, _ => exact ⟨.tuple #[], by simp, by simp only [joinA]; rw [VR]; exact ⟨#[], rfl, hvs⟩⟩
  | [v], [y], hvs, _ =>
    rw [VRl] at hvs
    obtain ⟨x, zs, e, hv, _⟩ := hvs
    simp only [List.cons.injEq] at e
    obtain ⟨rfl, rfl⟩ := e
    exact ⟨y, by simp, hv⟩
  | v :: v' :: l, y :: y' :: ys, hvs, _ =>
    refine ⟨.tuple (y :: y' :: ys).toArray, by simp, ?_⟩
    simp only [joinA]
    rw [VR]
    exact ⟨_, rfl, hvs⟩

/-- how the state's own results become the caller's -/
inductive RetRel (π : Nat → Option Nat) : AV → RV → Prop
  | t {t : T} : RetRel π (.t t) (.t t)
  | arg {i : Nat} {t : T} : RetRel π (.arg i t) (.arg i)
  | argc {i j : Nat} {t : T} : RetRel π (.argc i j t) (.argc i j)
  | own {id j n : Nat} (h : π j = some id) : RetRel π (.own id 0 n) (.own j n)
  | cut {id j off n : Nat} (h : π j = some id) : RetRel π (.own id off n) (.cut j off n)
  | emp {c : T} (h : c.isSl = true) (hn : c.len = 0) : RetRel π .emp (.t c)
  | nilc {j off n : Nat} (h : π j = none) (ho : off = 0) (hn : n = 0) : RetRel π (.t (.v (.slice none 0 0))) (.cut j off n)
  | nil {j n : Nat} (h : π j = none) (hn : n = 0) : RetRel π (.t (.v (.slice none 0 0))) (.own j n)
  | agg {l : List AV} {m : List RV} (h : l.length = m.length) (hs : ∀ (i : Nat) (v : AV) (r : RV), l[i]? = some v → m[i]? = some r → RetRel π v r) : RetRel π (.agg l) (.agg m)
  | tup {l : List AV} {m : List RV} (h : l.length = m.length) (hs : ∀ (i : Nat) (v : AV) (r : RV), l[i]? = some v → m[i]? = some r → RetRel π v r) : RetRel π (.tup l) (.tup m)

theorem RRell_iff (args : List Value) (w : World) (μ : Nat → Option Nat) (ok : Nat → Prop) (l : List RV) (xs : List Value) :
    RRell args w μ ok l xs ↔ l.length = xs.length ∧ ∀ (i : Nat) (v : RV), l[i]? = some v → ∃ x, xs[i]? = some x ∧ RRel args w μ ok v x := by
  induction l generalizing xs with
  | nil => cases xs <;> simp [RRell]
  | cons t r ih =>
    rw [RRell]
    constructor
    · rintro ⟨x, ys, rfl, hx, hr⟩
      obtain ⟨h1, h2⟩ := (ih ys).1 hr
      refine ⟨by simp [h1], fun i u hu => ?_⟩
      cases i with
      | zero => simp at hu; subst hu; exact ⟨x, rfl, hx⟩
      | succ i => simpa using h2 i u (by simpa using hu)
    · rintro ⟨h1, h2⟩
      cases xs with
      | nil => simp at h1
      | cons x ys =>
        obtain ⟨x', hx', h⟩ := h2 0 t rfl
        simp at hx'; subst hx'
        exact ⟨_, _, rfl, h, (ih ys).2 ⟨by simpa using h1, fun i u hu => by simpa using h2 (i + 1) u (by simpa using hu)⟩⟩

theorem retRel_RRel {vs : Env} {w : World} {μ : Nat → Option Nat} {ok ok' : Nat → Prop} {π : Nat → Option Nat} (hok : ∀ b, ok b → ok' b) {v : AV} {r : RV} (h : RetRel π v r) :
    ∀ {y : Value}, VR vs w μ ok v y → RRel vs.a w (fun j => (π j).bind μ) (okF vs ok') r y := by
  induction h with
  | t => intro y hy; rw [VR] at hy; rw [RRel]; exact TR.weak (fun b hb => ⟨hok b hb.1, hb.2⟩) hy
  | arg => intro y hy; rw [VR] at hy; rw [RRel]; exact hy.1
  | argc => intro y hy; rw [VR] at hy; rw [RRel]; exact hy.1
  | own h =>
    intro y hy
    rw [VR] at hy
    rw [RRel]
    simp only [h, Option.bind_some]
    rcases hy with ⟨h1, _, h2, h3⟩ | ⟨b, cap, e, n, h1, h2, h3, h4, h5⟩
    · exact .inl ⟨h1, h2, h3⟩
    · exact .inr ⟨b, cap, e, n, h1, h2, h3, by omega, h5⟩
  | nil h hn =>
    intro y hy
    rw [VR, TR] at hy
    rw [RRel]
    exact .inl ⟨by simp [h], hn, hy⟩
  | cut h =>
    intro y hy
    rw [VR] at hy
    rw [RRel]
    simp only [h, Option.bind_some]
    exact hy
  | emp h hn =>
    intro y hy
    rw [VR] at hy
    obtain ⟨a, rfl⟩ := hy
    rw [RRel]
    exact (TR_sl w _ _ h _).2 ⟨a, 0, 0, rfl, hn.symm, Nat.le_refl _, .inl rfl⟩
  | nilc h ho hn =>
    intro y hy
    rw [VR, TR] at hy
    rw [RRel]
    exact .inl ⟨by simp [h], ho, hn, hy⟩
  | agg h hs ih =>
    intro y hy
    rw [VR] at hy
    obtain ⟨xs, rfl, hx⟩ := hy
    obtain ⟨h1, h2⟩ := (VRl_iff ..).1 hx
    rw [RRel]
    refine ⟨xs, rfl, (RRell_iff ..).2 ⟨by rw [← h, h1], fun i r hr => ?_⟩⟩
    rename_i l m
    have hi : i < l.length := by rw [h]; exact (List.getElem?_eq_some_iff.1 hr).1
    obtain ⟨x, hx, hv⟩ := h2 i l[i] (by simp [hi])
    exact ⟨x, hx, ih i _ r (by simp [hi]) hr hv⟩
  | tup h hs ih =>
    intro y hy
    rw [VR] at hy
    obtain ⟨xs, rfl, hx⟩ := hy
    obtain ⟨h1, h2⟩ := (VRl_iff ..).1 hx
    rw [RRel]
    refine ⟨xs, rfl, (RRell_iff ..).2 ⟨by rw [← h, h1], fun i r hr => ?_⟩⟩
    rename_i l m
    have hi : i < l.length := by rw [h]; exact (List.getElem?_eq_some_iff.1 hr).1
    obtain ⟨x, hx, hv⟩ := h2 i l[i] (by simp [hi])
    exact ⟨x, hx, ih i _ r (by simp [hi]) hr hv⟩

/-- the blocks handed back -/
def wkO (π : Nat → Option Nat) (η : Hp) : List (Nat × Blk) → Prop
  | [] => True
  | (j, B) :: r => (match π j with
      | some id => η id = some B
      | none => ∃ e c, B = .sl e c ∧ c.isSl = true ∧ c.len = 0) ∧ wkO π η r
def noBox : List (Nat × Blk) → Bool
  | [] => true
  | (_, .sl _ _) :: r => noBox r
  | _ => false
def injO (π : Nat → Option Nat) (l : List (Nat × Blk)) : Prop := ∀ i j a, (lkH l i).isSome → (lkH l j).isSome → π i = some a → π j = some a → i = j

theorem wkO_lk {π : Nat → Option Nat} {η : Hp} {l : List (Nat × Blk)} (h : wkO π η l) (i : Nat) (B : Blk) (hl : lkH l i = some B) : match π i with
      | some id => η id = some B
      | none => ∃ e c, B = .sl e c ∧ c.isSl = true ∧ c.len = 0 := by
  induction l with
  | nil => simp [lkH] at hl
  | cons p r ih =>
    obtain ⟨s, v⟩ := p
    simp only [lkH] at hl
    cases hb : Nat.beq i s with
    | true => simp only [hb, cond_true, Option.some.injEq] at hl; subst hl; rw [Nat.eq_of_beq_eq_true hb]; exact h.1
    | false => simp only [hb, cond_false] at hl; exact ih h.2 hl
theorem noBox_lk {l : List (Nat × Blk)} (h : noBox l = true) (i : Nat) (B : Blk) (hl : lkH l i = some B) : ∃ e c, B = .sl e c := by
  induction l with
  | nil => simp [lkH] at hl
  | cons p r ih =>
    obtain ⟨s, v⟩ := p
    cases v with
    | box e l => simp [noBox] at h
    | nest e L vis rem => simp [noBox] at h
    | sl e c =>
      simp only [lkH] at hl
      cases hb : Nat.beq i s with
      | true => simp only [hb, cond_true, Option.some.injEq] at hl; subst hl; exact ⟨e, c, rfl⟩
      | false => simp only [hb, cond_false] at hl; exact ih (by simpa [noBox] using h) hl

def RetQ (P : Program) (fn : Func) (rv : RV) (hs : List (Nat × Blk)) (e : Exit) (ρ : Fr) (η : Hp) : Prop :=
  (e = .normal ∨ e = .ret) ∧ ∃ v π, RetA P fn v ρ η ∧ RetRel π v rv ∧ wkO π η hs ∧ injO π hs

/-- **A contract out of the walk of the body.** -/
theorem tcall_of {P : Program} {f : FuncId} {fn : Func} {c : Code} {ts : List T} {rv : RV} {hs : List (Nat × Blk)} (hf : P.funcs[f]? = some fn) (hb : fn.body = some c) (hn : (fn.name == "runtime.NumGoroutine") = false)
    (hN : ts.length ≤ fn.ntmps) (hbox : noBox hs = true) (h : AWp P fn.ntmps c (RetQ P fn rv hs) (lkF (argsL 0 ts)) (lkH [])) : TCall P f ts rv hs := by
  refine ⟨⟨fn, hf, by rw [hb]; rfl, hn⟩, fun w args hargs => ?_⟩
  refine calls_of_wp hf hb (wp_mono (h _ _ _ _ _ (start_StR hargs hN)) ?_)
  rintro e a' w' ⟨ρ', η', μ', ⟨he, v, π, hR, hrel, hwk, hinj⟩, hst⟩
  obtain ⟨y, hy, hv⟩ := hR _ _ _ _ _ _ hst
  have hok : ∀ b, okOf μ' η' b → okOf (fun j => (π j).bind μ') (lkH hs) b := fun b hb i hi => by
    obtain ⟨B, hB⟩ := Option.isSome_iff_exists.1 hi
    have := wkO_lk hwk i B hB
    cases hp : π i with
    | none => simp [hp]
    | some id => rw [hp] at this; simp only [hp, Option.bind_some]; exact hb id (by rw [this]; rfl)
  have fin : a'.defers = [] ∧ ∃ v, (results fn a'.tmps).run P w' = .ok v w' ∧ ∃ y μ, (Ending.returned v) = .returned y ∧ HC ⟨args, w.heap.size, noLoan⟩ w μ (lkH hs) w' ∧ RRel args w' μ (okF ⟨args, w.heap.size, noLoan⟩ (okOf μ (lkH hs))) rv y := by
    refine ⟨hst.defers, y, hy, y, fun j => (π j).bind μ', rfl, ⟨rfl, hst.hc.below, fun i B hB => ?_, fun i j b hi hj h1 h2 => ?_⟩, ?_⟩
    · have hw := wkO_lk hwk i B hB
      obtain ⟨e0, c0, rfl⟩ := noBox_lk hbox i B hB
      cases hp : π i with
      | none =>
        rw [hp] at hw
        obtain ⟨e, c, heq, h1, h2⟩ := hw
        cases heq
        exact ⟨h1, .inl ⟨by simp [hp], h2⟩⟩
      | some id =>
        rw [hp] at hw
        obtain ⟨g0, g⟩ := hst.hc.blk id _ hw
        refine ⟨g0, ?_⟩
        simp only [hp, Option.bind_some]
        refine Or.imp (fun x => x) ?_ g
        rintro ⟨b, cs, h1, h2, h3, h4, h5⟩
        exact ⟨b, cs, h1, h2, h3, h4, TRl.mono (fun b hb hk => ⟨hb, ⟨hok b hk.1, hk.2⟩, rfl⟩) _ _ h5⟩
    · obtain ⟨B, hB⟩ := Option.isSome_iff_exists.1 hi
      obtain ⟨B', hB'⟩ := Option.isSome_iff_exists.1 hj
      have hwi := wkO_lk hwk i B hB
      have hwj := wkO_lk hwk j B' hB'
      cases hpi : π i with
      | none => simp [hpi] at h1
      | some a =>
        cases hpj : π j with
        | none => simp [hpj] at h2
        | some a' =>
          rw [hpi] at hwi; rw [hpj] at hwj
          simp only [hpi, Option.bind_some] at h1
          simp only [hpj, Option.bind_some] at h2
          have := hst.hc.inj a a' b (by rw [hwi]; rfl) (by rw [hwj]; rfl) h1 h2
          subst this
          exact hinj i j a hi hj hpi hpj
    · exact retRel_RRel hok hrel hv
  rcases he with rfl | rfl <;> exact fin

end Go.Aw

set_option linter.unusedVariables false
namespace Go.Aw
open Go.RowKit (Below)

theorem gf_fl {w : World} {ok : Nat → Prop} {l : List Nat} {y : Value} (h : TR w ok (.gf l) y) : TRf w ok l y := by
  rw [TR] at h
  obtain ⟨a, n, c, rfl, hn, hc, h⟩ := h
  refine ⟨a, n, c, rfl, hn, hc, h.imp id ?_⟩
  rintro ⟨b, cs, e, ha, hb, hok, hw, hcs, hi⟩
  exact ⟨b, 0, ha, hb, hok, fun i hin => by obtain ⟨x, hx, hf⟩ := hi i hin; exact ⟨x, by rw [cell_of_block hw, Nat.zero_add]; exact hx, hf⟩⟩
theorem grow_TR {w : World} {ok : Nat → Prop} {l : List (List Nat)} {y : Value} (h : TR w ok (.tl (l.map T.gf)) y) : TR w ok (.ffl l) y := by
  rw [TR] at *
  obtain ⟨a, n, c, rfl, hn, hc, h⟩ := h
  rw [List.length_map] at hn
  refine ⟨a, n, c, rfl, hn, hc, h.imp id ?_⟩
  rintro ⟨b, o, ha, hb, hok, hi⟩
  refine ⟨b, o, ha, hb, hok, fun i hin => ?_⟩
  have hlt : i < l.length := by omega
  obtain ⟨x, hx, hr⟩ := (TRs_iff ..).1 hi i (.gf l[i]) (by simp [hlt])
  exact ⟨x, hx, by have := gf_fl hr; simpa [List.getD_eq_getElem?_getD, hlt] using this⟩

mutual
/-- 'v' reads as 't' -/
inductive ToT (F : List Nat) (η : Hp) : AV → T → Prop
  | tr {v : AV} {d : Bool} {t : T} (h : v.tr = some (d, t)) : ToT F η v t
  | own {id n : Nat} {e : TypeId} {c : T} (h : η id = some (.sl e c)) (hF : F.contains id = true) (hn : c.len = n) : ToT F η (.own id 0 n) c
  | cut {id off n : Nat} {e : TypeId} {c t : T} (h : η id = some (.sl e c)) (hF : F.contains id = true) (hn : off + n ≤ c.len) (ht : t = c.cut off (off + n)) : ToT F η (.own id off n) t
  | emp {c : T} (h : c.isSl = true) (hn : c.len = 0) : ToT F η .emp c
  | argo {i id off n : Nat} {t : T} (h : ToT F η (.own id off n) t) : ToT F η (.argo i id off n) t
  | nil {c : T} (h : c.isSl = true) (hn : c.len = 0) : ToT F η (.t (.v (.slice none 0 0))) c
  | box {id off : Nat} {e : TypeId} {l : List AV} {ts : List T} (h : η id = some (.box e l)) (hF : F.contains id = true) (hs : ToTs F η (l.drop off) ts) : ToT F η (.bp id off) (.ref ts)
  | agg {l : List AV} {ts : List T} (hs : ToTs F η l ts) : ToT F η (.agg l) (.agg ts)
  | fn {f : FuncId} {l : List AV} {ts : List T} (hs : ToTs F η l ts) : ToT F η (.fn f l) (.fn f ts)
  | grow {v : AV} {l : List (List Nat)} (h : ToT F η v (.tl (l.map T.gf))) : ToT F η v (.ffl l)
inductive ToTs (F : List Nat) (η : Hp) : List AV → List T → Prop
  | nil : ToTs F η [] []
  | cons {v : AV} {t : T} {r : List AV} {ts : List T} (h : ToT F η v t) (hs : ToTs F η r ts) : ToTs F η (v :: r) (t :: ts)
end

theorem TRs_of_TRl {w : World} {ok : Nat → Prop} {b : Nat} {cs : Array Value} {e : TypeId} {fz : Nat × Nat} (hw : w.heap[b]? = some (.cells cs e fz)) : ∀ (l : List T) (o : Nat), (∀ i t, l[i]? = some t → ∃ x, cs[o + i]? = some x ∧ TR w ok t x) → TRs w ok l b o := by
  intro l o h
  refine (TRs_iff ..).2 fun i t ht => ?_
  obtain ⟨x, hx, hr⟩ := h i t ht
  exact ⟨x, by rw [cell_of_block hw]; exact hx, hr⟩

mutual
theorem toT_TR' {F : List Nat} {η : Hp} {vs : Env} {w0 w : World} {μ : Nat → Option Nat} {η' : Hp} {ok2 : Nat → Prop} (hF : ∀ i ∈ F, η' i = η i) (hc : HC vs w0 μ η' w) (hk1 : ∀ b, okOf μ η' b → ok2 b) (hk2 : ∀ i ∈ F, ∀ b, μ i = some b → (η' i).isSome → ok2 b) :
    ∀ {v : AV} {t : T}, ToT F η v t → ∀ {y : Value}, VR vs w μ (okOf μ η') v y → TR w ok2 t y
  | _, _, .tr h, y, hv => TR.weak hk1 (VR_tree hv h)
  | _, _, .grow h, y, hv => grow_TR (toT_TR' hF hc hk1 hk2 h hv)
  | _, _, .argo h, y, hv => toT_TR' hF hc hk1 hk2 h (VR_own hv rfl)
  | _, _, .own (id := id) (c := c) h hf hn, y, hv => by
    have hη := (hF id (by simpa using hf)).trans h
    obtain ⟨hsl, hB⟩ := hc.blk id _ hη
    rw [VR] at hv
    refine (TR_sl w _ c hsl y).2 ?_
    rcases hB with ⟨hn0, h0⟩ | ⟨b, cs, hb, _, hw, hlen, hcs⟩
    · rcases hv with ⟨_, _, _, rfl⟩ | ⟨b, _, _, _, hb, _⟩
      · exact ⟨none, 0, 0, rfl, h0.symm, Nat.le_refl _, .inl rfl⟩
      · rw [hn0] at hb; cases hb
    · rcases hv with ⟨hn0, _⟩ | ⟨b', cap, e1, n1, hb', rfl, hs1, hs2, hs3⟩
      · rw [hn0] at hb; cases hb
      · rw [hb] at hb'; cases hb'
        refine ⟨_, _, _, rfl, hn.symm, hs3, .inr ⟨b, 0, rfl, (Array.getElem?_eq_some_iff.1 hw).1, hk2 id (by simpa using hf) b hb (by rw [hη]; rfl), TRs_of_TRl hw _ _ fun i t ht => ?_⟩⟩
        obtain ⟨x, hx, hr⟩ := ((TRl_iff ..).1 hcs).2 i t ht
        rw [List.getElem?_take] at hx
        split at hx
        · exact ⟨x, by rw [Nat.zero_add]; simpa using hx, TR.weak (fun b hb => hk1 b hb.1) hr⟩
        · cases hx
  | _, _, .cut (id := id) (off := off) (n := n) (c := c) h hf hn ht, y, hv => by
    subst ht
    have hη := (hF id (by simpa using hf)).trans h
    obtain ⟨hsl, hB⟩ := hc.blk id _ hη
    rw [VR] at hv
    refine (TR_sl w _ _ (by rw [T.cut_isSl]; exact hsl) y).2 ?_
    rw [T.cut_len c hsl _ _ hn]
    rcases hB with ⟨hn0, h0⟩ | ⟨b, cs, hb, _, hw, hlen, hcs⟩
    · rcases hv with ⟨_, _, hz, rfl⟩ | ⟨b, _, _, _, hb, _⟩
      · exact ⟨none, 0, 0, rfl, by omega, Nat.le_refl _, .inl rfl⟩
      · rw [hn0] at hb; cases hb
    · rcases hv with ⟨hn0, _⟩ | ⟨b', cap, e1, n1, hb', rfl, hs1, hs2, hs3⟩
      · rw [hn0] at hb; cases hb
      · rw [hb] at hb'; cases hb'
        refine ⟨_, _, _, rfl, by omega, hs3, .inr ⟨b, off, rfl, (Array.getElem?_eq_some_iff.1 hw).1, hk2 id (by simpa using hf) b hb (by rw [hη]; rfl), TRs_of_TRl hw _ _ fun i t ht => ?_⟩⟩
        rw [T.cut_elems c hsl] at ht
        rw [List.getElem?_drop, List.getElem?_take] at ht
        split at ht
        · obtain ⟨x, hx, hr⟩ := ((TRl_iff ..).1 hcs).2 _ t ht
          rw [List.getElem?_take] at hx
          split at hx
          · exact ⟨x, by simpa using hx, TR.weak (fun b hb => hk1 b hb.1) hr⟩
          · cases hx
        · cases ht
  | _, _, .emp (c := c) h hn, y, hv => by
    rw [VR] at hv
    obtain ⟨a, rfl⟩ := hv
    exact (TR_sl w _ c h _).2 ⟨a, 0, 0, rfl, hn.symm, Nat.le_refl _, .inl rfl⟩
  | _, _, .nil (c := c) h hn, y, hv => by
    rw [VR, TR] at hv
    subst hv
    exact (TR_sl w _ c h _).2 ⟨none, 0, 0, rfl, hn.symm, Nat.le_refl _, .inl rfl⟩
  | _, _, .box (id := id) (off := off) (l := l) (ts := ts) h hf hs, y, hv => by
    have hη := (hF id (by simpa using hf)).trans h
    obtain ⟨b, cs, hb, _, hw, hcs⟩ := hc.blk id _ hη
    rw [VR] at hv
    obtain ⟨b', hb', rfl⟩ := hv
    rw [hb] at hb'; cases hb'
    rw [TR]
    refine ⟨b, off, rfl, (Array.getElem?_eq_some_iff.1 hw).1, hk2 id (by simpa using hf) b hb (by rw [hη]; rfl), TRs_of_TRl hw _ _ ?_⟩
    have hd : VRl vs w μ (okOf μ η') (l.drop off) (cs.toList.drop off) := by
      obtain ⟨h1, h2⟩ := (VRl_iff ..).1 hcs
      refine (VRl_iff ..).2 ⟨by simp only [List.length_drop, h1], fun i v hv => ?_⟩
      rw [List.getElem?_drop] at hv ⊢
      exact h2 _ v hv
    have := (TRl_iff ..).1 (toTs_TR' hF hc hk1 hk2 hs hd)
    intro i t ht
    obtain ⟨x, hx, hr⟩ := this.2 i t ht
    rw [List.getElem?_drop] at hx
    exact ⟨x, by simpa using hx, hr⟩
  | _, _, .agg hs, y, hv => by
    rw [VR] at hv
    obtain ⟨xs, rfl, hx⟩ := hv
    rw [TR]
    exact ⟨xs, rfl, toTs_TR' hF hc hk1 hk2 hs hx⟩
  | _, _, .fn hs, y, hv => by
    rw [VR] at hv
    obtain ⟨xs, rfl, hx⟩ := hv
    rw [TR]
    exact ⟨xs, rfl, toTs_TR' hF hc hk1 hk2 hs hx⟩
theorem toTs_TR' {F : List Nat} {η : Hp} {vs : Env} {w0 w : World} {μ : Nat → Option Nat} {η' : Hp} {ok2 : Nat → Prop} (hF : ∀ i ∈ F, η' i = η i) (hc : HC vs w0 μ η' w) (hk1 : ∀ b, okOf μ η' b → ok2 b) (hk2 : ∀ i ∈ F, ∀ b, μ i = some b → (η' i).isSome → ok2 b) :
    ∀ {l : List AV} {ts : List T}, ToTs F η l ts → ∀ {ys : List Value}, VRl vs w μ (okOf μ η') l ys → TRl w ok2 ts ys
  | _, _, .nil, ys, hv => by rw [VRl] at hv; rw [TRl]; exact hv
  | _, _, .cons h hs, ys, hv => by
    rw [VRl] at hv
    obtain ⟨x, zs, rfl, hx, hr⟩ := hv
    rw [TRl]
    exact ⟨x, zs, rfl, toT_TR' hF hc hk1 hk2 h hx, toTs_TR' hF hc hk1 hk2 hs hr⟩
end

/-! ### the call -/

def cid (d j : Nat) : Nat := d + 1000 * j
mutual
/-- the result as the caller sees it -/
def resV (d : Nat) (avs : List AV) : RV → AV
  | .t t => .t t
  | .arg i => avs.getD i .junk
  | .argc i j => match avs.getD i .junk with
    | .agg l => l.getD j .junk
    | _ => .junk
  | .own j n => .own (cid d j) 0 n
  | .cut j off n => .own (cid d j) off n
  | .agg l => .agg (resVl d avs l)
  | .tup l => .tup (resVl d avs l)
def resVl (d : Nat) (avs : List AV) : List RV → List AV
  | [] => []
  | v :: r => resV d avs v :: resVl d avs r
end
def cids (d : Nat) : List (Nat × Blk) → List Nat
  | [] => []
  | (j, _) :: r => cid d j :: cids d r
def cblk (d : Nat) : List (Nat × Blk) → List (Nat × Blk)
  | [] => []
  | (j, B) :: r => (cid d j, B) :: cblk d r

theorem mem_cids {d i : Nat} {hs : List (Nat × Blk)} : i ∈ cids d hs ↔ ∃ j B, (j, B) ∈ hs ∧ i = cid d j := by
  induction hs with
  | nil => simp [cids]
  | cons p r ih =>
    obtain ⟨j, B⟩ := p
    simp only [cids, List.mem_cons, ih]
    constructor
    · rintro (rfl | ⟨j', B', h, rfl⟩)
      · exact ⟨j, B, .inl rfl, rfl⟩
      · exact ⟨j', B', .inr h, rfl⟩
    · rintro ⟨j', B', h | h, rfl⟩
      · cases h; exact .inl rfl
      · exact .inr ⟨j', B', h, rfl⟩
theorem lkH_some {hs : List (Nat × Blk)} {j : Nat} {B : Blk} (h : (j, B) ∈ hs) : (lkH hs j).isSome := by
  induction hs with
  | nil => simp at h
  | cons p r ih =>
    obtain ⟨k, B'⟩ := p
    simp only [lkH]
    cases hb : Nat.beq j k with
    | true => rfl
    | false =>
      rcases List.mem_cons.1 h with h | h
      · cases h; simp at hb
      · exact ih h
theorem lkH_cblk {d j : Nat} {hs : List (Nat × Blk)} : lkH (cblk d hs) (cid d j) = lkH hs j := by
  induction hs with
  | nil => rfl
  | cons p r ih =>
    obtain ⟨k, B⟩ := p
    simp only [cblk, lkH, ih]
    have : Nat.beq (cid d j) (cid d k) = Nat.beq j k := by
      cases hb : Nat.beq j k with
      | true => rw [Nat.eq_of_beq_eq_true hb]; simp
      | false =>
        cases h : Nat.beq (cid d j) (cid d k) with
        | false => rfl
        | true =>
          have := Nat.eq_of_beq_eq_true h
          unfold cid at this
          have : j = k := by omega
          subst this; simp at hb
    rw [this]
theorem lkH_cblk_none {d i : Nat} {hs : List (Nat × Blk)} (h : i ∉ cids d hs) : lkH (cblk d hs) i = none := by
  cases hl : lkH (cblk d hs) i with
  | none => rfl
  | some B =>
    exfalso
    have := lkH_mem hl
    have key : ∀ (hs : List (Nat × Blk)), (i, B) ∈ cblk d hs → i ∈ cids d hs := by
      intro hs
      induction hs with
      | nil => simp [cblk]
      | cons p r ih =>
        obtain ⟨k, B'⟩ := p
        simp only [cblk, cids, List.mem_cons, Prod.mk.injEq]
        rintro (⟨rfl, _⟩ | h)
        · exact .inl rfl
        · exact .inr (ih h)
    exact h (key hs this)

mutual
def ownsB (hs : List (Nat × Blk)) : RV → Bool
  | .own j _ => (lkH hs j).isSome
  | .cut j _ _ => (lkH hs j).isSome
  | .agg l => ownsBl hs l
  | .tup l => ownsBl hs l
  | _ => true
def ownsBl (hs : List (Nat × Blk)) : List RV → Bool
  | [] => true
  | v :: r => ownsB hs v && ownsBl hs r
end

theorem getD_junk {l : List AV} {i : Nat} {v : AV} (h : l[i]? = some v) : l.getD i .junk = v := by simp [List.getD_eq_getElem?_getD, h]
theorem getD_junk' {l : List AV} {i : Nat} (h : l[i]? = none) : l.getD i .junk = .junk := by simp [List.getD_eq_getElem?_getD, h]

mutual
theorem resV_VR {vs : Env} {w' : World} {μ' μr : Nat → Option Nat} {ok' okr : Nat → Prop} {S : List Nat} {avs : List AV} {ys : List Value} {hs : List (Nat × Blk)} {d : Nat}
    (havs : VRl vs w' μ' ok' avs ys) (hok : ∀ b, okr b → okF vs ok' b) (hμ : ∀ j, Nat → (lkH hs j).isSome → μ' (cid d j) = μr j) :
    ∀ (rv : RV), ownsB hs rv = true → ∀ (y : Value), RRel ys w' μr okr rv y → VR vs w' μ' ok' (resV d avs rv) y
  | .t t, _, y, h => by rw [RRel] at h; simp only [resV]; rw [VR]; exact TR.weak hok h
  | .arg i, _, y, h => by
    rw [RRel] at h
    simp only [resV]
    obtain ⟨h1, h2⟩ := (VRl_iff ..).1 havs
    cases hv : avs[i]? with
    | none => rw [getD_junk' hv, VR]; trivial
    | some v =>
      obtain ⟨x, hx, hr⟩ := h2 i v hv
      rw [h] at hx; cases hx
      rw [getD_junk hv]; exact hr
  | .argc i j, _, y, h => by
    rw [RRel] at h
    obtain ⟨xs, hxs, hy⟩ := h
    simp only [resV]
    obtain ⟨h1, h2⟩ := (VRl_iff ..).1 havs
    cases hv : avs[i]? with
    | none => rw [getD_junk' hv]; simp only []; rw [VR]; trivial
    | some v =>
      rw [getD_junk hv]
      obtain ⟨x, hx, hr⟩ := h2 i v hv
      rw [hxs] at hx; cases hx
      cases v with
      | agg l =>
        simp only []
        rw [VR] at hr
        obtain ⟨zs, hz, hl⟩ := hr
        cases hz
        cases hl2 : l[j]? with
        | none => rw [getD_junk' hl2, VR]; trivial
        | some u =>
          rw [getD_junk hl2]
          obtain ⟨z, hz, hr⟩ := ((VRl_iff ..).1 hl).2 j u hl2
          have : xs.toList[j]? = some y := by simpa using hy
          rw [this] at hz; cases hz
          exact hr
      | _ => simp only []; rw [VR]; trivial
  | .own j n, ho, y, h => by
    rw [RRel] at h
    simp only [ownsB] at ho
    simp only [resV]
    rw [VR, hμ j n ho]
    rcases h with ⟨h1, h2, h3⟩ | ⟨b, cap, e, m, h1, h2, h3, h4, h5⟩
    · exact .inl ⟨h1, rfl, h2, h3⟩
    · exact .inr ⟨b, cap, e, m, h1, h2, h3, by omega, h5⟩
  | .cut j off n, ho, y, h => by
    rw [RRel] at h
    simp only [ownsB] at ho
    simp only [resV]
    rw [VR, hμ j n ho]
    exact h
  | .agg l, ho, y, h => by
    rw [RRel] at h
    obtain ⟨xs, rfl, hx⟩ := h
    simp only [resV]; rw [VR]
    exact ⟨xs, rfl, resV_VRl (S := S) havs hok hμ l (by simpa [ownsB] using ho) _ hx⟩
  | .tup l, ho, y, h => by
    rw [RRel] at h
    obtain ⟨xs, rfl, hx⟩ := h
    simp only [resV]; rw [VR]
    exact ⟨xs, rfl, resV_VRl (S := S) havs hok hμ l (by simpa [ownsB] using ho) _ hx⟩
theorem resV_VRl {vs : Env} {w' : World} {μ' μr : Nat → Option Nat} {ok' okr : Nat → Prop} {S : List Nat} {avs : List AV} {ys : List Value} {hs : List (Nat × Blk)} {d : Nat}
    (havs : VRl vs w' μ' ok' avs ys) (hok : ∀ b, okr b → okF vs ok' b) (hμ : ∀ j, Nat → (lkH hs j).isSome → μ' (cid d j) = μr j) :
    ∀ (l : List RV), ownsBl hs l = true → ∀ (xs : List Value), RRell ys w' μr okr l xs → VRl vs w' μ' ok' (resVl d avs l) xs
  | [], _, xs, h => by rw [RRell] at h; simp only [resVl]; rw [VRl]; exact h
  | v :: r, ho, xs, h => by
    rw [RRell] at h
    obtain ⟨x, zs, rfl, hx, hr⟩ := h
    simp only [ownsBl, Bool.and_eq_true] at ho
    simp only [resVl]; rw [VRl]
    exact ⟨x, zs, rfl, resV_VR (S := S) havs hok hμ v ho.1 x hx, resV_VRl (S := S) havs hok hμ r ho.2 zs hr⟩
end

section
variable {P : Program} {o : Oper} {F : List Nat} {ρ : Fr} {η : Hp} {ty : Ty}


theorem invoke_run {f : FuncId} {fn : Func} {w : World} (hf : P.funcs[f]? = some fn) (hb : fn.body.isSome = true) (hn : (fn.name == "runtime.NumGoroutine") = false) (args : Array Value) : (callFunc f args).run P w = .ok (.enter f args) w := by
  have hn' : ¬ (fn.name = "runtime.NumGoroutine") := by simpa using hn
  have hb' : fn.body ≠ none := by intro h; rw [h] at hb; cases hb
  simp [callFunc, hf, hn', hb']

/-- a function's value: of this frame, or handed over -/
inductive IsFn : AV → FuncId → List AV → Prop
  | fn {f : FuncId} {l : List AV} : IsFn (.fn f l) f l
  | tr {v : AV} {d : Bool} {f : FuncId} {l : List T} (h : v.tr = some (d, .fn f l)) : IsFn v f (l.map (mkT d))
theorem IsFn.vr {vs : Env} {w : World} {μ : Nat → Option Nat} {ok : Nat → Prop} {v : AV} {f : FuncId} {l : List AV} (h : IsFn v f l) {y : Value} (hv : VR vs w μ ok v y) : VR vs w μ ok (.fn f l) y := by
  cases h with
  | fn => exact hv
  | tr h =>
    have := VR_tr hv h
    rw [TR] at this
    obtain ⟨xs, rfl, hx⟩ := this
    rw [VR]
    refine ⟨xs, rfl, (VRl_iff ..).2 ?_⟩
    obtain ⟨h1, h2⟩ := (TRl_iff ..).1 hx
    refine ⟨by simpa using h1, fun i u hu => ?_⟩
    simp only [List.getElem?_map, Option.map_eq_some_iff] at hu
    obtain ⟨t, ht, rfl⟩ := hu
    obtain ⟨x, hx1, hx2⟩ := h2 i t ht
    exact ⟨x, hx1, mkT_VR hx2⟩

theorem q_callf {f : FuncId} {caps : List AV} {args : Array Operand} {tys : Array TypeId} {cx : Operand} {ts : List T} {rv : RV} {hs : List (Nat × Blk)} {d : Nat} (hc : TCall P f ts rv hs) (ho : o.op = .call { callee := .value cx, args := args, argTypes := tys })
    (hd : o.dst = some d) (hcx : IsFn (evA ρ cx) f caps) (hbox : noBox hs = true) (hown : ownsB hs rv = true) (hts : ToTs F η (args.toList.map (evA ρ) ++ caps) ts) :
    QRun P o F (cids d hs) ρ η (resV d (scrubL (cids d hs) (args.toList.map (evA ρ) ++ caps)) rv) (lkH (cblk d hs)) := by
  intro vs w0 μ η' a w Q K h1 h2 h3 h4
  obtain ⟨⟨fn, hfn, hbody, hname⟩, hcall⟩ := hc
  have hcv := h3 cx (by simp [ho, Op.operands, Call.operands])
  replace hcv := hcx.vr hcv
  rw [VR] at hcv
  obtain ⟨caps', hcv, hcaps⟩ := hcv
  have hargs : VRl vs w μ (okOf μ η') (args.toList.map (evA ρ) ++ caps) (args.toList.map a.eval ++ caps'.toList) := by
    obtain ⟨g1, g2⟩ := (VRl_iff ..).1 hcaps
    refine (VRl_iff ..).2 ⟨by simp [g1], fun i v hv => ?_⟩
    rcases Nat.lt_or_ge i args.toList.length with hi | hi
    · rw [List.getElem?_append_left (by simpa using hi)] at hv ⊢
      simp only [List.getElem?_map, Option.map_eq_some_iff] at hv
      obtain ⟨x, hx, rfl⟩ := hv
      exact ⟨a.eval x, by simp only [List.getElem?_map, hx, Option.map_some], h3 x (by simp [ho, Op.operands, Call.operands]; exact .inr (by simpa using List.mem_of_getElem? hx))⟩
    · rw [List.getElem?_append_right (by simpa using hi)] at hv ⊢
      simp only [List.length_map] at hv ⊢
      exact g2 _ v hv
  have hT := toTs_TR' (ok2 := fun _ => True) h1 h2 (fun _ _ => trivial) (fun _ _ _ _ _ => trivial) hts hargs
  have hcs := hcall w _ hT
  have hrun : (execOp a.eval o).run P w = .ok (.enter f (args.toList.map a.eval ++ caps'.toList).toArray) w := by
    have e : (args.toList.map a.eval ++ caps'.toList).toArray = args.map a.eval ++ caps' := by apply Array.ext'; simp
    rw [e]
    simp [execOp, ho, resolve, Deferred.ofValue, hcv, invoke, invoke_run hfn hbody hname]
  unfold Oper.wp
  rw [hrun, Oper.upon_enter]
  refine hcs.mono ?_
  rintro e w' ⟨y, μr, rfl, hcr, hrr⟩
  simp only []
  have hbel := hcr.below.below (fun _ h => h)
  let S := cids d hs
  let μ' : Nat → Option Nat := fun i => if i ∈ S then μr ((i - d) / 1000) else μ i
  have hcid : ∀ j, (cid d j - d) / 1000 = j := fun j => by unfold cid; omega
  have hin : ∀ j, (lkH hs j).isSome → cid d j ∈ S := fun j hj => by
    obtain ⟨B, hB⟩ := Option.isSome_iff_exists.1 hj
    exact mem_cids.2 ⟨j, B, lkH_mem hB, rfl⟩
  have hμn : ∀ j, (lkH hs j).isSome → μ' (cid d j) = μr j := fun j hj => by simp only [μ', if_pos (hin j hj), hcid]
  have hge : ∀ j b, (lkH hs j).isSome → μr j = some b → w.heap.size ≤ b := fun j b hj hm => by
    obtain ⟨B, hB⟩ := Option.isSome_iff_exists.1 hj
    exact (blk_lt (hcr.blk j B hB) hm).1.elim id False.elim
  have hold : ∀ i b, (η' i).isSome → μ i = some b → b < w.heap.size := fun i b hi hm => by
    obtain ⟨B, hB⟩ := Option.isSome_iff_exists.1 hi
    exact (blk_lt (h2.blk i B hB) hm).2
  let η2 := hpS S (lkH (cblk d hs)) η'
  have e2 : ∀ i, i ∉ S → η2 i = (η' i).map (scrubB S) := fun i hi => hpS_off (lkH_cblk_none hi) hi
  have hk : Keeps w w' μ μ' (okOf μ η') (okOf μ' η2) (· ∈ S) := by
    refine ⟨fun b hb hok => ⟨by have := hbel.size; omega, fun i hi => ?_, hbel.block b hb⟩, fun i hi => by simp only [μ', if_neg hi], fun i b hi hm s hs => ?_⟩
    · by_cases hiS : i ∈ S
      · obtain ⟨j, B, hj, rfl⟩ := mem_cids.1 hiS
        have hjs := lkH_some hj
        rw [hμn j hjs]
        intro h
        have := hge j b hjs h; omega
      · rw [e2 i hiS, Option.isSome_map] at hi
        simp only [μ', if_neg hiS]; exact hok i hi
    · have hb : b < w.heap.size := by
        rcases Nat.lt_or_ge b w.heap.size with h | h
        · exact h
        · simp [World.shape?, Array.getElem?_eq_none h] at hs
      rw [← hs]; exact shape?_of_block (hbel.block b hb)
  have hok2 : ∀ b, okF ⟨args.toList.map a.eval ++ caps'.toList, w.heap.size, noLoan⟩ (okOf μr (lkH hs)) b → okF vs (okOf μ' η2) b := fun b ⟨hb1, hb2⟩ => by
    replace hb2 : w.heap.size ≤ b := hb2.elim id False.elim
    refine ⟨fun i hi => ?_, .inl (by rw [h2.base]; exact Nat.le_trans h2.below.size hb2)⟩
    by_cases hiS : i ∈ S
    · obtain ⟨j, B, hj, rfl⟩ := mem_cids.1 hiS
      have hjs := lkH_some hj
      rw [hμn j hjs]; exact hb1 j hjs
    · rw [e2 i hiS, Option.isSome_map] at hi
      simp only [μ', if_neg hiS]
      intro h
      have := hold i b hi h
      have hb2' : w.heap.size ≤ b := hb2
      omega
  have hHC : HC vs w0 μ' η2 w' := by
    refine HC_step h2 hk (h2.below.grow hbel) (fun i B hi _ _ b hm => hbel.block b (hold i b (by rw [hi]; rfl) hm)) (fun i B hi => ?_) (fun i j b hi hj hm1 hm2 => ?_)
    · have hiS : i ∈ S := Classical.byContradiction fun h => by rw [lkH_cblk_none h] at hi; cases hi
      obtain ⟨j, B0, hj, rfl⟩ := mem_cids.1 hiS
      rw [lkH_cblk] at hi
      have hjs : (lkH hs j).isSome := by rw [hi]; rfl
      obtain ⟨e0, c0, rfl⟩ := noBox_lk hbox j B hi
      obtain ⟨q1, q2⟩ := hcr.blk j _ hi
      refine ⟨q1, ?_⟩
      rw [hμn j hjs]
      refine Or.imp (fun x => x) ?_ q2
      rintro ⟨b, cs, r1, r2, r3, r4, r5⟩
      exact ⟨b, cs, r1, .inl (Nat.le_trans h2.below.size (r2.elim id False.elim)), r3, r4, TRl.mono (fun b hb hk => ⟨hb, hok2 b hk, rfl⟩) _ _ r5⟩
    · by_cases hiS : i ∈ S
      · obtain ⟨k, B, hkm, rfl⟩ := mem_cids.1 hiS
        have hks := lkH_some hkm
        rw [hμn k hks] at hm1
        by_cases hjS : j ∈ S
        · obtain ⟨l, B', hlm, rfl⟩ := mem_cids.1 hjS
          have hls := lkH_some hlm
          rw [hμn l hls] at hm2
          rw [hcr.inj k l b hks hls hm1 hm2]
        · have hj' : (η2 j).isSome := hj
          rw [e2 j hjS, Option.isSome_map] at hj'
          simp only [μ', if_neg hjS] at hm2
          have := hold j b hj' hm2
          have := hge k b hks hm1; omega
      · have hi' : (η2 i).isSome := hi
        rw [e2 i hiS, Option.isSome_map] at hi'
        simp only [μ', if_neg hiS] at hm1
        have h5 := hold i b hi' hm1
        by_cases hjS : j ∈ S
        · obtain ⟨l, B', hlm, rfl⟩ := mem_cids.1 hjS
          have hls := lkH_some hlm
          rw [hμn l hls] at hm2
          have := hge l b hls hm2; omega
        · have hj' : (η2 j).isSome := hj
          rw [e2 j hjS, Option.isSome_map] at hj'
          simp only [μ', if_neg hjS] at hm2
          exact h2.inj i j b hi' hj' hm1 hm2
  refine h4 y μ' w' hHC hk ?_
  -- the arguments a0s they stand now
  have havs : VRl vs w' μ' (okOf μ' η2) (scrubL S (args.toList.map (evA ρ) ++ caps)) (args.toList.map a.eval ++ caps'.toList) := VRl.mono hk _ _ (scrub_refsL S _) (VRl.scrub _ _ hargs)
  exact resV_VR (S := S) havs hok2 (fun j n hj => hμn j hj) rv hown y hrr
theorem q_call {f : FuncId} {caps : List AV} {args : Array Operand} {tys : Array TypeId} {cx : Operand} {ts : List T} {rv : RV} {hs : List (Nat × Blk)} {d : Nat} (hc : TCall P f ts rv hs) (ho : o.op = .call { callee := .value cx, args := args, argTypes := tys })
    (hd : o.dst = some d) (hcx : evA ρ cx = .fn f caps) (hbox : noBox hs = true) (hown : ownsB hs rv = true) (hts : ToTs F η (args.toList.map (evA ρ) ++ caps) ts) :
    QRun P o F (cids d hs) ρ η (resV d (scrubL (cids d hs) (args.toList.map (evA ρ) ++ caps)) rv) (lkH (cblk d hs)) := q_callf hc ho hd (by rw [hcx]; exact .fn) hbox hown hts
end
end Go.Aw

set_option linter.unusedVariables false
namespace Go.Aw
open Go.RowKit (Below)

def scrubF (S : List Nat) : List (Nat × AV) → List (Nat × AV)
  | [] => []
  | (n, v) :: r => (n, scrub S v) :: scrubF S r
def scrubHL (S : List Nat) : List (Nat × Blk) → List (Nat × Blk)
  | [] => []
  | (i, B) :: r => bif S.contains i then scrubHL S r else (i, scrubB S B) :: scrubHL S r

theorem lkF_scrub (S : List Nat) (α : List (Nat × AV)) (n : Nat) : lkF (scrubF S α) n = scrub S (lkF α n) := by
  induction α with
  | nil => simp [scrubF, lkF, scrub]
  | cons p r ih =>
    obtain ⟨s, v⟩ := p
    simp only [scrubF, lkF, ih]
    cases Nat.beq n s <;> rfl
theorem lkH_scrub (S : List Nat) (H : List (Nat × Blk)) (i : Nat) : lkH (scrubHL S H) i = if S.contains i then none else (lkH H i).map (scrubB S) := by
  induction H with
  | nil => simp [scrubHL, lkH]
  | cons p r ih =>
    obtain ⟨s, B⟩ := p
    simp only [scrubHL]
    cases hs : S.contains s with
    | true =>
      simp only [cond_true, ih, lkH]
      cases hb : Nat.beq i s with
      | true => rw [Nat.eq_of_beq_eq_true hb, hs]; simp
      | false => rfl
    | false =>
      simp only [cond_false, lkH, ih]
      cases hb : Nat.beq i s with
      | true => rw [Nat.eq_of_beq_eq_true hb, hs]; simp
      | false => rfl
theorem lkH_append (a b : List (Nat × Blk)) (i : Nat) : lkH (a ++ b) i = match lkH a i with | some B => some B | none => lkH b i := by
  induction a with
  | nil => rfl
  | cons p r ih =>
    obtain ⟨s, B⟩ := p
    simp only [List.cons_append, lkH, ih]
    cases Nat.beq i s <;> rfl

theorem step_F (d : Nat) (v : AV) (α : List (Nat × AV)) : stepF [] (some d) v (lkF α) = lkF ((d, v) :: α) := by
  funext n
  simp only [stepF, updF, scrub_nil, lkF]
  cases hb : Nat.beq n d with
  | true => rw [Nat.eq_of_beq_eq_true hb]; simp
  | false =>
    have : n ≠ d := fun h => by subst h; simp at hb
    simp [this]
theorem step_F0 (v : AV) (α : List (Nat × AV)) : stepF [] none v (lkF α) = lkF α := by
  funext n; simp only [stepF, updF, scrub_nil]
theorem step_FS (S : List Nat) (d : Nat) (v : AV) (α : List (Nat × AV)) : stepF S (some d) v (lkF α) = lkF ((d, v) :: scrubF S α) := by
  funext n
  simp only [stepF, updF, lkF, lkF_scrub]
  cases hb : Nat.beq n d with
  | true => rw [Nat.eq_of_beq_eq_true hb]; simp
  | false =>
    have : n ≠ d := fun h => by subst h; simp at hb
    simp [this]
theorem step_H (ch H : List (Nat × Blk)) : hpS [] (lkH ch) (lkH H) = lkH (ch ++ H) := by
  funext i
  rw [lkH_append]
  unfold hpS
  cases lkH ch i with
  | some B => rfl
  | none => simp only [List.contains_nil]; cases lkH H i <;> simp [scrubB_nil]
theorem step_HS (S : List Nat) (ch H : List (Nat × Blk)) : hpS S (lkH ch) (lkH H) = lkH (ch ++ scrubHL S H) := by
  funext i
  rw [lkH_append, lkH_scrub]
  unfold hpS
  cases lkH ch i <;> rfl

/-- does the operation read the blocks of its operands? -/
def readsB : Op → Bool
  | .move _ | .assign _ | .pick _ _ _ | .indexAddr _ _ _ | .fieldAddr _ _ _ | .extract _ _ => false
  | _ => true
/-- what an operation meets -/
def opF (o : Oper) (ρ : Fr) (η : Hp) : List Nat :=
  let xs := idsL (o.op.operands.toList.map (evA ρ))
  let inn := xs.flatMap fun i => match η i with | some B => B.ids | none => []
  (match o.dst with | some d => [d, cid d 1, cid d 2, cid d 3, kk d, kk (cid d 1), kk (cid d 2), kk (cid d 3)] | none => []) ++ xs.map kk ++ bif readsB o.op then xs ++ inn ++ inn.map kk else []
/-- what it changes -/
def chC (S : List Nat) (l : List Nat) : List Nat := S ++ S.map kk ++ l

def fst' : List (Nat × Blk) → List Nat
  | [] => []
  | (i, _) :: r => i :: fst' r

section
variable {P : Program} {N : Nat} {ops : Array Oper} {dr : Bool} {K : Fr → Hp → Prop} {o : Oper} {l : List Oper} {α : List (Nat × AV)} {H ch : List (Nat × Blk)} {v : AV} {tab : List (List Nat × List Nat)}

/-- the walk of a region; 'pre': what the operations that are done met and changed, the last one first -/
def LexD (P : Program) (N : Nat) (ops : Array Oper) (dr : Bool) (K : Fr → Hp → Prop) (pre : List (List Nat × List Nat)) (l : List Oper) (ρ : Fr) (η : Hp) : Prop :=
  ∃ tab, Lex P N ops dr K tab l ρ η ∧ (!dr || tabB .any (reachT .any ops.toList []) 0 (ops.toList.zip (pre.reverse ++ tab))) = true

variable {pre : List (List Nat × List Nat)}
theorem lex_nil {ρ : Fr} {η : Hp} (hc : (!dr || tabB .any (reachT .any ops.toList []) 0 (ops.toList.zip pre.reverse)) = true) (h : K ρ η) : LexD P N ops dr K pre [] ρ η := ⟨[], ⟨rfl, h⟩, by simpa using hc⟩

/-- a step of a walk in a region whose order is fixed: nothing is noted -/
theorem px_q {d : Nat} {v' : AV} (hg : guardA ops (lkF α) o = some true) (hd : o.dst = some d) (hN : Nat.blt d N = true) (hq : QRun P o (opF o (lkF α) (lkH H)) [] (lkF α) (lkH H) v (lkH []))
    (hv : v = v') (h : LexD P N ops false K [] l (lkF ((d, v') :: α)) (lkH H)) : LexD P N ops false K [] (o :: l) (lkF α) (lkH H) := by
  subst hv
  obtain ⟨tab, h1, _⟩ := h
  have e : hpS [] (lkH []) (lkH H) = lkH H := hpS_nil _
  exact ⟨_ :: tab, ⟨opF o (lkF α) (lkH H), [], [], v, [], tab, rfl, ⟨by rw [hd]; exact hN, .inl ⟨hg, hq, rfl⟩⟩, by rw [hd, step_F, e]; exact h1⟩, rfl⟩
theorem px_st {H' : List (Nat × Blk)} (hg : guardA ops (lkF α) o = some true) (hd : o.dst = none) (hq : QRun P o (opF o (lkF α) (lkH H)) [] (lkF α) (lkH H) v (lkH ch))
    (hH : ch ++ H = H') (h : LexD P N ops false K [] l (lkF α) (lkH H')) : LexD P N ops false K [] (o :: l) (lkF α) (lkH H) := by
  subst hH
  obtain ⟨tab, h1, _⟩ := h
  exact ⟨_ :: tab, ⟨opF o (lkF α) (lkH H), fst' ch, [], v, ch, tab, rfl, ⟨by rw [hd]; rfl, .inl ⟨hg, hq, rfl⟩⟩, by rw [hd, step_F0, step_H]; exact h1⟩, rfl⟩
theorem px_s {d : Nat} {S : List Nat} {v' : AV} {α' : List (Nat × AV)} {H' : List (Nat × Blk)} (hg : guardA ops (lkF α) o = some true) (hd : o.dst = some d) (hN : Nat.blt d N = true) (hq : QRun P o (opF o (lkF α) (lkH H)) S (lkF α) (lkH H) v (lkH ch))
    (hv : v = v') (hα : scrubF S α = α') (hH : ch ++ scrubHL S H = H') (h : LexD P N ops false K [] l (lkF ((d, v') :: α')) (lkH H')) : LexD P N ops false K [] (o :: l) (lkF α) (lkH H) := by
  subst hv; subst hα; subst hH
  obtain ⟨tab, h1, _⟩ := h
  exact ⟨_ :: tab, ⟨opF o (lkF α) (lkH H), chC S (fst' ch), S, v, ch, tab, rfl, ⟨by rw [hd]; exact hN, .inl ⟨hg, hq, rfl⟩⟩, by rw [hd, step_FS, step_HS]; exact h1⟩, rfl⟩

/-- a step of a walk in a region whose order is drawn -/
theorem dx_q {d : Nat} {v' : AV} (hg : guardA ops (lkF α) o = some true) (hd : o.dst = some d) (hN : Nat.blt d N = true) (hq : QRun P o (opF o (lkF α) (lkH H)) [] (lkF α) (lkH H) v (lkH []))
    (hv : v = v') (hf : footB (opF o (lkF α) (lkH H)) [] [] (o.op.operands.toList.map (evA (lkF α))) (lkH H) v' [] = true) (h : LexD P N ops true K ((opF o (lkF α) (lkH H), []) :: pre) l (lkF ((d, v') :: α)) (lkH H)) :
    LexD P N ops true K pre (o :: l) (lkF α) (lkH H) := by
  subst hv
  obtain ⟨tab, h1, h2⟩ := h
  have e : hpS [] (lkH []) (lkH H) = lkH H := hpS_nil _
  exact ⟨_ :: tab, ⟨_, _, [], v, [], tab, rfl, ⟨by rw [hd]; exact hN, .inl ⟨hg, hq, by simpa using hf⟩⟩, by rw [hd, step_F, e]; exact h1⟩, by simpa using h2⟩
theorem dx_st {H' : List (Nat × Blk)} (hg : guardA ops (lkF α) o = some true) (hd : o.dst = none) (hq : QRun P o (opF o (lkF α) (lkH H)) [] (lkF α) (lkH H) v (lkH ch))
    (hH : ch ++ H = H') (hf : footB (opF o (lkF α) (lkH H)) (fst' ch) [] (o.op.operands.toList.map (evA (lkF α))) (lkH H) v ch = true) (h : LexD P N ops true K ((opF o (lkF α) (lkH H), fst' ch) :: pre) l (lkF α) (lkH H')) :
    LexD P N ops true K pre (o :: l) (lkF α) (lkH H) := by
  subst hH
  obtain ⟨tab, h1, h2⟩ := h
  exact ⟨_ :: tab, ⟨_, _, [], v, ch, tab, rfl, ⟨by rw [hd]; rfl, .inl ⟨hg, hq, by simpa using hf⟩⟩, by rw [hd, step_F0, step_H]; exact h1⟩, by simpa using h2⟩
theorem dx_s {d : Nat} {S : List Nat} {v' : AV} {α' : List (Nat × AV)} {H' : List (Nat × Blk)} (hg : guardA ops (lkF α) o = some true) (hd : o.dst = some d) (hN : Nat.blt d N = true) (hq : QRun P o (opF o (lkF α) (lkH H)) S (lkF α) (lkH H) v (lkH ch))
    (hv : v = v') (hα : scrubF S α = α') (hH : ch ++ scrubHL S H = H') (hf : footB (opF o (lkF α) (lkH H)) (chC S (fst' ch)) S (o.op.operands.toList.map (evA (lkF α))) (lkH H) v' ch = true)
    (h : LexD P N ops true K ((opF o (lkF α) (lkH H), chC S (fst' ch)) :: pre) l (lkF ((d, v') :: α')) (lkH H')) :
    LexD P N ops true K pre (o :: l) (lkF α) (lkH H) := by
  subst hv; subst hα; subst hH
  obtain ⟨tab, h1, h2⟩ := h
  exact ⟨_ :: tab, ⟨_, _, S, v, ch, tab, rfl, ⟨by rw [hd]; exact hN, .inl ⟨hg, hq, by simpa using hf⟩⟩, by rw [hd, step_FS, step_HS]; exact h1⟩, by simpa using h2⟩

/-- an operation that is passed over -/
theorem px_skip {d : Nat} (hg : guardA ops (lkF α) o = some false) (hd : o.dst = some d) (hN : Nat.blt d N = true) (h : LexD P N ops false K [] l (lkF ((d, .t (.v undef)) :: α)) (lkH H)) :
    LexD P N ops false K [] (o :: l) (lkF α) (lkH H) := by
  obtain ⟨tab, h1, h2⟩ := h
  have e : hpS [] (lkH []) (lkH H) = lkH H := hpS_nil _
  exact ⟨_ :: tab, ⟨[], [], [], .t (.v undef), [], tab, rfl, ⟨by rw [hd]; exact hN, .inr ⟨hg, .inr rfl, rfl, rfl⟩⟩, by rw [hd, step_F, e]; exact h1⟩, rfl⟩
theorem dx_skip {d : Nat} (hg : guardA ops (lkF α) o = some false) (hd : o.dst = some d) (hN : Nat.blt d N = true) (h : LexD P N ops true K (([], []) :: pre) l (lkF ((d, .t (.v undef)) :: α)) (lkH H)) :
    LexD P N ops true K pre (o :: l) (lkF α) (lkH H) := by
  obtain ⟨tab, h1, h2⟩ := h
  have e : hpS [] (lkH []) (lkH H) = lkH H := hpS_nil _
  exact ⟨_ :: tab, ⟨_, _, [], .t (.v undef), [], tab, rfl, ⟨by rw [hd]; exact hN, .inr ⟨hg, .inr rfl, rfl, rfl⟩⟩, by rw [hd, step_F, e]; exact h1⟩, by simpa using h2⟩
theorem lkF_same {t : Nat} {v : AV} {α : List (Nat × AV)} (h : lkF α t = v) : lkF ((t, v) :: α) = lkF α := by
  funext n
  simp only [lkF]
  cases hb : Nat.beq n t with
  | true => rw [Nat.eq_of_beq_eq_true hb]; exact h.symm
  | false => rfl
/-- a test that a guard asks for: the walk parts -/
theorem lex_if {j t : Nat} {want b : Bool} (hg : o.guard = some (j, want)) (hj : (ops[j]?).bind (·.dst) = some t) (ht : lkF α t = .t (.v (.bool b)))
    (h1 : b = true → LexD P N ops dr K pre (o :: l) (lkF ((t, .t (.v (.bool true))) :: α)) (lkH H)) (h0 : b = false → LexD P N ops dr K pre (o :: l) (lkF ((t, .t (.v (.bool false))) :: α)) (lkH H)) : LexD P N ops dr K pre (o :: l) (lkF α) (lkH H) := by
  cases b with
  | true => have := h1 rfl; rwa [lkF_same ht] at this
  | false => have := h0 rfl; rwa [lkF_same ht] at this

theorem nf_f {v : AV} {k : FloatKind} {c : Nat} (h : v = .t (.f k c)) : v = .t (.f k c) := h
theorem nf_b {v : AV} {b : Bool} (h : v = .t (.v (.bool b))) : v = .t (.v (.bool b)) := h
theorem nf_i {v : AV} {k : IntKind} {n : Int} (h : v = .t (.v (.int k n))) : v = .t (.v (.int k n)) := h
theorem nf_s {v : AV} {a : Option Addr} {n m : Nat} (h : v = .t (.v (.slice a n m))) : v = .t (.v (.slice a n m)) := h
theorem nf_own {v : AV} {i o n : Nat} (h : v = .own i o n) : v = .own i o n := h
theorem nf_bp {v : AV} {i o : Nat} (h : v = .bp i o) : v = .bp i o := h
theorem nf_arg {v : AV} {i : Nat} {t : T} (h : v = .arg i t) : v = .arg i t := h
theorem nf_argc {v : AV} {i j : Nat} {t : T} (h : v = .argc i j t) : v = .argc i j t := h
theorem nf_fl {v : AV} {l : List Nat} (h : v = .t (.fl l)) : v = .t (.fl l) := h
theorem nf_ofl {v : AV} {l : List Nat} (h : v = .old (.fl l)) : v = .old (.fl l) := h
theorem nf_oref {v : AV} {l : T} (h : v = .old (.ref [l])) : v = .old (.ref [l]) := h
theorem nf_tref {v : AV} {l : T} (h : v = .t (.ref [l])) : v = .t (.ref [l]) := h
theorem nf_old {v : AV} {t : T} (h : v = .old t) : v = .old t := h
theorem nf_t {v : AV} {t : T} (h : v = .t t) : v = .t t := h
theorem nf_junk {v : AV} (h : v = .junk) : v = .junk := h
theorem nf_dead {v : AV} {i : Nat} (h : v = .dead i) : v = .dead i := h

variable {Q : Exit → Fr → Hp → Prop} {ρ : Fr} {η : Hp}
theorem awp_rg {id : Nat} (h : LexD P N ops false (fun ρ η => Q .normal ρ η) [] ops.toList ρ η) : AWp P N (.region id ops false) Q ρ η := by
  obtain ⟨tab, h1, _⟩ := h
  have key : ∀ (l : List Oper) (tab : List (List Nat × List Nat)) (ρ : Fr) (η : Hp) (K K' : Fr → Hp → Prop), (∀ ρ η, K ρ η → K' ρ η) → Lex P N ops false K tab l ρ η → Lex P N ops false K' tab l ρ η := by
    intro l
    induction l with
    | nil => intro tab ρ η K K' hK h; exact ⟨h.1, hK _ _ h.2⟩
    | cons o l ih => intro tab ρ η K K' hK h; obtain ⟨F, C, S, v, ch, tab', e, hy, hr⟩ := h; exact ⟨F, C, S, v, ch, tab', e, hy, ih _ _ _ K K' hK hr⟩
  exact awp_region (tab := tab) (dr := false) fun K hK => key _ _ _ _ _ K hK h1
theorem awp_rd {id : Nat} (hm : P.follows .mixedOrders = true) (hB : Region.lexFrom .any ops ops.size 0 (Array.replicate ops.size false) = true)
    (h : LexD P N ops true (fun ρ η => Q .normal ρ η) [] ops.toList ρ η) : AWp P N (.region id ops true) Q ρ η := by
  obtain ⟨tab, h1, h2⟩ := h
  have key : ∀ (l : List Oper) (tab : List (List Nat × List Nat)) (ρ : Fr) (η : Hp) (K K' : Fr → Hp → Prop), (∀ ρ η, K ρ η → K' ρ η) → Lex P N ops true K tab l ρ η → Lex P N ops true K' tab l ρ η := by
    intro l
    induction l with
    | nil => intro tab ρ η K K' hK h; exact ⟨h.1, hK _ _ h.2⟩
    | cons o l ih => intro tab ρ η K K' hK h; obtain ⟨F, C, S, v, ch, tab', e, hy, hr⟩ := h; exact ⟨F, C, S, v, ch, tab', e, hy, ih _ _ _ K K' hK hr⟩
  exact awp_drawn hm (fun K hK => key _ _ _ _ _ K hK h1) hB (by simpa using h2)

theorem awp_sq {x y : Code} (h : AWp P N x (thenA (AWp P N y Q) Q) ρ η) : AWp P N (.seq x y) Q ρ η :=
  awp_seq fun K hK => awp_mono h fun e ρ η q => by cases e <;> first | exact q | exact hK _ _ q
/-- a test: what it came to is known from then on -/
theorem awp_if {t : Nat} {x y : Code} {b : Bool} (hc : lkF α t = .t (.v (.bool b))) (h1 : b = true → AWp P N x Q (lkF α) (lkH H)) (h2 : b = false → AWp P N y Q (lkF α) (lkH H)) : AWp P N (.cond (.tmp t) x y) Q (lkF α) (lkH H) :=
  awp_cond (b := b) hc h1 h2
end

/-! ### the end -/
inductive RetRelL (π : Nat → Option Nat) : List AV → List RV → Prop
  | nil : RetRelL π [] []
  | cons {v : AV} {r : RV} {l : List AV} {m : List RV} (h : RetRel π v r) (hs : RetRelL π l m) : RetRelL π (v :: l) (r :: m)
theorem RetRelL.get {π : Nat → Option Nat} {l : List AV} {m : List RV} (h : RetRelL π l m) : l.length = m.length ∧ ∀ (i : Nat) (v : AV) (r : RV), l[i]? = some v → m[i]? = some r → RetRel π v r := by
  induction h with
  | nil => exact ⟨rfl, fun i v r h => by simp at h⟩
  | cons h _ ih =>
    refine ⟨by simp [ih.1], fun i v r h1 h2 => ?_⟩
    cases i with
    | zero => simp at h1 h2; subst h1; subst h2; exact h
    | succ i => exact ih.2 i v r (by simpa using h1) (by simpa using h2)
theorem rr_t {π : Nat → Option Nat} {t t' : T} (h : t = t') : RetRel π (.t t) (.t t') := by subst h; exact .t
theorem rr_tup {π : Nat → Option Nat} {l : List AV} {m : List RV} (h : RetRelL π l m) : RetRel π (.tup l) (.tup m) := .tup h.get.1 h.get.2
theorem rr_agg {π : Nat → Option Nat} {l : List AV} {m : List RV} (h : RetRelL π l m) : RetRel π (.agg l) (.agg m) := .agg h.get.1 h.get.2
theorem rr_own {π : Nat → Option Nat} {id j n n' : Nat} (h : π j = some id) (hn : n = n') : RetRel π (.own id 0 n) (.own j n') := by subst hn; exact .own h
theorem injO_0 (π : Nat → Option Nat) : injO π [] := fun i j a h => by simp [lkH] at h
theorem lkH_sm {k : Nat} {B : Blk} {r : List (Nat × Blk)} {i : Nat} (h : (lkH ((k, B) :: r) i).isSome) : i = k ∨ (lkH r i).isSome := by
  simp only [lkH] at h
  cases hb : Nat.beq i k with
  | true => exact .inl (Nat.eq_of_beq_eq_true hb)
  | false => simp only [hb, cond_false] at h; exact .inr h
theorem injO_1 (π : Nat → Option Nat) (k : Nat) (B : Blk) : injO π [(k, B)] := fun i j a hi hj _ _ => by
  rcases lkH_sm hi with rfl | h
  · rcases lkH_sm hj with rfl | h
    · rfl
    · simp [lkH] at h
  · simp [lkH] at h
theorem injO_2 (π : Nat → Option Nat) (k m : Nat) (B C : Blk) (h : ∀ a, π k = some a → π m ≠ some a) : injO π [(k, B), (m, C)] := fun i j a hi hj h1 h2 => by
  rcases lkH_sm hi with rfl | hi
  · rcases lkH_sm hj with rfl | hj
    · rfl
    · rcases lkH_sm hj with rfl | hj
      · exact absurd h2 (h a h1)
      · simp [lkH] at hj
  · rcases lkH_sm hi with rfl | hi
    · rcases lkH_sm hj with rfl | hj
      · exact absurd h1 (h a h2)
      · rcases lkH_sm hj with rfl | hj
        · rfl
        · simp [lkH] at hj
    · simp [lkH] at hi
theorem ret_ok {P : Program} {ty : Ty} (hT : TyOk P ty) {fn : Func} {rv : RV} {hs : List (Nat × Blk)} {e : Exit} {ρ : Fr} {η : Hp} (he : e = .normal ∨ e = .ret) (π : Nat → Option Nat) {rs : List ResultVar} {l : List AV} (hf : fn.results.toList = rs)
    (h : ResAl ty ρ η rs l) (hr : RetRel π (joinA l) rv) (hw : wkO π η hs) (hi : injO π hs) : RetQ P fn rv hs e ρ η :=
  ⟨he, _, π, retA_of hT hf h, hr, hw, hi⟩
def pi0 : Nat → Option Nat := fun _ => none
def pi1 (a : Nat) : Nat → Option Nat := fun j => bif Nat.beq j 0 then some a else none
def pi2 (a b : Nat) : Nat → Option Nat := fun j => bif Nat.beq j 0 then some a else bif Nat.beq j 1 then some b else none
theorem injO_pi2 (a b : Nat) (h : a ≠ b) (B C : Blk) : injO (pi2 a b) [(0, B), (1, C)] := injO_2 _ _ _ _ _ fun x h1 h2 => by
  have e1 : pi2 a b 0 = some a := rfl
  have e2 : pi2 a b 1 = some b := rfl
  rw [e1] at h1; rw [e2] at h2
  cases h1; cases h2; exact h rfl

theorem tots_mk {F : List Nat} {η : Hp} {d : Bool} : ∀ ts : List T, ToTs F η (ts.map (mkT d)) ts
  | [] => .nil
  | t :: r => .cons (by
      cases t <;> cases d <;> exact .tr rfl) (tots_mk r)

theorem src_own {F : List Nat} {η : Hp} {x : AV} {id n : Nat} {e : TypeId} {c : T} (hx : x = .own id 0 n) (hη : η id = some (.sl e c)) (hF : F.contains id = true) (hn : c.len = n) : Src F η x c := .inl ⟨id, e, by rw [hn]; exact hx, hη, hF⟩
theorem src_tr {F : List Nat} {η : Hp} {x : AV} {dd : Bool} {c : T} (hx : x.tr = some (dd, c)) (hf : (!dd || c.flat) = true) : Src F η x c := .inr ⟨dd, hx, hf⟩
theorem own_eq {i n m : Nat} (h : n = m) : AV.own i 0 n = AV.own i 0 m := by rw [h]
theorem sl_eq {e : TypeId} {c c' : T} (h : c = c') : some (Blk.sl e c) = some (Blk.sl e c') := by rw [h]
theorem take_snoc {l : List Nat} {i x : Nat} (h : i < l.length) (hx : l.getD i 0 = x) : l.take i ++ [x] = l.take (i + 1) := by
  rw [List.take_succ_eq_append_getElem h, ← hx]; simp [List.getD_eq_getElem?_getD, h]

/-! ### the remaining operations -/
section
variable {P : Program} {o : Oper} {F : List Nat} {ρ : Fr} {η : Hp} {ty : Ty}

theorem q_len_fl {t : TypeId} {e : TE} {u : TypeId} {x : Operand} {l : List Nat} {dd : Bool} (hT : TyOk P ty) (ho : o.op = .call { callee := .builtin .len, args := #[x], argTypes := #[t] })
    (ht : ty.get t = some e) (hd : e.d = .sl u) (hx : (evA ρ x).tr = some (dd, .fl l)) : QRun P o F [] ρ η (.t (.v (.int .i64 l.length))) (lkH []) := q_len_tree hT ho ht hd hx rfl
theorem q_len_il {t : TypeId} {e : TE} {u : TypeId} {x : Operand} {l : List Int} {dd : Bool} (hT : TyOk P ty) (ho : o.op = .call { callee := .builtin .len, args := #[x], argTypes := #[t] })
    (ht : ty.get t = some e) (hd : e.d = .sl u) (hx : (evA ρ x).tr = some (dd, .il l)) : QRun P o F [] ρ η (.t (.v (.int .i64 l.length))) (lkH []) := q_len_tree hT ho ht hd hx rfl
theorem q_len_bl {t : TypeId} {e : TE} {u : TypeId} {x : Operand} {l : List Bool} {dd : Bool} (hT : TyOk P ty) (ho : o.op = .call { callee := .builtin .len, args := #[x], argTypes := #[t] })
    (ht : ty.get t = some e) (hd : e.d = .sl u) (hx : (evA ρ x).tr = some (dd, .bl l)) : QRun P o F [] ρ η (.t (.v (.int .i64 l.length))) (lkH []) := q_len_tree hT ho ht hd hx rfl
theorem q_len_ffl {t : TypeId} {e : TE} {u : TypeId} {x : Operand} {l : List (List Nat)} {dd : Bool} (hT : TyOk P ty) (ho : o.op = .call { callee := .builtin .len, args := #[x], argTypes := #[t] })
    (ht : ty.get t = some e) (hd : e.d = .sl u) (hx : (evA ρ x).tr = some (dd, .ffl l)) : QRun P o F [] ρ η (.t (.v (.int .i64 l.length))) (lkH []) := q_len_tree hT ho ht hd hx rfl
theorem q_pick_t {c x y : Operand} (ho : o.op = .pick c x y) (hc : evA ρ c = .t (.v (.bool true))) : QRun P o F [] ρ η (evA ρ x) (lkH []) := q_pick ho hc
theorem q_pick_f {c x y : Operand} (ho : o.op = .pick c x y) (hc : evA ρ c = .t (.v (.bool false))) : QRun P o F [] ρ η (evA ρ y) (lkH []) := q_pick ho hc
theorem TyR.int {t : TypeId} {e : TE} {k : IntKind} (h : TyR P t e) (hd : e.d = .i k) : P.underlying t = some (.int k) := by
  obtain ⟨d, hu, h1⟩ := h.desc
  rw [hd] at h1
  cases d <;> simp [descTI] at h1
  rw [hu, h1]
theorem TyR.float {t : TypeId} {e : TE} {k : FloatKind} (h : TyR P t e) (hd : e.d = .f k) : P.underlying t = some (.float k) := by
  obtain ⟨d, hu, h1⟩ := h.desc
  rw [hd] at h1
  cases d <;> simp [descTI] at h1
  rw [hu, h1]
theorem TyR.bool {t : TypeId} {e : TE} (h : TyR P t e) (hd : e.d = .b) : P.underlying t = some .bool := by
  obtain ⟨d, hu, h1⟩ := h.desc
  rw [hd] at h1
  cases d <;> simp [descTI] at h1
  exact hu
theorem TyR.some {t : TypeId} {e : TE} (h : TyR P t e) : ∃ d, P.underlying t = some d := by
  obtain ⟨d, hu, _⟩ := h.desc; exact ⟨d, hu⟩

theorem q_cv_if {s t : TypeId} {es et : TE} {x : Operand} {k : IntKind} {f : FloatKind} {n : Int} (hT : TyOk P ty) (ho : o.op = .convert s t x) (hs : ty.get s = some es) (ht : ty.get t = some et) (hd : et.d = .f f)
    (hx : evA ρ x = .t (.v (.int k n))) : QRun P o F [] ρ η (.t (.f f (fint f n))) (lkH []) := by
  refine qrun_val fun vs w0 μ η' a w h1 h2 h3 => ?_
  have hx' := h3 x (by simp [ho, Op.operands])
  rw [hx, VR, TR] at hx'
  obtain ⟨ds, hds⟩ := (hT.get hs).some
  have hr := run_convert_int_float (P := P) w s t k f n (by rw [hds]; rfl) ((hT.get ht).float hd)
  refine ⟨.float f (f.nearest n), w.drawn, by simp [execOp, ho, hx', hr, floatOfInt], ?_⟩
  rw [VR, TR]; exact ⟨_, rfl, fint_FR f n⟩
theorem q_cv_ff {s t : TypeId} {es et : TE} {x : Operand} {f g : FloatKind} {c : Nat} (hT : TyOk P ty) (ho : o.op = .convert s t x) (hs : ty.get s = some es) (hds : es.d = .f f) (ht : ty.get t = some et) (hd : et.d = .f g) (hfg : f ≠ g)
    (hx : evA ρ x = .t (.f f c)) (hok : fconvOk f g c = true) : QRun P o F [] ρ η (.t (.f g (fconv f g c))) (lkH []) := by
  refine qrun_val fun vs w0 μ η' a w h1 h2 h3 => ?_
  have hx' := h3 x (by simp [ho, Op.operands])
  rw [hx, VR, TR] at hx'
  obtain ⟨b, hb, hf⟩ := hx'
  obtain ⟨r, n, hr, hR⟩ := run_fconv (P := P) (w := w) hfg hf hok
  refine ⟨.float g r, n, ?_, by rw [VR, TR]; exact ⟨r, rfl, hR⟩⟩
  simp [execOp, ho, hb, convert, run_underlying ((hT.get hs).float hds), run_underlying ((hT.get ht).float hd), hr]
theorem q_cv_same {s t : TypeId} {es et : TE} {x : Operand} {f : FloatKind} {c : Nat} (hT : TyOk P ty) (ho : o.op = .convert s t x) (hs : ty.get s = some es) (hds : es.d = .f f) (ht : ty.get t = some et) (hd : et.d = .f f)
    (hx : evA ρ x = .t (.f f c)) : QRun P o F [] ρ η (.t (.f f c)) (lkH []) := by
  refine qrun_val fun vs w0 μ η' a w h1 h2 h3 => ?_
  have hx' := h3 x (by simp [ho, Op.operands])
  rw [hx, VR, TR] at hx'
  obtain ⟨b, hb, hf⟩ := hx'
  refine ⟨.float f b, w.drawn, ?_, by rw [VR, TR]; exact ⟨b, rfl, hf⟩⟩
  simp [execOp, ho, hb, convert, run_underlying ((hT.get hs).float hds), run_underlying ((hT.get ht).float hd), Conv.floatToFloat]
theorem q_cv_ii {s t : TypeId} {es et : TE} {x : Operand} {k j : IntKind} {n : Int} (hT : TyOk P ty) (ho : o.op = .convert s t x) (hs : ty.get s = some es) (ht : ty.get t = some et) (hd : et.d = .i j)
    (hx : evA ρ x = .t (.v (.int k n))) : QRun P o F [] ρ η (.t (.v (.int j (j.wrap n)))) (lkH []) := by
  refine qrun_v fun vs w0 μ η' a w h1 h2 h3 => ?_
  have hx' := h3 x (by simp [ho, Op.operands])
  rw [hx, VR, TR] at hx'
  obtain ⟨ds, hds⟩ := (hT.get hs).some
  cases ds <;> simp [execOp, ho, hx', convert, run_underlying hds, run_underlying ((hT.get ht).int hd), Conv.intToInt]

/-- '==', '!=' on bools -/
theorem q_beq {t u : TypeId} {e : TE} {x y : Operand} {b c : Bool} (hT : TyOk P ty) (ho : o.op = .binOp .eql t x y u) (ht : ty.get t = some e) (hd : e.d = .b)
    (hx : evA ρ x = .t (.v (.bool b))) (hy : evA ρ y = .t (.v (.bool c))) : QRun P o F [] ρ η (.t (.v (.bool (b == c)))) (lkH []) := by
  refine qrun_v fun vs w0 μ η' a w h1 h2 h3 => ?_
  have hx' := h3 x (by simp [ho, Op.operands])
  have hy' := h3 y (by simp [ho, Op.operands])
  rw [hx, VR, TR] at hx'; rw [hy, VR, TR] at hy'
  have hr := run_equal_bool (P := P) w t b c ((hT.get ht).bool hd)
  have e : binOp .eql t (.bool b) (.bool c) = (do pure (.bool (← Op.equal t (.bool b) (.bool c)))) := by unfold binOp; rfl
  simp [execOp, ho, hx', hy', eqGuard, e, hr]
theorem q_bne {t u : TypeId} {e : TE} {x y : Operand} {b c : Bool} (hT : TyOk P ty) (ho : o.op = .binOp .neq t x y u) (ht : ty.get t = some e) (hd : e.d = .b)
    (hx : evA ρ x = .t (.v (.bool b))) (hy : evA ρ y = .t (.v (.bool c))) : QRun P o F [] ρ η (.t (.v (.bool (!(b == c))))) (lkH []) := by
  refine qrun_v fun vs w0 μ η' a w h1 h2 h3 => ?_
  have hx' := h3 x (by simp [ho, Op.operands])
  have hy' := h3 y (by simp [ho, Op.operands])
  rw [hx, VR, TR] at hx'; rw [hy, VR, TR] at hy'
  have hr := run_equal_bool (P := P) w t b c ((hT.get ht).bool hd)
  have e : binOp .neq t (.bool b) (.bool c) = (do pure (.bool (!(← Op.equal t (.bool b) (.bool c))))) := by unfold binOp; rfl
  simp [execOp, ho, hx', hy', eqGuard, e, hr]

/-- a function without a body of the text, known to the model -/
structure ExtOk (P : Program) (f : FuncId) (g : Array Value → Sem Value) : Prop where
  run : ∀ (args : Array Value) (w : World), (callFunc f args).run P w = ((g args).run P w).andThen fun v w' => .ok (.value v) w'

theorem q_bits32 {f : FuncId} {x : Operand} {tys : Array TypeId} {c : Nat} (he : ExtOk P f Extern.MathFloatBits.float32bits) (ho : o.op = .call { callee := .value (.func f), args := #[x], argTypes := tys })
    (hx : evA ρ x = .t (.f .f32 c)) (hn : isNan .f32 c = false) : QRun P o F [] ρ η (.t (.v (.int .u32 c))) (lkH []) := by
  refine qrun_v fun vs w0 μ η' a w h1 h2 h3 => ?_
  have hx' := h3 x (by simp [ho, Op.operands, Call.operands])
  rw [hx, VR, TR] at hx'
  obtain ⟨b, hb, hf⟩ := hx'
  have := hf.eq hn
  subst this
  have e : Extern.MathFloatBits.float32bits #[.float .f32 b] = pure (.int .u32 b) := rfl
  have ef : a.eval (.func f) = .func (.func f) #[] #[] := rfl
  simp [execOp, ho, hb, resolve, Deferred.ofValue, ef, invoke, he.run, e]
theorem q_fn {f : FuncId} {caps : Array Operand} (ho : o.op = .makeFunc (.func f) #[] caps) : QRun P o F [] ρ η (.fn f (caps.toList.map (evA ρ))) (lkH []) := by
  refine qrun_val fun vs w0 μ η' a w h1 h2 h3 => ?_
  refine ⟨.func (.func f) #[] (caps.map a.eval), w.drawn, by simp [execOp, ho, Instr.makeFunc], ?_⟩
  rw [VR]
  refine ⟨_, rfl, (VRl_iff ..).2 ⟨by simp, fun i v hv => ?_⟩⟩
  simp only [List.getElem?_map, Option.map_eq_some_iff] at hv
  obtain ⟨x, hx, rfl⟩ := hv
  exact ⟨a.eval x, by simpa using ⟨x, by simpa using hx, rfl⟩, h3 x (by simp [ho, Op.operands]; exact by simpa using List.mem_of_getElem? hx)⟩

theorem q_fneg {t : TypeId} {x : Operand} {k : FloatKind} {c : Nat} (ho : o.op = .unOp .neg t x) (hx : evA ρ x = .t (.f k c)) : QRun P o F [] ρ η (.t (.f k (fneg k c))) (lkH []) := by
  refine qrun_val fun vs w0 μ η' a w h1 h2 h3 => ?_
  have hx' := h3 x (by simp [ho, Op.operands])
  rw [hx, VR, TR] at hx'
  obtain ⟨b, hb, hf⟩ := hx'
  refine ⟨.float k (Op.negFloat k b), w.drawn, by simp [execOp, ho, hb, Op.unary], ?_⟩
  rw [VR, TR]
  refine ⟨_, rfl, ?_⟩
  have hlt : Op.negFloat k b < 2 ^ k.format.width := by
    unfold Op.negFloat
    refine Nat.xor_lt_two_pow hf.2 ?_
    cases k <;> decide
  unfold fneg
  cases hc : isNan k c with
  | true =>
    simp only [if_true]
    refine ⟨canon_nan ?_, hlt⟩
    have hb' := hf.nan.trans hc
    rw [nanB_eq] at hb' ⊢
    cases k
    · simp only [nanB, decide_eq_true_eq] at hb' ⊢
      have : Op.negFloat .f32 b % 2147483648 = b % 2147483648 := by
        have e : (2147483648 : Nat) = 2 ^ 31 := by decide
        show (b ^^^ 2 ^ 31) % 2147483648 = _
        rw [e, Nat.xor_mod_two_pow]; simp
      rw [this]; exact hb'
    · simp only [nanB, decide_eq_true_eq] at hb' ⊢
      have : Op.negFloat .f64 b % 9223372036854775808 = b % 9223372036854775808 := by
        have e : (9223372036854775808 : Nat) = 2 ^ 63 := by decide
        show (b ^^^ 2 ^ 63) % 9223372036854775808 = _
        rw [e, Nat.xor_mod_two_pow]; simp
      rw [this]; exact hb'
  | false =>
    have := hf.eq hc
    subst this
    simp only [Bool.false_eq_true, if_false]
    exact FR_of hlt
end
end Go.Aw

