/- Slices made, cut, written, appended to. -/
import Derived.Test.YtodnginckchmdaaAwNew
set_option linter.unusedVariables false
namespace Go.Aw
open Go.RowKit (Below)

/-- the elements of a slice made of values -/
def ofF : List AV → Option (List Nat)
  | [] => some []
  | v :: r => match v.tr, ofF r with
    | some (_, .f .f32 c), some l => some (c :: l)
    | _, _ => none
def ofI : List AV → Option (List Int)
  | [] => some []
  | v :: r => match v.tr, ofI r with
    | some (_, .v (.int .i64 n)), some l => some (n :: l)
    | _, _ => none
def ofB : List AV → Option (List Bool)
  | [] => some []
  | v :: r => match v.tr, ofB r with
    | some (_, .v (.bool n)), some l => some (n :: l)
    | _, _ => none
def ofT : List AV → Option (List T)
  | [] => some []
  | v :: r => match v.tr, ofT r with
    | some (false, u), some l => bif oneT u then some (u :: l) else none
    | _, _ => none
def ofL : TI → List AV → Option T
  | .f .f32, l => (ofF l).map T.fl
  | .i .i64, l => (ofI l).map T.il
  | .b, l => (ofB l).map T.bl
  | .sl _, l => (ofT l).map T.tl
  | _, _ => none

theorem ofL_TR {vs : Env} {w : World} {μ : Nat → Option Nat} {ok : Nat → Prop} {k : TI} {l : List AV} {c : T} (h : ofL k l = some c) {xs : List Value} (hx : VRl vs w μ ok l xs) :
    c.isSl = true ∧ c.len = l.length ∧ TRl w (okF vs ok) c.elems xs ∧ ∀ z ∈ xs, z.oneCell' = true := by
  have hF : ∀ (l : List AV) (xs : List Value) (m : List Nat), ofF l = some m → VRl vs w μ ok l xs → m.length = l.length ∧ TRl w (okF vs ok) (m.map (T.f .f32)) xs ∧ ∀ z ∈ xs, z.oneCell' = true := by
    intro l
    induction l with
    | nil => intro xs m h hx; rw [VRl] at hx; simp [ofF] at h; subst h; subst hx; exact ⟨rfl, by simp [TRl], by simp⟩
    | cons v r ih =>
      intro xs m h hx
      rw [VRl] at hx
      obtain ⟨x, ys, rfl, hv, hr⟩ := hx
      simp only [ofF] at h
      split at h
      · rename_i _ c l' h1 h2
        simp only [Option.some.injEq] at h; subst h
        obtain ⟨g1, g2, g3⟩ := ih ys l' h2 hr
        have ht := VR_tree hv h1
        refine ⟨by simp [g1], ?_, ?_⟩
        · rw [List.map_cons, TRl]; exact ⟨x, ys, rfl, by rw [TR] at *; exact ht, g2⟩
        · intro z hz; rcases List.mem_cons.1 hz with rfl | hz
          · exact oneT_one ht rfl
          · exact g3 z hz
      · cases h
  have hI : ∀ (l : List AV) (xs : List Value) (m : List Int), ofI l = some m → VRl vs w μ ok l xs → m.length = l.length ∧ TRl w (okF vs ok) (m.map fun n => T.v (.int .i64 n)) xs ∧ ∀ z ∈ xs, z.oneCell' = true := by
    intro l
    induction l with
    | nil => intro xs m h hx; rw [VRl] at hx; simp [ofI] at h; subst h; subst hx; exact ⟨rfl, by simp [TRl], by simp⟩
    | cons v r ih =>
      intro xs m h hx
      rw [VRl] at hx
      obtain ⟨x, ys, rfl, hv, hr⟩ := hx
      simp only [ofI] at h
      split at h
      · rename_i _ c l' h1 h2
        simp only [Option.some.injEq] at h; subst h
        obtain ⟨g1, g2, g3⟩ := ih ys l' h2 hr
        have ht := VR_tree hv h1
        refine ⟨by simp [g1], ?_, ?_⟩
        · rw [List.map_cons, TRl]; exact ⟨x, ys, rfl, by rw [TR] at *; exact ht, g2⟩
        · intro z hz; rcases List.mem_cons.1 hz with rfl | hz
          · exact oneT_one ht rfl
          · exact g3 z hz
      · cases h
  have hB : ∀ (l : List AV) (xs : List Value) (m : List Bool), ofB l = some m → VRl vs w μ ok l xs → m.length = l.length ∧ TRl w (okF vs ok) (m.map fun n => T.v (.bool n)) xs ∧ ∀ z ∈ xs, z.oneCell' = true := by
    intro l
    induction l with
    | nil => intro xs m h hx; rw [VRl] at hx; simp [ofB] at h; subst h; subst hx; exact ⟨rfl, by simp [TRl], by simp⟩
    | cons v r ih =>
      intro xs m h hx
      rw [VRl] at hx
      obtain ⟨x, ys, rfl, hv, hr⟩ := hx
      simp only [ofB] at h
      split at h
      · rename_i _ c l' h1 h2
        simp only [Option.some.injEq] at h; subst h
        obtain ⟨g1, g2, g3⟩ := ih ys l' h2 hr
        have ht := VR_tree hv h1
        refine ⟨by simp [g1], ?_, ?_⟩
        · rw [List.map_cons, TRl]; exact ⟨x, ys, rfl, by rw [TR] at *; exact ht, g2⟩
        · intro z hz; rcases List.mem_cons.1 hz with rfl | hz
          · exact oneT_one ht rfl
          · exact g3 z hz
      · cases h
  have hT : ∀ (l : List AV) (xs : List Value) (m : List T), ofT l = some m → VRl vs w μ ok l xs → m.length = l.length ∧ TRl w (okF vs ok) m xs ∧ ∀ z ∈ xs, z.oneCell' = true := by
    intro l
    induction l with
    | nil => intro xs m h hx; rw [VRl] at hx; simp [ofT] at h; subst h; subst hx; exact ⟨rfl, by simp [TRl], by simp⟩
    | cons v r ih =>
      intro xs m h hx
      rw [VRl] at hx
      obtain ⟨x, ys, rfl, hv, hr⟩ := hx
      simp only [ofT] at h
      split at h
      · rename_i c l' h1 h2
        cases hc : oneT c with
        | false => simp [hc] at h
        | true =>
          simp only [hc, cond_true, Option.some.injEq] at h; subst h
          obtain ⟨g1, g2, g3⟩ := ih ys l' h2 hr
          have ht : TR w (okF vs ok) c x := VR_tr hv h1
          refine ⟨by simp [g1], ?_, ?_⟩
          · rw [TRl]; exact ⟨x, ys, rfl, ht, g2⟩
          · intro z hz; rcases List.mem_cons.1 hz with rfl | hz
            · exact oneT_one ht hc
            · exact g3 z hz
      · cases h
  cases k with
  | f k =>
    cases k with
    | f32 =>
      simp only [ofL, Option.map_eq_some_iff] at h
      obtain ⟨m, hm, rfl⟩ := h
      obtain ⟨g1, g2, g3⟩ := hF l xs m hm hx
      exact ⟨rfl, g1, g2, g3⟩
    | f64 => simp [ofL] at h
  | i k =>
    cases k <;> simp only [ofL, Option.map_eq_some_iff, reduceCtorEq] at h
    obtain ⟨m, hm, rfl⟩ := h
    obtain ⟨g1, g2, g3⟩ := hI l xs m hm hx
    exact ⟨rfl, g1, g2, g3⟩
  | b =>
    simp only [ofL, Option.map_eq_some_iff] at h
    obtain ⟨m, hm, rfl⟩ := h
    obtain ⟨g1, g2, g3⟩ := hB l xs m hm hx
    exact ⟨rfl, g1, g2, g3⟩
  | sl e =>
    simp only [ofL, Option.map_eq_some_iff] at h
    obtain ⟨m, hm, rfl⟩ := h
    obtain ⟨g1, g2, g3⟩ := hT l xs m hm hx
    exact ⟨rfl, g1, g2, g3⟩
  | _ => simp [ofL] at h

/-- a row made of parts that are given from the first to the last -/
theorem fill_row (ys : List Value) (h1 : ∀ y ∈ ys, y.oneCell' = true) : ∀ (k : Nat) (cs : Array Value), cs.size = k + ys.length →
    ∃ cs', Instr.fill (fun i => some (i * 1, 1)) cs ((ys.zipIdx k).map fun p => (p.2, p.1)) = some cs' ∧ cs'.toList = cs.toList.take k ++ ys := by
  induction ys with
  | nil => intro k cs hs; exact ⟨cs, rfl, by simp at hs; rw [List.take_of_length_le (by simp; omega)]; simp⟩
  | cons y r ih =>
    intro k cs hs
    have hy := cells_one (h1 y (by simp))
    simp only [List.zipIdx_cons, List.map_cons, Instr.fill]
    have hlt : k < cs.size := by simp at hs; omega
    obtain ⟨cs', h2, h3⟩ := ih (fun z hz => h1 z (by simp [hz])) (k + 1) (cs.setIfInBounds k y) (by simp at hs ⊢; omega)
    refine ⟨cs', ?_, ?_⟩
    · rw [hy]
      simp only [List.size_toArray, List.length_cons, List.length_nil, Nat.mul_one]
      rw [if_neg (by simp; omega)]
      simpa [Array.zipIdx] using h2
    · rw [h3]
      simp only [Array.toList_setIfInBounds, List.take_set]
      rw [List.take_succ_eq_append_getElem (by simpa using hlt)]
      rw [List.set_append_right _ _ (by simp; omega)]
      have : k - (List.take k cs.toList).length = 0 := by simp; omega
      rw [this]; simp

section
variable {P : Program} {o : Oper} {F : List Nat} {ρ : Fr} {η : Hp} {ty : Ty}

/-- the parts of a slice literal, from the first to the last -/
def seqParts : Nat → List (Nat × Operand) → Bool
  | _, [] => true
  | k, (i, _) :: r => Nat.beq i k && seqParts (k + 1) r

theorem q_bslice {t u : TypeId} {e eu : TE} {n : Nat} {parts : Array (Nat × Operand)} {d : Nat} {c : T} (hT : TyOk P ty) (ho : o.op = .buildSlice t n parts) (hd : o.dst = some d)
    (ht : ty.get t = some e) (hsl : e.d = .sl u) (hu : ty.get u = some eu) (hs : eu.size = 1) (hz : eu.z.oneCell' = true) (hp : seqParts 0 parts.toList = true) (hn : Nat.beq n parts.size = true) (hsm : Nat.ble n 16777216 = true)
    (hc : ofL eu.d (parts.toList.map fun p => evA ρ p.2) = some c) : QRun P o F [d] ρ η (.own d 0 n) (lkH [(d, .sl u c)]) := by
  refine qrun_new fun vs w0 μ η' a w h1 h2 h3 => ?_
  have hn := Nat.eq_of_beq_eq_true hn
  have hsm := Nat.le_of_ble_eq_true hsm
  have hops : ∀ p ∈ parts.toList, p.2 ∈ o.op.operands := fun p hp => by
    rw [ho]; simp only [Op.operands, List.mem_toArray, List.mem_map]; exact ⟨p, hp, rfl⟩
  have hx : VRl vs w μ (okOf μ η') (parts.toList.map fun p => evA ρ p.2) (parts.toList.map fun p => a.eval p.2) := by
    refine (VRl_iff ..).2 ⟨by simp, fun i v hv => ?_⟩
    simp only [List.getElem?_map, Option.map_eq_some_iff] at hv
    obtain ⟨p, hp, rfl⟩ := hv
    exact ⟨a.eval p.2, by simp only [List.getElem?_map, hp, Option.map_some], h3 p.2 (hops p (List.mem_of_getElem? hp))⟩
  obtain ⟨g1, g2, g3, g4⟩ := ofL_TR hc hx
  have hus := (hT.get ht).slice hsl
  have hsz := (hT.get hu).sizeOf (w := w)
  have hzv := (hT.get hu).zero (w := w)
  rw [hs] at hsz
  have hzip : ∀ (k : Nat) (l : List (Nat × Operand)), seqParts k l = true → (l.map fun p => (p.1, a.eval p.2)) = ((l.map fun p => a.eval p.2).zipIdx k).map fun p => (p.2, p.1) := by
    intro k l
    induction l generalizing k with
    | nil => simp
    | cons p r ih =>
      obtain ⟨i, x⟩ := p
      intro h
      simp only [seqParts, Bool.and_eq_true] at h
      have := Nat.eq_of_beq_eq_true h.1
      subst this
      simp [List.zipIdx_cons, ih _ h.2]
  let zs : Array Value := if n * 1 = 0 then #[] else eu.z.cells
  obtain ⟨cs', hf, hl⟩ := fill_row (parts.toList.map fun p => a.eval p.2) g4 0 ((Array.range (n * 1)).map (zs[· % zs.size]!)) (by simp [hn])
  rw [← hzip 0 _ hp] at hf
  have hl' : cs'.toList = parts.toList.map fun p => a.eval p.2 := by simpa using hl
  have hsize : cs'.size = n := by rw [← Array.length_toList, hl']; simp [hn]
  refine ⟨.slice (some ⟨w.heap.size, 0, none⟩) n n, cs', u, ?_, fun w' μ' ok' hk hμ hw => ⟨⟨g1, .inr ⟨_, _, hμ, .inl h2.below.size, hw, ?_, ?_⟩⟩, ?_⟩⟩
  · have hpar : (parts.map fun x => (x.1, a.eval x.2)).toList = parts.toList.map fun p => (p.1, a.eval p.2) := by simp
    have hno : ¬ (n > 16777216) := by omega
    have hzv := (hT.get hu).zero (w := w)
    simp only [Nat.mul_one] at hf
    by_cases h0 : n = 0
    · have hz0 : zs = #[] := by simp [zs, h0]
      rw [hz0] at hf
      simp only [execOp, ho, Instr.buildSlice, Sem.run_bind, run_underlying hus, Result.andThen_ok, hsz, Nat.mul_one, hpar]
      simp [h0] at hf ⊢
      simp [hf, newRow]
    · have hz0 : zs = eu.z.cells := by simp [zs, h0]
      rw [hz0] at hf
      simp only [execOp, ho, Instr.buildSlice, Sem.run_bind, run_underlying hus, Result.andThen_ok, hsz, Nat.mul_one, hpar]
      simp [hno, h0, hzv] at hf ⊢
      simp [hf, newRow]
  · rw [g2, hsize]; simp [hn]
  · have : c.len = cs'.toList.length := by rw [g2, hl']; simp
    rw [this, List.take_length, hl']
    exact TRl.mono hk.treeF _ _ g3
  · rw [VR]
    exact .inr ⟨_, n, _, _, hμ, rfl, size_shape hw, by rw [hsize]; omega, Nat.le_refl _⟩

/-! cutting -/
theorem sliceBounds_run {lo hi : Option Value} {n cap : Nat} {l h : Nat} {w : World} (hlo : (lo = none ∧ l = 0) ∨ ∃ k, lo = some (.int k (l : Int))) (hhi : (hi = none ∧ h = n) ∨ ∃ k, hi = some (.int k (h : Int)))
    (h1 : l ≤ h) (h2 : h ≤ n) (h3 : n ≤ cap) : (Instr.sliceBounds true n cap lo hi none).run P w = .ok (l, h, cap) w := by
  have b : ∀ (k : IntKind) (m y : Nat) (code : BoundsCode), m ≤ y → (Instr.sliceBound (.int k (m : Int)) y code).run P w = .ok m w := fun k m y code hm => by
    simp [Instr.sliceBound, asIntOf, hm]
  rcases hlo with ⟨rfl, rfl⟩ | ⟨k, rfl⟩ <;> rcases hhi with ⟨rfl, rfl⟩ | ⟨k', rfl⟩ <;> simp [Instr.sliceBounds, b, h1, Nat.le_trans h2 h3]

theorem slice_run {t u : TypeId} {e eu : TE} (hT : TyOk P ty) (ht : ty.get t = some e) (hsl : e.d = .sl u) (hu : ty.get u = some eu) (hs : eu.size = 1) {lo hi : Option Value} {a : Option Addr} {n cap l h : Nat} {w : World}
    (hlo : (lo = none ∧ l = 0) ∨ ∃ k, lo = some (.int k (l : Int))) (hhi : (hi = none ∧ h = n) ∨ ∃ k, hi = some (.int k (h : Int))) (h1 : l ≤ h) (h2 : h ≤ n) (h3 : n ≤ cap) :
    (Instr.sliceAt t (.slice a n cap) lo hi none).run P w = .ok (.slice (if cap = l then a else a.map (·.add (l * 1))) (h - l) (cap - l)) w := by
  have hus := (hT.get ht).slice hsl
  have hsz := (hT.get hu).sizeOf (w := w)
  rw [hs] at hsz
  have hb := sliceBounds_run (P := P) (w := w) hlo hhi h1 h2 h3
  simp [Instr.sliceAt, Instr.slice, run_underlying hus, hb, hsz]

/-- a bound of a slice expression -/
def bnd (ρ : Fr) (x : Option Operand) (dflt m : Nat) : Prop := match x with
  | none => m = dflt
  | some y => ∃ k i, evA ρ y = .t (.v (.int k i)) ∧ i = (m : Int)

theorem bnd_run {vs : Env} {w : World} {μ : Nat → Option Nat} {ok : Nat → Prop} {a : Act} {x : Option Operand} {dflt m : Nat} (h : bnd ρ x dflt m) (hv : ∀ y, x = some y → VR vs w μ ok (evA ρ y) (a.eval y)) :
    (x.map a.eval = none ∧ m = dflt) ∨ ∃ k, x.map a.eval = some (.int k (m : Int)) := by
  cases x with
  | none => exact .inl ⟨rfl, h⟩
  | some y =>
    obtain ⟨k, i, h1, h2⟩ := h
    have := hv y rfl
    rw [h1, VR, TR] at this
    exact .inr ⟨k, by simp [this, h2]⟩

theorem q_slice_tree {t u : TypeId} {e eu : TE} {x : Operand} {lo hi : Option Operand} {c : T} (l h : Nat) (hT : TyOk P ty) (ho : o.op = .slice t x lo hi none)
    (ht : ty.get t = some e) (hsl : e.d = .sl u) (hu : ty.get u = some eu) (hs : eu.size = 1) {dd : Bool} (hx : (evA ρ x).tr = some (dd, c)) (hc : c.isSl = true)
    (hlo : bnd ρ lo 0 l) (hhi : bnd ρ hi c.len h) (h1 : l ≤ h) (h2 : h ≤ c.len) : QRun P o F [] ρ η (mkT dd (c.cut l h)) (lkH []) := by
  refine qrun_val fun vs w0 μ η' a w g1 g2 g3 => ?_
  have hx' := VR_tr (g3 x (by simp [ho, Op.operands])) hx
  obtain ⟨a0, n, cp, hv, hn, hncp, hcell⟩ := (TR_sl w _ c hc _).1 hx'
  have hl' := bnd_run hlo (a := a) (fun y hy => g3 y (by simp [ho, Op.operands, hy]))
  have hh' := bnd_run hhi (a := a) (fun y hy => g3 y (by simp [ho, Op.operands, hy]))
  rw [← hn] at hh' h2
  have hr := slice_run (P := P) (w := w) (a := a0) hT ht hsl hu hs hl' hh' h1 h2 hncp
  refine ⟨_, w.drawn, by simp [execOp, ho, hv, hr]; rfl, ?_⟩
  refine mkT_VR ?_
  refine (TR_sl w _ _ (by rw [T.cut_isSl]; exact hc) _).2 ⟨_, _, _, rfl, (T.cut_len c hc l h (by omega)).symm, by omega, ?_⟩
  by_cases h0 : h - l = 0
  · exact .inl h0
  · right
    rcases hcell with hz | ⟨b, off, ha, hb, hok, hcs⟩
    · omega
    · subst ha
      refine ⟨b, off + l, ?_, hb, hok, (TRs_iff ..).2 fun i v hv => ?_⟩
      · rw [if_neg (by omega)]; simp [add1]
      · rw [T.cut_elems c hc] at hv
        rw [List.getElem?_drop, List.getElem?_take] at hv
        split at hv
        · have := (TRs_iff ..).1 hcs _ _ hv
          simpa [Nat.add_assoc] using this
        · cases hv

theorem q_slice_own {t u : TypeId} {e eu : TE} {x : Operand} {lo hi : Option Operand} {id off n : Nat} (l h : Nat) (hT : TyOk P ty) (ho : o.op = .slice t x lo hi none)
    (ht : ty.get t = some e) (hsl : e.d = .sl u) (hu : ty.get u = some eu) (hs : eu.size = 1) (hx : (evA ρ x).own? = some (id, off, n))
    (hlo : bnd ρ lo 0 l) (hhi : bnd ρ hi n h) (h1 : l ≤ h) (h2 : h ≤ n) (hlt : l < n ∨ off + l = 0) : QRun P o F [] ρ η (.own id (off + l) (h - l)) (lkH []) := by
  refine qrun_val fun vs w0 μ η' a w g1 g2 g3 => ?_
  have hx' := VR_own (g3 x (by simp [ho, Op.operands])) hx
  rw [VR] at hx'
  have hl' := bnd_run hlo (a := a) (fun y hy => g3 y (by simp [ho, Op.operands, hy]))
  have hh' := bnd_run hhi (a := a) (fun y hy => g3 y (by simp [ho, Op.operands, hy]))
  rcases hx' with ⟨hμ, rfl, rfl, hv⟩ | ⟨b, cap, e0, m, hμ, hv, hshape, hm, hcap⟩
  · have hr := slice_run (P := P) (w := w) (a := none) hT ht hsl hu hs hl' hh' h1 h2 (Nat.le_refl _)
    obtain rfl : l = 0 := by omega
    obtain rfl : h = 0 := by omega
    refine ⟨.slice none 0 0, w.drawn, by simp [execOp, ho, hv, hr], ?_⟩
    rw [VR]
    exact .inl ⟨hμ, rfl, rfl, rfl⟩
  · have hr := slice_run (P := P) (w := w) (a := some ⟨b, off, none⟩) hT ht hsl hu hs hl' hh' h1 h2 hcap
    refine ⟨_, w.drawn, by simp [execOp, ho, hv, hr]; rfl, ?_⟩
    rw [VR]
    refine .inr ⟨b, cap - l, e0, m, hμ, ?_, hshape, by omega, by omega⟩
    by_cases hcl : cap = l
    · have : off + l = 0 := by omega
      have h0 : l = 0 := by omega
      subst h0
      simp [hcl]
    · rw [if_neg hcl]; simp [add1]

/-! made -/
def zeros : TI → Nat → Option T
  | .f .f32, n => some (.fl (List.replicate n 0))
  | .i .i64, n => some (.il (List.replicate n 0))
  | .b, n => some (.bl (List.replicate n false))
  | .sl _, n => some (.tl (List.replicate n (.v (.slice none 0 0))))
  | _, _ => none
/-- the zero of an element's type is the one that is taken for it -/
def zeroOk : TI → Value → Bool
  | .f .f32, .float .f32 0 => true
  | .i .i64, .int .i64 0 => true
  | .b, .bool false => true
  | .sl _, .slice none 0 0 => true
  | _, _ => false
theorem zeros_TR {w : World} {ok : Nat → Prop} {k : TI} {z : Value} {n : Nat} {c : T} (hz : zeroOk k z = true) (hc : zeros k n = some c) : c.isSl = true ∧ c.len = n ∧ TRl w ok c.elems (List.replicate n z) := by
  have key : ∀ (t : T), TR w ok t z → TRl w ok (List.replicate n t) (List.replicate n z) := fun t h => (TRl_iff ..).2 ⟨by simp, fun i u hu => by
    simp only [List.getElem?_replicate] at hu ⊢
    split at hu
    · rename_i hi; cases hu; exact ⟨z, by simp [hi], h⟩
    · cases hu⟩
  unfold zeroOk at hz
  split at hz <;> simp only [zeros, Option.some.injEq, Bool.false_eq_true] at hc hz <;> subst hc
  · refine ⟨rfl, by simp [T.len], ?_⟩
    simp only [T.elems, List.map_replicate]
    refine key _ ?_
    rw [TR]
    exact ⟨0, rfl, by rw [FR, canon, nanB_eq, width32]; simp [nanB]⟩
  · refine ⟨rfl, by simp [T.len], ?_⟩
    simp only [T.elems, List.map_replicate]; exact key _ (by rw [TR])
  · refine ⟨rfl, by simp [T.len], ?_⟩
    simp only [T.elems, List.map_replicate]; exact key _ (by rw [TR])
  · refine ⟨rfl, by simp [T.len], ?_⟩
    simp only [T.elems]; exact key _ (by rw [TR])

theorem q_make {t u : TypeId} {e eu : TE} {x y : Operand} {k k' : IntKind} {i : Int} {d : Nat} {c : T} (n : Nat) (hT : TyOk P ty) (ho : o.op = .makeSlice t x y) (hd : o.dst = some d)
    (ht : ty.get t = some e) (hsl : e.d = .sl u) (hu : ty.get u = some eu) (hs : eu.size = 1) (hz : zeroOk eu.d eu.z = true) (hx : evA ρ x = .t (.v (.int k i))) (hy : evA ρ y = .t (.v (.int k' i))) (hi : i = (n : Int))
    (hc : zeros eu.d n = some c) (hb : eu.bytes * n ≤ 281474976710656) (hb2 : n ≤ 281474976710656) : QRun P o F [d] ρ η (.own d 0 n) (lkH [(d, .sl u c)]) := by
  refine qrun_new fun vs w0 μ η' a w h1 h2 h3 => ?_
  have hx' := h3 x (by simp [ho, Op.operands])
  have hy' := h3 y (by simp [ho, Op.operands])
  rw [hx, VR, TR] at hx'; rw [hy, VR, TR] at hy'
  subst hi
  obtain ⟨inf, hinf, g1, g2, g3⟩ := (hT.get hu).info
  have hus := (hT.get ht).slice hsl
  have hb' : (inf.bytes : Int) * (n : Int) ≤ 281474976710656 := by
    rw [g2]
    have h : ((eu.bytes * n : Nat) : Int) ≤ 281474976710656 := by omega
    rwa [Int.natCast_mul] at h
  have hr := run_make (P := P) w t u inf eu.z hus hinf g3 k k' n n (by omega) (Int.le_refl _) hb' (by omega)
  simp only [Int.toNat_natCast, g1, hs, Nat.mul_one] at hr
  have hone : eu.z.cells = #[eu.z] := by
    refine cells_one ?_
    unfold zeroOk at hz
    split at hz <;> simp_all [Value.oneCell']
  rw [hone] at hr
  refine ⟨_, madeCells #[eu.z] n, u, by simp [execOp, ho, hx', hy', hr]; rfl, fun w' μ' ok' hk hμ hw => ?_⟩
  obtain ⟨q1, q2, q3⟩ := zeros_TR (w := w') (ok := okF vs ok') hz hc
  refine ⟨⟨q1, .inr ⟨_, _, hμ, .inl h2.below.size, hw, by rw [q2, size_madeCells]; exact Nat.le_refl _, ?_⟩⟩, ?_⟩
  · rw [toList_madeCells_one, q2, List.take_of_length_le (by simp)]; exact q3
  · rw [VR]
    exact .inr ⟨_, n, _, _, hμ, rfl, size_shape hw, by rw [size_madeCells]; omega, Nat.le_refl _⟩

end
end Go.Aw
