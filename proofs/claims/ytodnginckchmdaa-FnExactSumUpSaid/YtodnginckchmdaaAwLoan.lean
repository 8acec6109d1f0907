/- Calls that write into a slice of their caller's: contracts with lent blocks. -/
import Derived.Test.YtodnginckchmdaaAwStep
set_option linter.unusedVariables false
namespace Go.Aw
open Go.RowKit (Below)

/-- the blocks that are lent: those of the ids 'H0' -/
def lentB (μ0 : Nat → Option Nat) (H0 : List (Nat × Blk)) : Nat → Prop := fun b => ∃ j, (lkH H0 j).isSome ∧ μ0 j = some b

/-- **A contract of a function that writes into what it is lent**: 'as': its arguments, 'H0': the lent blocks, 'H1': what they hold in the end, 'hs': the blocks that it hands over. -/
def TMut (P : Program) (f : FuncId) (as : List AV) (H0 : List (Nat × Blk)) (rv : RV) (H1 hs : List (Nat × Blk)) : Prop :=
  Enters P f ∧ ∀ (w : World) (args : List Value) (μ0 : Nat → Option Nat), HC ⟨args, w.heap.size, lentB μ0 H0⟩ w μ0 (lkH H0) w → VRl ⟨args, w.heap.size, lentB μ0 H0⟩ w μ0 (okOf μ0 (lkH H0)) as args →
    Calls P f args.toArray w fun e w' => ∃ y μ, e = .returned y ∧ HC ⟨args, w.heap.size, lentB μ0 H0⟩ w μ (lkH (H1 ++ hs)) w' ∧ (∀ j, (lkH H1 j).isSome → μ j = μ0 j) ∧
      RRel args w' μ (okF ⟨args, w.heap.size, lentB μ0 H0⟩ (okOf μ (lkH (H1 ++ hs)))) rv y

def slotsL : Nat → List AV → List (Nat × AV)
  | _, [] => []
  | i, v :: r => (i, v) :: slotsL (i + 1) r
theorem slotsL_lk (as : List AV) : ∀ (i n : Nat), lkF (slotsL i as) n = if n < i then .junk else match as[n - i]? with | some v => v | none => .junk := by
  induction as with
  | nil => intro i n; simp [slotsL, lkF]
  | cons t r ih =>
    intro i n
    simp only [slotsL, lkF]
    cases hb : Nat.beq n i with
    | true =>
      have := Nat.eq_of_beq_eq_true hb
      subst this; simp
    | false =>
      have hne : n ≠ i := fun h => by subst h; simp at hb
      simp only [cond_false, ih]
      by_cases h1 : n < i
      · rw [if_pos (by omega), if_pos h1]
      · rw [if_neg (by omega), if_neg h1]
        have : n - i = (n - (i + 1)) + 1 := by omega
        rw [this]; simp

theorem mstart_StR {w : World} {as : List AV} {args : List Value} {μ0 : Nat → Option Nat} {H0 : List (Nat × Blk)} (hc : HC ⟨args, w.heap.size, lentB μ0 H0⟩ w μ0 (lkH H0) w) (h : VRl ⟨args, w.heap.size, lentB μ0 H0⟩ w μ0 (okOf μ0 (lkH H0)) as args) {N : Nat} (hN : as.length ≤ N) :
    StR ⟨args, w.heap.size, lentB μ0 H0⟩ N w μ0 (lkF (slotsL 0 as)) (lkH H0) { tmps := args.toArray ++ Array.replicate (N - args.toArray.size) undef, defers := [] } w := by
  obtain ⟨hlen, hall⟩ := (VRl_iff ..).1 h
  refine ⟨hc, ?_, rfl, fun n => ?_⟩
  · simp; omega
  · rw [slotsL_lk]
    simp only [Nat.not_lt_zero, if_false, Nat.sub_zero]
    cases ht : as[n]? with
    | none => simp only []; rw [VR]; trivial
    | some t =>
      obtain ⟨y, hy, hr⟩ := hall n t ht
      have hlt : n < args.length := (List.getElem?_eq_some_iff.1 hy).1
      have e : (args.toArray ++ Array.replicate (N - args.toArray.size) undef).getD n undef = y := by
        simp [Array.getD_eq_getD_getElem?, Array.getElem?_append, hlt]
        have := (List.getElem?_eq_some_iff.1 hy).2
        exact this
      simp only []
      rw [e]
      exact hr

/-- the lent blocks are still known by their arguments -/
def HeldL (π : Nat → Option Nat) (ρ : Fr) (as : List AV) : List (Nat × Blk) → Prop
  | [] => True
  | (j, _) :: r => (∃ n i id off len off' len', ρ n = .argo i id off len ∧ π j = some id ∧ as[i]? = some (.argo i j off' len')) ∧ HeldL π ρ as r
theorem HeldL_lk {π : Nat → Option Nat} {ρ : Fr} {as : List AV} : ∀ {H1 : List (Nat × Blk)}, HeldL π ρ as H1 → ∀ {j : Nat}, (lkH H1 j).isSome → ∃ n i id off len off' len', ρ n = .argo i id off len ∧ π j = some id ∧ as[i]? = some (.argo i j off' len')
  | [], _, _, h => by simp [lkH] at h
  | (k, B) :: r, h, j, hj => by
    simp only [lkH] at hj
    cases hb : Nat.beq j k with
    | true => rw [Nat.eq_of_beq_eq_true hb]; exact h.1
    | false => simp only [hb, cond_false] at hj; exact HeldL_lk h.2 hj

def RetM (P : Program) (fn : Func) (as : List AV) (rv : RV) (H1 hs : List (Nat × Blk)) (e : Exit) (ρ : Fr) (η : Hp) : Prop :=
  (e = .normal ∨ e = .ret) ∧ ∃ v π, RetA P fn v ρ η ∧ RetRel π v rv ∧ wkO π η (H1 ++ hs) ∧ injO π (H1 ++ hs) ∧ HeldL π ρ as H1

theorem tmut_of {P : Program} {f : FuncId} {fn : Func} {c : Code} {as : List AV} {H0 H1 hs : List (Nat × Blk)} {rv : RV} (hf : P.funcs[f]? = some fn) (hb : fn.body = some c) (hn : (fn.name == "runtime.NumGoroutine") = false)
    (hN : as.length ≤ fn.ntmps) (hbox : noBox (H1 ++ hs) = true) (h : AWp P fn.ntmps c (RetM P fn as rv H1 hs) (lkF (slotsL 0 as)) (lkH H0)) : TMut P f as H0 rv H1 hs := by
  refine ⟨⟨fn, hf, by rw [hb]; rfl, hn⟩, fun w args μ0 hc0 hargs => ?_⟩
  refine calls_of_wp hf hb (wp_mono (h _ _ _ _ _ (mstart_StR hc0 hargs hN)) ?_)
  rintro e a' w' ⟨ρ', η', μ', ⟨he, v, π, hR, hrel, hwk, hinj, hheld⟩, hst⟩
  obtain ⟨y, hy, hv⟩ := hR _ _ _ _ _ _ hst
  have hok : ∀ b, okOf μ' η' b → okOf (fun j => (π j).bind μ') (lkH (H1 ++ hs)) b := fun b hb i hi => by
    obtain ⟨B, hB⟩ := Option.isSome_iff_exists.1 hi
    have := wkO_lk hwk i B hB
    cases hp : π i with
    | none => simp [hp]
    | some id => rw [hp] at this; simp only [hp, Option.bind_some]; exact hb id (by rw [this]; rfl)
  have hlent : ∀ j, (lkH H1 j).isSome → (π j).bind μ' = μ0 j := fun j hj => by
    obtain ⟨n, i, id, off, len, off', len', h1, h2, h3⟩ := HeldL_lk hheld hj
    have hs := hst.slots n
    rw [h1, VR] at hs
    obtain ⟨x, hx, hr⟩ := ((VRl_iff ..).1 hargs).2 i _ h3
    rw [VR] at hr
    rw [h2]
    simp only [Option.bind_some]
    have e : x = a'.tmps.getD n undef := by
      have h4 := hr.1
      have h5 := hs.1
      simp only [] at h4 h5
      rw [h4] at h5
      simpa using h5
    subst e
    rcases hs.2 with ⟨g1, _, _, g4⟩ | ⟨b, cap, e0, m, g1, g2, _⟩ <;> rcases hr.2 with ⟨k1, _, _, k4⟩ | ⟨b', cap', e0', m', k1, k2, _⟩
    · rw [g1, k1]
    · rw [g4] at k2; simp at k2
    · rw [g2] at k4; simp at k4
    · rw [g2] at k2; simp at k2; rw [g1, k1, k2.1.1]
  have fin : a'.defers = [] ∧ ∃ v, (results fn a'.tmps).run P w' = .ok v w' ∧ ∃ y μ, (Ending.returned v) = .returned y ∧ HC ⟨args, w.heap.size, lentB μ0 H0⟩ w μ (lkH (H1 ++ hs)) w' ∧ (∀ j, (lkH H1 j).isSome → μ j = μ0 j) ∧
      RRel args w' μ (okF ⟨args, w.heap.size, lentB μ0 H0⟩ (okOf μ (lkH (H1 ++ hs)))) rv y := by
    refine ⟨hst.defers, y, hy, y, fun j => (π j).bind μ', rfl, ⟨rfl, hst.hc.below, fun i B hB => ?_, fun i j b hi hj h1 h2 => ?_⟩, hlent, ?_⟩
    · have hw := wkO_lk hwk i B hB
      obtain ⟨e0, c0, rfl⟩ := noBox_lk hbox i B hB
      cases hp : π i with
      | none =>
        rw [hp] at hw
        obtain ⟨e, c, heq, h1, h2⟩ := hw
        cases heq
        exact ⟨h1, .inl ⟨by simp [hp], h2⟩⟩
      | some id =>
        rw [hp] at hw
        obtain ⟨g0, g⟩ := hst.hc.blk id _ hw
        refine ⟨g0, ?_⟩
        simp only [hp, Option.bind_some]
        refine Or.imp (fun x => x) ?_ g
        rintro ⟨b, cs, h1, h2, h3, h4, h5⟩
        exact ⟨b, cs, h1, h2, h3, h4, TRl.mono (fun b hb hk => ⟨hb, ⟨hok b hk.1, hk.2⟩, rfl⟩) _ _ h5⟩
    · obtain ⟨B, hB⟩ := Option.isSome_iff_exists.1 hi
      obtain ⟨B', hB'⟩ := Option.isSome_iff_exists.1 hj
      have hwi := wkO_lk hwk i B hB
      have hwj := wkO_lk hwk j B' hB'
      cases hpi : π i with
      | none => simp [hpi] at h1
      | some a =>
        cases hpj : π j with
        | none => simp [hpj] at h2
        | some a' =>
          rw [hpi] at hwi; rw [hpj] at hwj
          simp only [hpi, Option.bind_some] at h1
          simp only [hpj, Option.bind_some] at h2
          have := hst.hc.inj a a' b (by rw [hwi]; rfl) (by rw [hwj]; rfl) h1 h2
          subst this
          exact hinj i j a hi hj hpi hpj
    · exact retRel_RRel hok hrel hv
  rcases he with rfl | rfl <;> exact fin

theorem mret_ok {P : Program} {ty : Ty} (hT : TyOk P ty) {fn : Func} {as : List AV} {rv : RV} {H1 hs : List (Nat × Blk)} {e : Exit} {ρ : Fr} {η : Hp} (he : e = .normal ∨ e = .ret) (π : Nat → Option Nat) {rs : List ResultVar} {l : List AV} (hf : fn.results.toList = rs)
    (h : ResAl ty ρ η rs l) (hr : RetRel π (joinA l) rv) (hw : wkO π η (H1 ++ hs)) (hi : injO π (H1 ++ hs)) (hh : HeldL π ρ as H1) : RetM P fn as rv H1 hs e ρ η :=
  ⟨he, _, π, retA_of hT hf h, hr, hw, hi, hh⟩
/-- one lent block, known by one argument -/
theorem held1 {π : Nat → Option Nat} {ρ : Fr} {as : List AV} {j : Nat} {B : Blk} (n i id off len off' len' : Nat) (h1 : ρ n = .argo i id off len) (h2 : π j = some id) (h3 : as[i]? = some (.argo i j off' len')) : HeldL π ρ as [(j, B)] :=
  ⟨⟨n, i, id, off, len, off', len', h1, h2, h3⟩, trivial⟩

/-! ### the call -/

/-- the caller's name of what the callee calls 'j' -/
def sg : List (Nat × Nat) → Nat → Nat
  | [], _ => 0
  | (a, b) :: r, j => bif Nat.beq j a then b else sg r j
def relab (σ : List (Nat × Nat)) : List (Nat × Blk) → List (Nat × Blk)
  | [] => []
  | (j, B) :: r => (sg σ j, B) :: relab σ r
def vals (σ : List (Nat × Nat)) : List Nat := σ.map (·.2)

/-- the arguments as the callee sees them -/
inductive MA (σ : List (Nat × Nat)) (H0 : List (Nat × Blk)) (F : List Nat) (η : Hp) : Nat → AV → AV → Prop
  | tr {i : Nat} {v : AV} {t : T} (h : ToT F η v t) : MA σ H0 F η i v (argAV i t)
  | ow {i : Nat} {v : AV} {id off n L : Nat} (h : v.own? = some (id, off, n)) (hL : sg σ L = id) (hk : (lkH H0 L).isSome = true) : MA σ H0 F η i v (.argo i L off n)
inductive MAl (σ : List (Nat × Nat)) (H0 : List (Nat × Blk)) (F : List Nat) (η : Hp) : Nat → List AV → List AV → Prop
  | nil {i : Nat} : MAl σ H0 F η i [] []
  | cons {i : Nat} {v u : AV} {l m : List AV} (h : MA σ H0 F η i v u) (hs : MAl σ H0 F η (i + 1) l m) : MAl σ H0 F η i (v :: l) (u :: m)

theorem ma_f {σ : List (Nat × Nat)} {H0 : List (Nat × Blk)} {F : List Nat} {η : Hp} {i : Nat} {v : AV} {d : Bool} {k : FloatKind} {c : Nat} (h : v.tr = some (d, .f k c)) : MA σ H0 F η i v (.t (.f k c)) := MA.tr (t := .f k c) (.tr h)
theorem ma_v {σ : List (Nat × Nat)} {H0 : List (Nat × Blk)} {F : List Nat} {η : Hp} {i : Nat} {v : AV} {d : Bool} {x : Value} (h : v.tr = some (d, .v x)) : MA σ H0 F η i v (.t (.v x)) := MA.tr (t := .v x) (.tr h)
theorem ma_fl {σ : List (Nat × Nat)} {H0 : List (Nat × Blk)} {F : List Nat} {η : Hp} {i : Nat} {v : AV} {l : List Nat} (h : ToT F η v (.fl l)) : MA σ H0 F η i v (.arg i (.fl l)) := MA.tr (t := .fl l) h
theorem ma_il {σ : List (Nat × Nat)} {H0 : List (Nat × Blk)} {F : List Nat} {η : Hp} {i : Nat} {v : AV} {l : List Int} (h : ToT F η v (.il l)) : MA σ H0 F η i v (.arg i (.il l)) := MA.tr (t := .il l) h
theorem ma_fn {σ : List (Nat × Nat)} {H0 : List (Nat × Blk)} {F : List Nat} {η : Hp} {i : Nat} {v : AV} {f : FuncId} {l : List T} (h : ToT F η v (.fn f l)) : MA σ H0 F η i v (.arg i (.fn f l)) := MA.tr (t := .fn f l) h
def piA (a b : Nat) : Nat → Option Nat := fun j => bif Nat.beq j a then some b else none

/-- what is lent stands in the caller's state, flat, each one once -/
def lentOk (F : List Nat) (η : Hp) (σ : List (Nat × Nat)) : List (Nat × Blk) → Prop
  | [] => True
  | (j, B) :: r => (∃ e c, B = .sl e c ∧ c.flat = true ∧ η (sg σ j) = some (.sl e c) ∧ F.contains (sg σ j) = true ∧ (vals σ).contains (sg σ j) = true) ∧ lentOk F η σ r
theorem lentOk_lk {F : List Nat} {η : Hp} {σ : List (Nat × Nat)} : ∀ {H0 : List (Nat × Blk)}, lentOk F η σ H0 → ∀ {j : Nat} {B : Blk}, lkH H0 j = some B → ∃ e c, B = .sl e c ∧ c.flat = true ∧ η (sg σ j) = some (.sl e c) ∧ sg σ j ∈ F ∧ sg σ j ∈ vals σ
  | [], _, _, _, h => by simp [lkH] at h
  | (k, B) :: r, h, j, B', hj => by
    simp only [lkH] at hj
    cases hb : Nat.beq j k with
    | true =>
      rw [Nat.eq_of_beq_eq_true hb]
      simp only [hb, cond_true, Option.some.injEq] at hj; subst hj
      obtain ⟨e, c, h1, h2, h3, h4, h5⟩ := h.1
      exact ⟨e, c, h1, h2, h3, by simpa using h4, by simpa using h5⟩
    | false => simp only [hb, cond_false] at hj; exact lentOk_lk h.2 hj
/-- the new contents, flat too, of the same ids -/
def newOk : List (Nat × Blk) → List (Nat × Blk) → Bool
  | [], [] => true
  | (i, .sl _ _) :: r, (j, .sl _ c) :: s => Nat.beq i j && c.flat && newOk r s
  | _, _ => false
theorem newOk_lk : ∀ {H0 H1 : List (Nat × Blk)}, newOk H0 H1 = true → ∀ j, (lkH H0 j).isSome = (lkH H1 j).isSome ∧ ∀ B, lkH H1 j = some B → ∃ e c, B = .sl e c ∧ c.flat = true
  | [], [], _, j => ⟨rfl, fun B h => by simp [lkH] at h⟩
  | [], _ :: _, h, _ => by simp [newOk] at h
  | (i, .box _ _) :: _, _, h, _ => by simp [newOk] at h
  | (i, .sl _ _) :: r, [], h, _ => by simp [newOk] at h
  | (i, .sl _ _) :: r, (_, .box _ _) :: _, h, _ => by simp [newOk] at h
  | (i, .sl _ _) :: r, (k, .sl e c) :: s, h, j => by
    simp only [newOk, Bool.and_eq_true] at h
    obtain ⟨⟨h1, h2⟩, h3⟩ := h
    have := Nat.eq_of_beq_eq_true h1
    subst this
    obtain ⟨g1, g2⟩ := newOk_lk h3 j
    simp only [lkH]
    cases Nat.beq j i with
    | true => exact ⟨rfl, fun B hB => by simp only [cond_true, Option.some.injEq] at hB; exact ⟨e, c, hB.symm, h2⟩⟩
    | false => exact ⟨g1, g2⟩
/-- each name once -/
def injS (σ : List (Nat × Nat)) (H0 : List (Nat × Blk)) : Prop := ∀ i j, (lkH H0 i).isSome → (lkH H0 j).isSome → sg σ i = sg σ j → i = j
theorem injS_1 (σ : List (Nat × Nat)) (k : Nat) (B : Blk) : injS σ [(k, B)] := fun i j hi hj _ => by
  rcases lkH_sm hi with rfl | h
  · rcases lkH_sm hj with rfl | h
    · rfl
    · simp [lkH] at h
  · simp [lkH] at h
theorem injS_2 (σ : List (Nat × Nat)) (k m : Nat) (B C : Blk) (h : sg σ k ≠ sg σ m) : injS σ [(k, B), (m, C)] := fun i j hi hj h1 => by
  rcases lkH_sm hi with rfl | hi
  · rcases lkH_sm hj with rfl | hj
    · rfl
    · rcases lkH_sm hj with rfl | hj
      · exact absurd h1 h
      · simp [lkH] at hj
  · rcases lkH_sm hi with rfl | hi
    · rcases lkH_sm hj with rfl | hj
      · exact absurd h1.symm h
      · rcases lkH_sm hj with rfl | hj
        · rfl
        · simp [lkH] at hj
    · simp [lkH] at hi

theorem relab_lk {σ : List (Nat × Nat)} {H1 : List (Nat × Blk)} (hi : injS σ H1) {j : Nat} : (lkH H1 j).isSome → lkH (relab σ H1) (sg σ j) = lkH H1 j := by
  intro hj
  have key : ∀ (H : List (Nat × Blk)), (∀ k, (lkH H k).isSome → (lkH H1 k).isSome) → lkH (relab σ H) (sg σ j) = lkH H j := by
    intro H
    induction H with
    | nil => intro _; rfl
    | cons p r ih =>
      obtain ⟨k, B⟩ := p
      intro hs
      simp only [relab, lkH]
      have hk : (lkH H1 k).isSome := hs k (by simp [lkH])
      have e : Nat.beq (sg σ j) (sg σ k) = Nat.beq j k := by
        cases hb : Nat.beq j k with
        | true => rw [Nat.eq_of_beq_eq_true hb]; simp
        | false =>
          cases h : Nat.beq (sg σ j) (sg σ k) with
          | false => rfl
          | true =>
            have := hi j k hj hk (Nat.eq_of_beq_eq_true h)
            subst this; simp at hb
      rw [e]
      cases hb : Nat.beq j k with
      | true => rfl
      | false =>
        simp only [cond_false]
        by_cases hr : ∀ m, (lkH r m).isSome → (lkH H1 m).isSome
        · exact ih hr
        · exfalso
          refine hr fun m hm => ?_
          refine hs m ?_
          simp only [lkH]
          cases Nat.beq m k
          · exact hm
          · rfl
  exact key H1 (fun _ h => h)
theorem relab_mem {σ : List (Nat × Nat)} : ∀ {H1 : List (Nat × Blk)} {i : Nat} {B : Blk}, lkH (relab σ H1) i = some B → ∃ j, i = sg σ j ∧ (lkH H1 j).isSome
  | [], _, _, h => by simp [relab, lkH] at h
  | (k, C) :: r, i, B, h => by
    simp only [relab, lkH] at h
    cases hb : Nat.beq i (sg σ k) with
    | true => exact ⟨k, Nat.eq_of_beq_eq_true hb, by simp [lkH]⟩
    | false =>
      simp only [hb, cond_false] at h
      obtain ⟨j, h1, h2⟩ := relab_mem h
      refine ⟨j, h1, ?_⟩
      simp only [lkH]
      cases Nat.beq j k
      · exact h2
      · rfl

section
variable {P : Program} {o : Oper} {F : List Nat} {ρ : Fr} {η : Hp} {ty : Ty}

theorem q_callm {f : FuncId} {caps : List AV} {args : Array Operand} {tys : Array TypeId} {cx : Operand} {as : List AV} {rv : RV} {H0 H1 hs : List (Nat × Blk)} {d : Nat} (σ : List (Nat × Nat)) (hc : TMut P f as H0 rv H1 hs)
    (ho : o.op = .call { callee := .value cx, args := args, argTypes := tys }) (hd : o.dst = some d) (hcx : IsFn (evA ρ cx) f caps) (hts : MAl σ H0 (F.filter fun i => !(vals σ).contains i) η 0 (args.toList.map (evA ρ) ++ caps) as) (hbox : noBox hs = true) (hown : ownsB hs rv = true)
    (hl : lentOk F η σ H0) (hn : newOk H0 H1 = true) (hi : injS σ H0) (hdis : (cids d hs).all (fun i => !(vals σ).contains i) = true) (hkk : hs.all (fun p => (lkH H1 p.1).isNone) = true) :
    QRun P o F (cids d hs) ρ η (resV d (scrubL (cids d hs) (args.toList.map (evA ρ) ++ caps)) rv) (lkH (relab σ H1 ++ cblk d hs)) := by
  intro vs w0 μ η' a w Q K h1 h2 h3 h4
  obtain ⟨⟨fn, hfn, hbody, hname⟩, hcall⟩ := hc
  have hcv := h3 cx (by simp [ho, Op.operands, Call.operands])
  replace hcv := hcx.vr hcv
  rw [VR] at hcv
  obtain ⟨caps', hcv, hcaps⟩ := hcv
  have hargs : VRl vs w μ (okOf μ η') (args.toList.map (evA ρ) ++ caps) (args.toList.map a.eval ++ caps'.toList) := by
    obtain ⟨g1, g2⟩ := (VRl_iff ..).1 hcaps
    refine (VRl_iff ..).2 ⟨by simp [g1], fun i v hv => ?_⟩
    rcases Nat.lt_or_ge i args.toList.length with hi | hi
    · rw [List.getElem?_append_left (by simpa using hi)] at hv ⊢
      simp only [List.getElem?_map, Option.map_eq_some_iff] at hv
      obtain ⟨x, hx, rfl⟩ := hv
      exact ⟨a.eval x, by simp only [List.getElem?_map, hx, Option.map_some], h3 x (by simp [ho, Op.operands, Call.operands]; exact .inr (by simpa using List.mem_of_getElem? hx))⟩
    · rw [List.getElem?_append_right (by simpa using hi)] at hv ⊢
      simp only [List.length_map] at hv ⊢
      exact g2 _ v hv
  -- the callee's beginning
  let ys := args.toList.map a.eval ++ caps'.toList
  let μ0 : Nat → Option Nat := fun j => if (lkH H0 j).isSome then μ (sg σ j) else none
  have hμ0 : ∀ j, (lkH H0 j).isSome → μ0 j = μ (sg σ j) := fun j hj => by simp only [μ0, if_pos hj]
  have hlent : ∀ b, lentB μ0 H0 b → ∃ j e c, lkH H0 j = some (.sl e c) ∧ μ (sg σ j) = some b ∧ η' (sg σ j) = some (.sl e c) := fun b ⟨j, hj, hb⟩ => by
    rw [hμ0 j hj] at hb
    obtain ⟨B, hB⟩ := Option.isSome_iff_exists.1 hj
    obtain ⟨e, c, rfl, _, k3, k4, _⟩ := lentOk_lk hl hB
    exact ⟨j, e, c, hB, hb, (h1 _ k4).trans k3⟩
  have hc0 : HC ⟨ys, w.heap.size, lentB μ0 H0⟩ w μ0 (lkH H0) w := by
    refine ⟨rfl, Bel.refl _ _, fun j B hB => ?_, fun i j b hi' hj' m1 m2 => ?_⟩
    · obtain ⟨e, c, rfl, k2, k3, k4, _⟩ := lentOk_lk hl hB
      have hjs : (lkH H0 j).isSome := by rw [hB]; rfl
      obtain ⟨q1, q2⟩ := h2.blk _ _ ((h1 _ k4).trans k3)
      refine ⟨q1, ?_⟩
      rw [hμ0 j hjs]
      refine Or.imp (fun x => x) ?_ q2
      rintro ⟨b, cs, r1, r2, r3, r4, r5⟩
      exact ⟨b, cs, r1, .inr ⟨j, hjs, by rw [hμ0 j hjs]; exact r1⟩, r3, r4, flat_any k2 r5⟩
    · rw [hμ0 i hi'] at m1; rw [hμ0 j hj'] at m2
      obtain ⟨B, hB⟩ := Option.isSome_iff_exists.1 hi'
      obtain ⟨B', hB'⟩ := Option.isSome_iff_exists.1 hj'
      obtain ⟨e, c, _, _, k3, k4, _⟩ := lentOk_lk hl hB
      obtain ⟨e', c', _, _, k3', k4', _⟩ := lentOk_lk hl hB'
      exact hi i j hi' hj' (h2.inj _ _ b (by rw [(h1 _ k4).trans k3]; rfl) (by rw [(h1 _ k4').trans k3']; rfl) m1 m2)
  have hok0 : ∀ b, okOf μ η' b → okOf μ0 (lkH H0) b := fun b hb j hj => by
    rw [hμ0 j hj]
    obtain ⟨B, hB⟩ := Option.isSome_iff_exists.1 hj
    obtain ⟨e, c, _, _, k3, k4, _⟩ := lentOk_lk hl hB
    exact hb _ (by rw [(h1 _ k4).trans k3]; rfl)
  have hF' : ∀ i ∈ F.filter (fun i => !(vals σ).contains i), η' i = η i := fun i hi => h1 i (List.mem_filter.1 hi).1
  have hVR : VRl ⟨ys, w.heap.size, lentB μ0 H0⟩ w μ0 (okOf μ0 (lkH H0)) as ys := by
    have hTR : ∀ (v : AV) (t : T) (y : Value), ToT (F.filter fun i => !(vals σ).contains i) η v t → VR vs w μ (okOf μ η') v y → TR w (okOf μ0 (lkH H0)) t y := by
      intro v t y ht hv
      have hk2 : ∀ i ∈ F.filter (fun i => !(vals σ).contains i), ∀ b, μ i = some b → (η' i).isSome → okOf μ0 (lkH H0) b := fun i hi' b hb hs j hj => by
        rw [hμ0 j hj]
        intro hm
        obtain ⟨B, hB⟩ := Option.isSome_iff_exists.1 hj
        obtain ⟨e, c, _, _, k3, k4, k5⟩ := lentOk_lk hl hB
        have := h2.inj i (sg σ j) b hs (by rw [(h1 _ k4).trans k3]; rfl) hb hm
        subst this
        have h6 := (List.mem_filter.1 hi').2
        simp at h6; exact h6 k5
      exact toT_TR' hF' h2 hok0 hk2 ht hv
    have key : ∀ (i : Nat) (l m : List AV) (zs : List Value), MAl σ H0 (F.filter fun i => !(vals σ).contains i) η i l m → VRl vs w μ (okOf μ η') l zs → (∀ k z, zs[k]? = some z → ys[i + k]? = some z) → VRl ⟨ys, w.heap.size, lentB μ0 H0⟩ w μ0 (okOf μ0 (lkH H0)) m zs := by
      intro i l m zs hm
      induction hm generalizing zs with
      | nil => intro hv _; rw [VRl] at *; exact hv
      | @cons i v u l m hma hms ih =>
        intro hv hz
        rw [VRl] at hv
        obtain ⟨z, zs', rfl, hv1, hv2⟩ := hv
        rw [VRl]
        refine ⟨z, zs', rfl, ?_, ih zs' hv2 fun k z' hk => by have := hz (k + 1) z' (by simpa using hk); simpa [Nat.add_assoc, Nat.add_comm 1 k] using this⟩
        have hzi : ys[i]? = some z := by simpa using hz 0 z rfl
        cases hma with
        | tr h => exact argAV_VR hzi (hTR _ _ _ h hv1)
        | ow h hL hk =>
          have hown := VR_own hv1 h
          rw [VR] at hown
          rw [VR, hμ0 _ hk, hL]
          exact ⟨hzi, hown⟩
    exact key 0 _ _ _ hts hargs (fun k z hz => by simpa using hz)
  have hcs := hcall w ys μ0 hc0 hVR
  have hrun : (execOp a.eval o).run P w = .ok (.enter f ys.toArray) w := by
    have e : ys.toArray = args.map a.eval ++ caps' := by apply Array.ext'; simp [ys]
    rw [e]
    simp [execOp, ho, resolve, Deferred.ofValue, hcv, invoke, invoke_run hfn hbody hname]
  unfold Oper.wp
  rw [hrun, Oper.upon_enter]
  refine hcs.mono ?_
  rintro e w' ⟨y, μr, rfl, hcr, hsame, hrr⟩
  simp only []
  have hbel := hcr.below
  have hnk : ∀ j, (lkH H0 j).isSome ↔ (lkH H1 j).isSome := fun j => by rw [(newOk_lk hn j).1]
  have hinj1 : injS σ H1 := fun i j hi1 hj1 he => hi i j ((hnk i).2 hi1) ((hnk j).2 hj1) he
  let S := cids d hs
  let μ' : Nat → Option Nat := fun i => if i ∈ S then μr ((i - d) / 1000) else μ i
  have hcid : ∀ j, (cid d j - d) / 1000 = j := fun j => by unfold cid; omega
  have hin : ∀ j, (lkH hs j).isSome → cid d j ∈ S := fun j hj => by
    obtain ⟨B, hB⟩ := Option.isSome_iff_exists.1 hj
    exact mem_cids.2 ⟨j, B, lkH_mem hB, rfl⟩
  have hnot1 : ∀ j, (lkH hs j).isSome → lkH H1 j = none := fun j hj => by
    obtain ⟨B, hB⟩ := Option.isSome_iff_exists.1 hj
    have := List.all_eq_true.1 hkk _ (lkH_mem hB)
    simpa using this
  have hlk1 : ∀ j B, lkH H1 j = some B → lkH (H1 ++ hs) j = some B := fun j B hB => by rw [lkH_append, hB]
  have hlk2 : ∀ j, (lkH hs j).isSome → lkH (H1 ++ hs) j = lkH hs j := fun j hj => by rw [lkH_append, hnot1 j hj]
  have hall : ∀ j, (lkH (H1 ++ hs) j).isSome → (lkH H1 j).isSome ∨ (lkH hs j).isSome := fun j hj => by
    rw [lkH_append] at hj
    cases h : lkH H1 j with
    | some B => exact .inl rfl
    | none => rw [h] at hj; exact .inr hj
  have hσS : ∀ j, (lkH H1 j).isSome → sg σ j ∉ S := fun j hj hmem => by
    obtain ⟨B, hB⟩ := Option.isSome_iff_exists.1 ((hnk j).2 hj)
    obtain ⟨_, _, _, _, _, _, k5⟩ := lentOk_lk hl hB
    have := List.all_eq_true.1 hdis _ hmem
    simp at this; exact this k5
  have hμn : ∀ j, (lkH hs j).isSome → μ' (cid d j) = μr j := fun j hj => by simp only [μ', if_pos (hin j hj), hcid]
  have hμl : ∀ j, (lkH H1 j).isSome → μr j = μ (sg σ j) := fun j hj => by rw [hsame j hj, hμ0 j ((hnk j).2 hj)]
  have hold : ∀ i b, (η' i).isSome → μ i = some b → b < w.heap.size := fun i b hi hm => by
    obtain ⟨B, hB⟩ := Option.isSome_iff_exists.1 hi
    exact (blk_lt (h2.blk i B hB) hm).2
  have hση : ∀ j, (lkH H1 j).isSome → (η' (sg σ j)).isSome := fun j hj => by
    obtain ⟨B, hB⟩ := Option.isSome_iff_exists.1 ((hnk j).2 hj)
    obtain ⟨e, c, _, _, k3, k4, _⟩ := lentOk_lk hl hB
    rw [(h1 _ k4).trans k3]; rfl
  -- a new block of the callee's is none of those that were there
  have hge : ∀ j b, (lkH hs j).isSome → μr j = some b → w.heap.size ≤ b := fun j b hj hm => by
    obtain ⟨B, hB⟩ := Option.isSome_iff_exists.1 hj
    have hB' : lkH (H1 ++ hs) j = some B := (hlk2 j hj).trans hB
    rcases (blk_lt (hcr.blk j B hB') hm).1 with h | ⟨k, hk, hb⟩
    · exact h
    · exfalso
      have hk1 := (hnk k).1 hk
      rw [hμ0 k hk, ← hμl k hk1] at hb
      obtain ⟨B1, hB1⟩ := Option.isSome_iff_exists.1 hk1
      have := hcr.inj j k b (by rw [hB']; rfl) (by rw [hlk1 k B1 hB1]; rfl) hm hb
      subst this
      rw [hnot1 j hj] at hB1; cases hB1
  let ch := lkH (relab σ H1 ++ cblk d hs)
  let η2 := hpS S ch η'
  have hchσ : ∀ j B, lkH H1 j = some B → ch (sg σ j) = some B := fun j B hB => by
    simp only [ch]; rw [lkH_append, relab_lk hinj1 (by rw [hB]; rfl), hB]
  have hchn : ∀ j, (lkH hs j).isSome → ch (cid d j) = lkH hs j := fun j hj => by
    simp only [ch]
    rw [lkH_append]
    cases h : lkH (relab σ H1) (cid d j) with
    | none => simp only []; exact lkH_cblk
    | some B =>
      obtain ⟨k, h5, h6⟩ := relab_mem h
      exact absurd (by rw [← h5]; exact hin j hj) (hσS k h6)
  have hch0 : ∀ i, i ∉ S → (∀ j, (lkH H1 j).isSome → i ≠ sg σ j) → ch i = none := fun i hi hne => by
    simp only [ch]
    rw [lkH_append]
    cases h : lkH (relab σ H1) i with
    | none => simp only []; exact lkH_cblk_none hi
    | some B =>
      obtain ⟨k, h5, h6⟩ := relab_mem h
      exact absurd h5 (hne k h6)
  have hchs : ∀ i B, ch i = some B → (∃ j, (lkH hs j).isSome ∧ i = cid d j ∧ lkH hs j = some B) ∨ ∃ j, i = sg σ j ∧ lkH H1 j = some B := fun i B hB => by
    by_cases hiS : i ∈ S
    · obtain ⟨j, B0, hj, rfl⟩ := mem_cids.1 hiS
      have hjs := lkH_some hj
      exact .inl ⟨j, hjs, rfl, by rw [← hchn j hjs]; exact hB⟩
    · by_cases hne : ∀ j, (lkH H1 j).isSome → i ≠ sg σ j
      · rw [hch0 i hiS hne] at hB; cases hB
      · have hex : ∃ j, (lkH H1 j).isSome ∧ i = sg σ j := Classical.byContradiction fun hx => hne fun j hj he => hx ⟨j, hj, he⟩
        obtain ⟨j, hj, rfl⟩ := hex
        obtain ⟨B1, hB1⟩ := Option.isSome_iff_exists.1 hj
        rw [hchσ j B1 hB1] at hB; cases hB
        exact .inr ⟨j, rfl, hB1⟩
  have hdom : ∀ i, i ∉ S → ((η2 i).isSome ↔ (η' i).isSome) := fun i hi => by
    simp only [η2, hpS]
    cases hci : ch i with
    | some B =>
      simp only []
      rcases hchs i B hci with ⟨j, hj, rfl, _⟩ | ⟨j, rfl, hj⟩
      · exact absurd (hin j hj) hi
      · have := hση j (by rw [hj]; rfl); simp [this]
    | none =>
      have : S.contains i = false := by simpa using hi
      simp only [this, Bool.false_eq_true, if_false, Option.isSome_map]
  have hk : Keeps w w' μ μ' (okOf μ η') (okOf μ' η2) (· ∈ S) := by
    refine ⟨fun b hb hok => ⟨by have := hbel.size; omega, fun i hi => ?_, hbel.block b hb fun hl => ?_⟩, fun i hi => by simp only [μ', if_neg hi], fun i b hi hm s hs => hbel.shape b s hs⟩
    · by_cases hiS : i ∈ S
      · obtain ⟨j, B, hj, rfl⟩ := mem_cids.1 hiS
        have hjs := lkH_some hj
        rw [hμn j hjs]
        intro h
        have := hge j b hjs h; omega
      · have hi' := (hdom i hiS).1 hi
        simp only [μ', if_neg hiS]; exact hok i hi'
    · obtain ⟨j, e, c, _, k2, k3⟩ := hlent b hl
      exact hok _ (by rw [k3]; rfl) k2
  have hok2 : ∀ b, okF ⟨ys, w.heap.size, lentB μ0 H0⟩ (okOf μr (lkH (H1 ++ hs))) b → okF vs (okOf μ' η2) b := fun b ⟨hb1, hb2⟩ => by
    have hb2' : w.heap.size ≤ b := hb2
    refine ⟨fun i hi => ?_, by rw [h2.base]; exact Nat.le_trans h2.below.size hb2⟩
    by_cases hiS : i ∈ S
    · obtain ⟨j, B, hj, rfl⟩ := mem_cids.1 hiS
      have hjs := lkH_some hj
      rw [hμn j hjs]; exact hb1 j (by rw [hlk2 j hjs]; exact hjs)
    · have hi' := (hdom i hiS).1 hi
      simp only [μ', if_neg hiS]
      intro h
      have := hold i b hi' h
      omega
  have hBel : Bel vs w0 w' := by
    refine ⟨hbel.os.trans h2.below.os, hbel.tape.trans h2.below.tape, hbel.output.trans h2.below.output, Nat.le_trans h2.below.size hbel.size, fun k hk hl => ?_, fun k s hs => hbel.shape k s (h2.below.shape k s hs)⟩
    refine (hbel.block k (Nat.lt_of_lt_of_le hk h2.below.size) fun hlo => ?_).trans (h2.below.block k hk hl)
    obtain ⟨j, e, c, _, k2, k3⟩ := hlent k hlo
    rcases (blk_lt (h2.blk _ _ k3) k2).1 with h | h
    · omega
    · exact hl h
  have hHC : HC vs w0 μ' η2 w' := by
    refine HC_step h2 hk hBel (fun i B hiB hiS hci b hm => hbel.block b (hold i b (by rw [hiB]; rfl) hm) fun hlo => ?_) (fun i B hci => ?_) (fun i j b hi' hj' hm1 hm2 => ?_)
    · obtain ⟨j, e, c, k1, k2, k3⟩ := hlent b hlo
      have := h2.inj i (sg σ j) b (by rw [hiB]; rfl) (by rw [k3]; rfl) hm k2
      subst this
      obtain ⟨B1, hB1⟩ := Option.isSome_iff_exists.1 ((hnk j).1 (by rw [k1]; rfl))
      rw [hchσ j B1 hB1] at hci; cases hci
    · rcases hchs i B hci with ⟨j, hjs, rfl, hB⟩ | ⟨j, rfl, hB⟩
      · obtain ⟨e0, c0, rfl⟩ := noBox_lk hbox j B hB
        obtain ⟨q1, q2⟩ := hcr.blk j _ ((hlk2 j hjs).trans hB)
        refine ⟨q1, ?_⟩
        rw [hμn j hjs]
        refine Or.imp (fun x => x) ?_ q2
        rintro ⟨b, cs, r1, r2, r3, r4, r5⟩
        exact ⟨b, cs, r1, .inl (Nat.le_trans h2.below.size (hge j b hjs r1)), r3, r4, TRl.mono (fun b hb hk => ⟨hb, hok2 b hk, rfl⟩) _ _ r5⟩
      · obtain ⟨e0, c0, rfl, hfl⟩ := (newOk_lk hn j).2 B hB
        have hj1 : (lkH H1 j).isSome := by rw [hB]; rfl
        obtain ⟨q1, q2⟩ := hcr.blk j _ (hlk1 j _ hB)
        refine ⟨q1, ?_⟩
        have hμj : μ' (sg σ j) = μr j := by simp only [μ', if_neg (hσS j hj1)]; exact (hμl j hj1).symm
        rw [hμj]
        refine Or.imp (fun x => x) ?_ q2
        rintro ⟨b, cs, r1, r2, r3, r4, r5⟩
        refine ⟨b, cs, r1, ?_, r3, r4, flat_any hfl r5⟩
        obtain ⟨B', hB'⟩ := Option.isSome_iff_exists.1 (hση j hj1)
        exact (blk_lt (h2.blk _ _ hB') (by rw [← hμl j hj1]; exact r1)).1
    · by_cases hiS : i ∈ S
      · obtain ⟨k, B, hkm, rfl⟩ := mem_cids.1 hiS
        have hks := lkH_some hkm
        rw [hμn k hks] at hm1
        by_cases hjS : j ∈ S
        · obtain ⟨l, B', hlm, rfl⟩ := mem_cids.1 hjS
          have hls := lkH_some hlm
          rw [hμn l hls] at hm2
          rw [hcr.inj k l b (by rw [hlk2 k hks]; exact hks) (by rw [hlk2 l hls]; exact hls) hm1 hm2]
        · have hj2 := (hdom j hjS).1 hj'
          simp only [μ', if_neg hjS] at hm2
          have := hold j b hj2 hm2
          have := hge k b hks hm1; omega
      · have hi2 := (hdom i hiS).1 hi'
        simp only [μ', if_neg hiS] at hm1
        have h5 := hold i b hi2 hm1
        by_cases hjS : j ∈ S
        · obtain ⟨l, B', hlm, rfl⟩ := mem_cids.1 hjS
          have hls := lkH_some hlm
          rw [hμn l hls] at hm2
          have := hge l b hls hm2; omega
        · have hj2 := (hdom j hjS).1 hj'
          simp only [μ', if_neg hjS] at hm2
          exact h2.inj i j b hi2 hj2 hm1 hm2
  refine h4 y μ' w' hHC hk ?_
  have havs : VRl vs w' μ' (okOf μ' η2) (scrubL S (args.toList.map (evA ρ) ++ caps)) ys := VRl.mono hk _ _ (scrub_refsL S _) (VRl.scrub _ _ hargs)
  exact resV_VR (S := S) havs hok2 (fun j n hj => hμn j hj) rv hown y hrr
end
end Go.Aw
