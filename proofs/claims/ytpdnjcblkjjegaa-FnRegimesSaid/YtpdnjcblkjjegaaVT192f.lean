import Derived.Test.YtpdnjcblkjjegaaVT87
set_option linter.unusedVariables false
set_option linter.unusedSimpArgs false
set_option maxRecDepth 100000
set_option maxHeartbeats 8000000
namespace Go.Proofs.Ytpdnjcblkjjegaa
open Go.Aw Go.RowKit Go.Shelf

/-! ### a walk of straight code, in a round of a range over a function and behind one -/
def okFence (F : Fence) : Prop := F = Fence.wide ∨ ∃ l, F = Fence.wide.inRound l
theorem fence_fn {F : Fence} (h : okFence F) (f : Nat) : F.fn f := by rcases h with rfl | ⟨l, rfl⟩ <;> trivial
theorem fence_depth {F : Fence} (h : okFence F) : F.depth.isSome = true → ∀ {p : Prop}, p := by rcases h with rfl | ⟨l, rfl⟩ <;> intro h <;> cases h
theorem fence_calls {F : Fence} (h : okFence F) {n : Nat} {P : Program} {f : FuncId} {args : Array Value} {w : World} {R : Ending → World → Prop} (hc : Calls P f args w R) : CallsIn F n P f args w R := by
  rcases h with rfl | ⟨l, rfl⟩
  · exact callsIn_wide.2 hc
  · exact CallsIn.inRound l (callsIn_wide.2 hc)
theorem fence_rows {F : Fence} (h : okFence F) {n : Nat} {P : Program} {row : String} {args : Array Value} {w : World} {R : Value → World → Prop} (hc : Rows P row args w R) : RowsIn F n P row args w R := by
  have hw : RowsIn Fence.wide n P row args w R := fun c cs _ => by
    obtain ⟨v, w', r, s⟩ := hc c cs
    exact ⟨v, w', r, stepsIn_wide.2 s⟩
  rcases h with rfl | ⟨l, rfl⟩
  · exact hw
  · exact fun c cs _ => hw c cs (room_wide _)
theorem oper_in {F : Fence} (hF : okFence F) {n : Nat} {P : Program} {o : Oper} {a : Act} {w : World} {K : Act → World → Prop} {Q : Exit → Act → World → Prop} (hd : ∀ c, o.op ≠ .defer c) (h : o.wp P a w K Q) : o.wpIn F n P a w K Q := by
  refine ⟨fun f _ => fence_fn hF f, ?_⟩
  rw [Oper.semAt_eq _ _ _ hd]
  unfold Oper.wp at h
  revert h
  generalize (execOp a.eval o).run P w = r
  intro h
  cases r with
  | ok x w' =>
    cases x with
    | value v => exact h
    | skip => exact h
    | defer d => exact h
    | enter f args => exact ⟨fun hs => fence_depth hF hs, fence_calls hF h⟩
    | row row args => exact ⟨fun hs => fence_depth hF hs, fence_rows hF h⟩
    | _ => exact absurd h (by simp [Oper.upon])
  | halt s w' =>
    cases s with
    | panic v => exact h
    | _ => exact absurd h (by simp [Oper.upon])
/-- a state, whatever is deferred -/
structure StD (vs : Env) (N : Nat) (w0 : World) (μ : Nat → Option Nat) (ρ : Fr) (η : Hp) (a : Act) (w : World) : Prop where
  hc : HC vs w0 μ η w
  size : a.tmps.size = N
  slots : ∀ n, VR vs w μ (okOf μ η) (ρ n) (a.tmps.getD n undef)
theorem toStR {vs : Env} {N : Nat} {w0 : World} {μ : Nat → Option Nat} {ρ : Fr} {η : Hp} {a : Act} {w : World} (h : StD vs N w0 μ ρ η a w) : StR vs N w0 μ ρ η { a with defers := [] } w := ⟨h.hc, h.size, rfl, h.slots⟩
theorem toStD {vs : Env} {N : Nat} {w0 : World} {μ : Nat → Option Nat} {ρ : Fr} {η : Hp} {a : Act} {w : World} (h : StR vs N w0 μ ρ η a w) : StD vs N w0 μ ρ η a w := ⟨h.hc, h.size, h.slots⟩
theorem put_tmps (a : Act) (d : Option Nat) (y : Value) : ({ a with defers := [] } : Act).put d y = { (a.put d y) with defers := [] } := by cases d <;> rfl
theorem put_def (a : Act) (d : Option Nat) (y : Value) : (a.put d y).defers = a.defers := by cases d <;> rfl
theorem stepD {vs : Env} {N : Nat} {w0 : World} {μ μ' : Nat → Option Nat} {ρ : Fr} {η η' : Hp} {a : Act} {w w' : World} {S : List Nat} {d : Option Nat} {v : AV} {y : Value}
    (h : StD vs N w0 μ ρ η a w) (hd : dstB N d = true) (hc : HC vs w0 μ' η' w') (hk : Keeps w w' μ μ' (okOf μ η) (okOf μ' η') (· ∈ S)) (hv : VR vs w' μ' (okOf μ' η') v y) :
    StD vs N w0 μ' (stepF S d v ρ) η' (a.put d y) w' := by
  have := toStD ((toStR h).step hd hc hk hv)
  rw [put_tmps] at this
  exact ⟨this.hc, this.size, this.slots⟩
theorem eval_d (a : Act) (x : Operand) : ({ a with defers := [] } : Act).eval x = a.eval x := by cases x <;> rfl
def noDef (Z : List (Nat × Value)) (l : List Oper) : Bool := l.all fun o => (match o.op with | .defer _ => false | _ => true) && (match o.dst with | some d => Z.all fun p => !(Nat.beq p.1 d) | none => true)
theorem noDef_ne {Z : List (Nat × Value)} {l : List Oper} (h : noDef Z l = true) {o : Oper} (ho : o ∈ l) (c : Call) : o.op ≠ .defer c := fun e => by
  have := List.all_eq_true.1 h o ho
  rw [e] at this; cases this
/-- these slots hold these values -/
def Hld (Z : List (Nat × Value)) (a : Act) : Prop := ∀ p ∈ Z, a.tmps.getD p.1 undef = p.2
theorem hld_put {Z : List (Nat × Value)} {l : List Oper} (h : noDef Z l = true) {o : Oper} (ho : o ∈ l) {a : Act} {N : Nat} (hN : a.tmps.size = N) (hd : dstB N o.dst = true) (y : Value) (hz : Hld Z a) : Hld Z (a.put o.dst y) := fun p hp => by
  have h1 := List.all_eq_true.1 h o ho
  rw [Bool.and_eq_true] at h1
  have key : ∀ (d : Option Nat), dstB N d = true → (match d with | some d => Z.all fun p => !(Nat.beq p.1 d) | none => true) = true → (a.put d y).tmps.getD p.1 undef = p.2 := fun d hd h2 => by
    rw [put_getD hN hd]
    cases d with
    | none => exact hz p hp
    | some d =>
      have h2 := List.all_eq_true.1 h2 p hp
      have hne : p.1 ≠ d := fun e => by rw [e, Nat.beq_refl] at h2; cases h2
      simp only []
      rw [if_neg hne]; exact hz p hp
  exact key _ hd h1.2
theorem lex_in {F : Fence} (hF : okFence F) {n : Nat} {P : Program} {vs : Env} {N : Nat} {w0 : World} {ops : Array Oper} {K : Fr → Hp → Prop} {Q : Exit → Act → World → Prop} {ds : List Deferred} {Z : List (Nat × Value)} :
    ∀ (l : List Oper) (tab : List (List Nat × List Nat)) (ρ : Fr) (η : Hp) (μ : Nat → Option Nat) (a : Act) (w : World), noDef Z l = true → Lex P N ops false K tab l ρ η → StD vs N w0 μ ρ η a w → a.defers = ds → Hld Z a →
      (∀ ρ η μ a w, K ρ η → StD vs N w0 μ ρ η a w → a.defers = ds → Hld Z a → Q .normal a w) → wpListIn F n P ops Q l a w
  | [], _, _, _, _, _, _, _, h, hs, hd, hz, hQ => hQ _ _ _ _ _ h.2 hs hd hz
  | o :: l, tab, ρ, η, μ, a, w, hn, h, hs, hds, hz, hQ => by
    obtain ⟨Ft, C, S, v, ch, tab', rfl, hy, hr⟩ := h
    have hn' : noDef Z l = true := by
      unfold noDef at hn ⊢
      rw [List.all_cons, Bool.and_eq_true] at hn; exact hn.2
    obtain ⟨hd, ⟨hg, hq, _⟩ | ⟨hg, hv, rfl, rfl⟩⟩ := hy
    · unfold wpListIn
      rw [if_pos (guard_wanted (toStR hs) hg)]
      refine oper_in hF (noDef_ne hn List.mem_cons_self) ?_
      refine hq vs w0 μ η a w Q _ (fun _ _ => rfl) hs.hc (fun x _ => ?_) fun y μ' w' hc hk hv => ?_
      · have := evA_VR (toStR hs) x; rwa [eval_d] at this
      · exact lex_in hF l tab' _ _ μ' _ w' hn' hr (stepD hs hd hc hk hv) (by rw [put_def]; exact hds) (hld_put hn List.mem_cons_self hs.size hd y hz) hQ
    · unfold wpListIn
      rw [if_neg (by rw [guard_wanted (toStR hs) hg]; simp)]
      refine ⟨fun f _ => fence_fn hF f, ?_⟩
      have e : hpS [] (lkH []) η = η := hpS_nil η
      rw [e] at hr
      refine lex_in hF l tab' _ _ μ _ w hn' hr (stepD hs hd hs.hc ⟨fun b hb hk => ⟨hb, hk, rfl⟩, fun _ _ => rfl, fun _ _ _ _ _ hs => hs⟩ (by rcases hv with rfl | rfl <;> rw [VR] <;> first | trivial | (rw [TR]))) (by rw [put_def]; exact hds) (hld_put hn List.mem_cons_self hs.size hd _ hz) hQ
/-- straight code from a state, under a fence -/
def AWd (F : Fence) (n : Nat) (P : Program) (N : Nat) (c : Code) (R : Exit → Act → World → Prop) (vs : Env) (w0 : World) (ds : List Deferred) (Z : List (Nat × Value)) (ρ : Fr) (η : Hp) : Prop :=
  ∀ μ a w, a.defers = ds → Hld Z a → StD vs N w0 μ ρ η a w → c.wpIn F n P R a w
section
variable {F : Fence} {n : Nat} {P : Program} {N : Nat} {R : Exit → Act → World → Prop} {vs : Env} {w0 : World} {ds : List Deferred} {Z : List (Nat × Value)} {ρ : Fr} {η : Hp}
theorem awd_rg (hF : okFence F) {id : Nat} {ops : Array Oper} (hn : noDef Z ops.toList = true) (h : LexD P N ops false (fun ρ η => ∀ μ a w, a.defers = ds → Hld Z a → StD vs N w0 μ ρ η a w → R .normal a w) [] ops.toList ρ η) : AWd F n P N (.region id ops false) R vs w0 ds Z ρ η := by
  intro μ a w hds hz hs
  obtain ⟨tab, h1, _⟩ := h
  exact wpIn_region_list (lex_in hF ops.toList tab ρ η μ a w hn h1 hs hds hz fun ρ η μ a w hk hs hd hz => hk μ a w hd hz hs)
theorem awd_sq (hF : okFence F) {id : Nat} {ops : Array Oper} {y : Code} (hn : noDef Z ops.toList = true) (h : LexD P N ops false (fun ρ η => AWd F n P N y R vs w0 ds Z ρ η) [] ops.toList ρ η) : AWd F n P N (.seq (.region id ops false) y) R vs w0 ds Z ρ η := by
  intro μ a w hds hz hs
  obtain ⟨tab, h1, _⟩ := h
  refine wpIn_seq (wpIn_region_list (lex_in hF ops.toList tab ρ η μ a w hn h1 hs hds hz fun ρ η μ a w hk hs hd hz => ?_))
  exact hk μ a w hd hz hs
theorem awd_ret (h : ∀ μ a w, a.defers = ds → Hld Z a → StD vs N w0 μ ρ η a w → R .ret a w) : AWd F n P N .ret R vs w0 ds Z ρ η := fun μ a w hds hz hs => wpIn_ret (h μ a w hds hz hs)
end
end Go.Proofs.Ytpdnjcblkjjegaa

