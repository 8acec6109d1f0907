/- Code over symbolic states: the rules of the walk; what a call of a function comes to. -/
import Derived.Test.YtodnginckchmdaaAwDraw
set_option linter.unusedVariables false
namespace Go.Aw
open Go.RowKit (Below)

/-- From every state that is as 'ρ', 'η' say the code ends as 'Q' says. -/
def AWp (P : Program) (N : Nat) (c : Code) (Q : Exit → Fr → Hp → Prop) (ρ : Fr) (η : Hp) : Prop :=
  ∀ (vs : Env) (w0 : World) (μ : Nat → Option Nat) (a : Act) (w : World), StR vs N w0 μ ρ η a w → c.wp P (fun e a' w' => ∃ ρ' η' μ', Q e ρ' η' ∧ StR vs N w0 μ' ρ' η' a' w') a w

def thenA (K : Fr → Hp → Prop) (Q : Exit → Fr → Hp → Prop) : Exit → Fr → Hp → Prop
  | .normal => K
  | e => Q e
def blockA (id : Nat) (Q : Exit → Fr → Hp → Prop) : Exit → Fr → Hp → Prop
  | .exit id' => fun ρ η => if id' = id then Q .normal ρ η else Q (.exit id') ρ η
  | e => Q e

section
variable {P : Program} {N : Nat} {Q : Exit → Fr → Hp → Prop} {ρ : Fr} {η : Hp}

theorem awp_skip (h : Q .normal ρ η) : AWp P N .skip Q ρ η := fun _ _ μ _ _ hs => wp_skip ⟨ρ, η, μ, h, hs⟩
theorem awp_label {l : Nat} (h : Q .normal ρ η) : AWp P N (.label l) Q ρ η := fun _ _ μ _ _ hs => wp_label ⟨ρ, η, μ, h, hs⟩
theorem awp_ret (h : Q .ret ρ η) : AWp P N .ret Q ρ η := fun _ _ μ _ _ hs => wp_ret ⟨ρ, η, μ, h, hs⟩
theorem awp_exit {id : Nat} (h : Q (.exit id) ρ η) : AWp P N (.exit id) Q ρ η := fun _ _ μ _ _ hs => wp_exit ⟨ρ, η, μ, h, hs⟩

theorem awp_mono {c : Code} {Q' : Exit → Fr → Hp → Prop} (h : AWp P N c Q ρ η) (hq : ∀ e ρ η, Q e ρ η → Q' e ρ η) : AWp P N c Q' ρ η :=
  fun vs w0 μ a w hs => wp_mono (h vs w0 μ a w hs) fun e a' w' ⟨ρ', η', μ', q, s⟩ => ⟨ρ', η', μ', hq _ _ _ q, s⟩

theorem awp_seq {x y : Code} (h : ∀ K : Fr → Hp → Prop, (∀ ρ η, AWp P N y Q ρ η → K ρ η) → AWp P N x (thenA K Q) ρ η) : AWp P N (.seq x y) Q ρ η := by
  intro vs w0 μ a w hs
  refine wp_seq (wp_mono (h _ (fun _ _ h => h) vs w0 μ a w hs) ?_)
  rintro e a' w' ⟨ρ', η', μ', q, s⟩
  cases e <;> first
    | exact ⟨ρ', η', μ', q, s⟩
    | exact q vs w0 μ' a' w' s

theorem awp_block {id : Nat} {c : Code} (h : AWp P N c (blockA id Q) ρ η) : AWp P N (.block id c) Q ρ η := by
  intro vs w0 μ a w hs
  refine wp_block (wp_mono (h vs w0 μ a w hs) ?_)
  rintro e a' w' ⟨ρ', η', μ', q, s⟩
  cases e <;> first
    | exact ⟨ρ', η', μ', q, s⟩
    | (simp only [Exit.inBlock, blockA] at q ⊢
       split at q
       · rename_i he; rw [if_pos he]; exact ⟨ρ', η', μ', q, s⟩
       · rename_i he; rw [if_neg he]; exact ⟨ρ', η', μ', q, s⟩)

theorem awp_cond {c : Operand} {x y : Code} {b : Bool} (hc : evA ρ c = .t (.v (.bool b))) (h1 : b = true → AWp P N x Q ρ η) (h2 : b = false → AWp P N y Q ρ η) : AWp P N (.cond c x y) Q ρ η := by
  intro vs w0 μ a w hs
  have hv := evA_VR hs c
  rw [hc, VR, TR] at hv
  cases b with
  | true => exact wp_cond_true hv (h1 rfl vs w0 μ a w hs)
  | false => exact wp_cond_false hv (h2 rfl vs w0 μ a w hs)

theorem awp_region {id : Nat} {ops : Array Oper} {tab : List (List Nat × List Nat)} {dr : Bool} (h : ∀ K : Fr → Hp → Prop, (∀ ρ η, Q .normal ρ η → K ρ η) → Lex P N ops dr K tab ops.toList ρ η) : AWp P N (.region id ops false) Q ρ η := by
  intro vs w0 μ a w hs
  refine wp_region ?_
  have := wpOps_of_lex ops.toList tab 0 ρ η μ a w (fun j => by simp) (h _ (fun _ _ h => h)) hs (Q := fun e a' w' => ∃ ρ' η' μ', Q e ρ' η' ∧ StR vs N w0 μ' ρ' η' a' w') (fun ρ η μ a w q s => ⟨ρ, η, μ, q, s⟩)
  simpa using this

theorem awp_drawn {id : Nat} {ops : Array Oper} {tab : List (List Nat × List Nat)} (hm : P.follows .mixedOrders = true)
    (h : ∀ K : Fr → Hp → Prop, (∀ ρ η, Q .normal ρ η → K ρ η) → Lex P N ops true K tab ops.toList ρ η)
    (hB : Region.lexFrom .any ops ops.size 0 (Array.replicate ops.size false) = true) (hT : tabB .any (reachT .any ops.toList []) 0 (ops.toList.zip tab) = true) : AWp P N (.region id ops true) Q ρ η := by
  intro vs w0 μ a w hs
  refine wp_region_any hm ?_
  have hs' : StR vs N w0 μ ρ η a { w with drawn := w.drawn + 1 } := by
    have hk : Keeps w w.drew μ μ (okOf μ η) (okOf μ η) (fun _ => False) := ⟨fun b hb hk => ⟨hb, hk, rfl⟩, fun _ _ => rfl, fun _ _ _ _ _ hs => hs⟩
    refine ⟨⟨hs.hc.base, hs.hc.below.drew, fun i B hB => ?_, hs.hc.inj⟩, hs.size, hs.defers, fun n => VR.mono hk _ _ (fun _ _ h => h) (hs.slots n)⟩
    have := hs.hc.blk i B hB
    cases B with
    | sl e c =>
      obtain ⟨h0, h⟩ := this
      refine ⟨h0, Or.imp (fun x => x) ?_ h⟩
      rintro ⟨b, cs, h1, h2, h3, h4, h5⟩
      exact ⟨b, cs, h1, h2, h3, h4, TRl.mono hk.treeF _ _ h5⟩
    | box e l =>
      obtain ⟨b, cs, h1, h2, h3, h4⟩ := this
      exact ⟨b, cs, h1, h2, h3, VRl.mono hk _ _ (fun _ _ h => h) h4⟩
  have := anyA_lex (rt := reachT .any ops.toList []) (reachT_mem ops.toList [] (fun j => by simp) (fun m x hx => by simp at hx)) (P := P) (N := N) (ops := ops) (md := .any) (T := fun j => tab.getD j ([], [])) (K := fun ρ η => Q .normal ρ η) ops.toList tab 0 (Array.replicate ops.size false) ρ η (fun j => by simp)
    (fun j p hp => by simp [List.getD_eq_getElem?_getD, hp]) (fun m hm => by omega) (fun m hm => by simp [Array.getD_eq_getD_getElem?, Array.getElem?_replicate] at hm; split at hm <;> simp at hm) (fun m o hm => by omega) (by simpa using hB) hT (h _ (fun _ _ h => h))
  have h2 := wpAny_of_anyA (vs := vs) (w0 := w0) (Q := fun e a' w' => ∃ ρ' η' μ', Q e ρ' η' ∧ StR vs N w0 μ' ρ' η' a' w') (fun ρ η μ a w q s => ⟨ρ, η, μ, q, s⟩) _ _ _ _ μ a _ hs' this
  simpa using h2

end

/-! ### other names, and less known -/

mutual
def ren (π : Nat → Nat) : AV → AV
  | .own i o n => .own (π i) o n
  | .argo k i o n => .argo k (π i) o n
  | .bp i o => .bp (π i) o
  | .dead i => .dead (π i)
  | .agg l => .agg (renL π l)
  | .tup l => .tup (renL π l)
  | .fn f l => .fn f (renL π l)
  | v => v
def renL (π : Nat → Nat) : List AV → List AV
  | [] => []
  | v :: r => ren π v :: renL π r
end
def renB (π : Nat → Nat) : Blk → Blk
  | .sl e c => .sl e c
  | .box e l => .box e (renL π l)

mutual
theorem VR_ren {vs : Env} {w : World} {μ : Nat → Option Nat} {ok : Nat → Prop} {π : Nat → Nat} : ∀ (v : AV) (y : Value), VR vs w μ ok (ren π v) y → VR vs w (fun i => μ (π i)) ok v y
  | .own i o n, y, h => by simp only [ren] at h; rw [VR] at *; exact h
  | .argo k i o n, y, h => by simp only [ren] at h; rw [VR] at *; exact h
  | .bp i o, y, h => by simp only [ren] at h; rw [VR] at *; exact h
  | .agg l, y, h => by simp only [ren] at h; rw [VR] at *; obtain ⟨xs, rfl, hx⟩ := h; exact ⟨xs, rfl, VRl_ren l _ hx⟩
  | .tup l, y, h => by simp only [ren] at h; rw [VR] at *; obtain ⟨xs, rfl, hx⟩ := h; exact ⟨xs, rfl, VRl_ren l _ hx⟩
  | .fn f l, y, h => by simp only [ren] at h; rw [VR] at *; obtain ⟨xs, rfl, hx⟩ := h; exact ⟨xs, rfl, VRl_ren l _ hx⟩
  | .t _, y, h | .old _, y, h | .arg _ _, y, h | .argc _ _ _, y, h | .emp, y, h => by simp only [ren] at h; rw [VR] at *; exact h
  | .dead _, y, h | .junk, y, h => by rw [VR]; trivial
theorem VRl_ren {vs : Env} {w : World} {μ : Nat → Option Nat} {ok : Nat → Prop} {π : Nat → Nat} : ∀ (l : List AV) (xs : List Value), VRl vs w μ ok (renL π l) xs → VRl vs w (fun i => μ (π i)) ok l xs
  | [], xs, h => by simp only [renL] at h; rw [VRl] at *; exact h
  | v :: r, xs, h => by
    simp only [renL] at h
    rw [VRl] at *
    obtain ⟨x, ys, rfl, hx, hr⟩ := h
    exact ⟨x, ys, rfl, VR_ren v x hx, VRl_ren r ys hr⟩
end

def lkF : List (Nat × AV) → Fr
  | [], _ => .junk
  | (s, v) :: r, n => bif Nat.beq n s then v else lkF r n

/-- the slots 'l' hold what 'l' says, ids by other names -/
def wkF (π : Nat → Nat) (ρ : Fr) : List (Nat × AV) → Prop
  | [] => True
  | (n, v) :: r => ρ n = ren π v ∧ wkF π ρ r
def wkH (π : Nat → Nat) (η : Hp) : List (Nat × Blk) → Prop
  | [] => True
  | (i, B) :: r => η (π i) = some (renB π B) ∧ wkH π η r

theorem wkF_lk {π : Nat → Nat} {ρ : Fr} {l : List (Nat × AV)} (h : wkF π ρ l) (n : Nat) : lkF l n = .junk ∨ ρ n = ren π (lkF l n) := by
  induction l with
  | nil => exact .inl rfl
  | cons p r ih =>
    obtain ⟨s, v⟩ := p
    simp only [lkF]
    cases hb : Nat.beq n s with
    | true => simp only [cond_true]; rw [Nat.eq_of_beq_eq_true hb]; exact .inr h.1
    | false => simp only [cond_false]; exact ih h.2
theorem wkH_lk {π : Nat → Nat} {η : Hp} {l : List (Nat × Blk)} (h : wkH π η l) (i : Nat) (B : Blk) (hl : lkH l i = some B) : η (π i) = some (renB π B) := by
  induction l with
  | nil => simp [lkH] at hl
  | cons p r ih =>
    obtain ⟨s, v⟩ := p
    simp only [lkH] at hl
    cases hb : Nat.beq i s with
    | true => simp only [hb, cond_true, Option.some.injEq] at hl; subst hl; rw [Nat.eq_of_beq_eq_true hb]; exact h.1
    | false => simp only [hb, cond_false] at hl; exact ih h.2 hl

def injOn (π : Nat → Nat) (l : List (Nat × Blk)) : Prop := ∀ i j, (lkH l i).isSome → (lkH l j).isSome → π i = π j → i = j
theorem injOn_id (l : List (Nat × Blk)) : injOn (fun i => i) l := fun _ _ _ _ h => h

theorem HC_weak {vs : Env} {w0 : World} {μ : Nat → Option Nat} {η : Hp} {w : World} {π : Nat → Nat} {l : List (Nat × Blk)} (h : HC vs w0 μ η w) (hH : wkH π η l) (hi : injOn π l) :
    HC vs w0 (fun i => μ (π i)) (lkH l) w ∧ ∀ b, okOf μ η b → okOf (fun i => μ (π i)) (lkH l) b := by
  have hok : ∀ b, okOf μ η b → okOf (fun i => μ (π i)) (lkH l) b := fun b hb i hs => by
    obtain ⟨B, hB⟩ := Option.isSome_iff_exists.1 hs
    exact hb (π i) (by rw [wkH_lk hH i B hB]; rfl)
  have hk : Keeps w w μ μ (okOf μ η) (okOf (fun i => μ (π i)) (lkH l)) (fun _ => False) := ⟨fun b hb hk => ⟨hb, hok b hk, rfl⟩, fun _ _ => rfl, fun _ _ _ _ _ hs => hs⟩
  refine ⟨⟨h.base, h.below, fun i B hB => ?_, fun i j b hs ht h1 h2 => ?_⟩, hok⟩
  · have := h.blk (π i) _ (wkH_lk hH i B hB)
    cases B with
    | sl e c =>
      obtain ⟨h0, h⟩ := this
      refine ⟨h0, Or.imp (fun x => x) ?_ h⟩
      rintro ⟨b, cs, h1, h2, h3, h4, h5⟩
      exact ⟨b, cs, h1, h2, h3, h4, TRl.mono hk.treeF _ _ h5⟩
    | box e l' =>
      obtain ⟨b, cs, h1, h2, h3, h4⟩ := this
      exact ⟨b, cs, h1, h2, h3, VRl_ren _ _ (VRl.mono hk _ _ (fun _ _ h => h) h4)⟩
  · obtain ⟨B, hB⟩ := Option.isSome_iff_exists.1 hs
    obtain ⟨B', hB'⟩ := Option.isSome_iff_exists.1 ht
    exact hi i j hs ht (h.inj (π i) (π j) b (by rw [wkH_lk hH i B hB]; rfl) (by rw [wkH_lk hH j B' hB']; rfl) h1 h2)

theorem StR_weak {vs : Env} {N : Nat} {w0 : World} {μ : Nat → Option Nat} {ρ : Fr} {η : Hp} {a : Act} {w : World} {π : Nat → Nat} {α : List (Nat × AV)} {l : List (Nat × Blk)}
    (h : StR vs N w0 μ ρ η a w) (hF : wkF π ρ α) (hH : wkH π η l) (hi : injOn π l) : StR vs N w0 (fun i => μ (π i)) (lkF α) (lkH l) a w := by
  obtain ⟨hc, hok⟩ := HC_weak h.hc hH hi
  refine ⟨hc, h.size, h.defers, fun n => ?_⟩
  rcases wkF_lk hF n with hj | hj
  · rw [hj, VR]; trivial
  · have := h.slots n
    rw [hj] at this
    have hk : Keeps w w μ μ (okOf μ η) (okOf (fun i => μ (π i)) (lkH l)) (fun _ => False) := ⟨fun b hb hk => ⟨hb, hok b hk, rfl⟩, fun _ _ => rfl, fun _ _ _ _ _ hs => hs⟩
    exact VR_ren _ _ (VR.mono hk _ _ (fun _ _ h => h) this)

section
variable {P : Program} {N : Nat} {Q : Exit → Fr → Hp → Prop} {ρ : Fr} {η : Hp}

theorem awp_weak {c : Code} (π : Nat → Nat) (α : List (Nat × AV)) (l : List (Nat × Blk)) (hF : wkF π ρ α) (hH : wkH π η l) (hi : injOn π l) (h : AWp P N c Q (lkF α) (lkH l)) : AWp P N c Q ρ η :=
  fun vs w0 μ a w hs => h vs w0 _ a w (StR_weak hs hF hH hi)

/-- 'ρ', 'η' are a state of the family, perhaps by other names -/
def Fam {X : Type} (Inv : X → Prop) (α : X → List (Nat × AV)) (H : X → List (Nat × Blk)) (x : X) (ρ : Fr) (η : Hp) : Prop :=
  Inv x ∧ ∃ π, wkF π ρ (α x) ∧ wkH π η (H x) ∧ injOn π (H x)

theorem awp_loop {X : Type} (Inv : X → Prop) (α : X → List (Nat × AV)) (H : X → List (Nat × Blk)) (m : X → Nat) {c : Code} (x0 : X) (h0 : Fam Inv α H x0 ρ η)
    (h : ∀ x, Inv x → AWp P N c (thenA (fun ρ' η' => ∃ x', m x' < m x ∧ Fam Inv α H x' ρ' η') Q) (lkF (α x)) (lkH (H x))) : AWp P N (.loop c) Q ρ η := by
  intro vs w0 μ a w hs b k cs
  have key : ∀ n, ∀ x, m x = n → Inv x → ∀ μ a w, StR vs N w0 μ (lkF (α x)) (lkH (H x)) a w →
      ∃ e a' w', (∃ ρ' η' μ', Q e ρ' η' ∧ StR vs N w0 μ' ρ' η' a' w') ∧ Arrives P (lone (b.at a (.code c :: .inLoop c :: k)) cs w) b k cs e a' w' := by
    intro n
    induction n using Nat.strongRecOn with
    | _ n ih =>
      intro x hx hI μ a w hs
      obtain ⟨e, a₁, w₁, ⟨ρ', η', μ', q, s⟩, harr⟩ := h x hI vs w0 μ a w hs b (.inLoop c :: k) cs
      cases e with
      | normal =>
        obtain ⟨x', hlt, hI', π, hF, hH, hi⟩ := q
        obtain ⟨e₂, a₂, w₂, hq₂, harr₂⟩ := ih (m x') (hx ▸ hlt) x' rfl hI' _ a₁ w₁ (StR_weak s hF hH hi)
        exact ⟨e₂, a₂, w₂, hq₂, .of_steps (Steps.trans harr (.one step_inLoop)) harr₂⟩
      | exit id => exact ⟨_, a₁, w₁, ⟨ρ', η', μ', q, s⟩, .pass (x := .inLoop c) rfl (fun _ _ => .inl (by simp)) harr⟩
      | goto l => exact ⟨_, a₁, w₁, ⟨ρ', η', μ', q, s⟩, .pass (x := .inLoop c) rfl (fun _ _ => .inl (by simp)) harr⟩
      | ret => exact ⟨_, a₁, w₁, ⟨ρ', η', μ', q, s⟩, .pass (x := .inLoop c) rfl (fun _ _ => .inl (by simp)) harr⟩
      | panic ch => exact ⟨_, a₁, w₁, ⟨ρ', η', μ', q, s⟩, .pass (x := .inLoop c) rfl (fun _ _ => .inl (by simp)) harr⟩
      | outgrown => exact ⟨_, a₁, w₁, ⟨ρ', η', μ', q, s⟩, .pass (x := .inLoop c) rfl (fun _ _ => .inl (by simp)) harr⟩
  obtain ⟨hI, π, hF, hH, hi⟩ := h0
  obtain ⟨e, a', w', q, harr⟩ := key _ x0 rfl hI _ a w (StR_weak hs hF hH hi)
  exact ⟨e, a', w', q, .of_steps (.one step_loop) harr⟩
end
end Go.Aw
