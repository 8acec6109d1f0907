/- A region whose order is drawn: one walk in the order of the text serves every order. -/
import Derived.Test.YtodnginckchmdaaAwCore
set_option linter.unusedVariables false
namespace Go.Aw
open Go.RowKit (Below)

theorem subB_mem {l F : List Nat} (h : subB l F = true) : ∀ i ∈ l, i ∈ F := by
  simpa [subB] using h

structure Foot (F C S : List Nat) (xs : List AV) (η : Hp) (v : AV) (ch : List (Nat × Blk)) : Prop where
  ops : ∀ x ∈ xs, ∀ i ∈ x.ids, i ∈ F
  val : ∀ i ∈ v.ids, i ∈ F
  chg : ∀ p ∈ ch, p.1 ∈ C ∧ ∀ i ∈ p.2.ids, i ∈ F
  cf : ∀ i ∈ C, i ∈ F
  sc : ∀ i ∈ S, i ∈ C
  cl : ∀ i ∈ F, ∀ B, η i = some B → ∀ j ∈ B.ids, j ∈ F

theorem foot_of {F C S : List Nat} {xs : List AV} {η : Hp} {v : AV} {ch : List (Nat × Blk)} (h : footB F C S xs η v ch = true) : Foot F C S xs η v ch := by
  simp only [footB, Bool.and_eq_true, List.all_eq_true] at h
  obtain ⟨⟨⟨⟨⟨h1, h2⟩, h3⟩, h4⟩, h5⟩, h6⟩ := h
  refine ⟨fun x hx => subB_mem (h1 x hx), subB_mem h2, fun p hp => ?_, subB_mem h4, subB_mem h5, fun i hi B hB => ?_⟩
  · have := h3 p hp; exact ⟨by simpa using this.1, subB_mem this.2⟩
  · have := h6 i hi; rw [hB] at this; exact subB_mem this

theorem lkH_mem {ch : List (Nat × Blk)} {i : Nat} {B : Blk} (h : lkH ch i = some B) : (i, B) ∈ ch := by
  induction ch with
  | nil => simp [lkH] at h
  | cons p r ih =>
    obtain ⟨j, B'⟩ := p
    simp only [lkH] at h
    cases hb : Nat.beq i j with
    | true => simp only [hb, cond_true, Option.some.injEq] at h; subst h; rw [Nat.eq_of_beq_eq_true hb]; exact List.mem_cons_self
    | false => simp only [hb, cond_false] at h; exact List.mem_cons_of_mem _ (ih h)

theorem Foot.lk {F C S : List Nat} {xs : List AV} {η : Hp} {v : AV} {ch : List (Nat × Blk)} (h : Foot F C S xs η v ch) {i : Nat} (hi : i ∉ C) : lkH ch i = none := by
  cases hl : lkH ch i with
  | none => rfl
  | some B => exact absurd (h.chg _ (lkH_mem hl)).1 hi

def Dis (C F : List Nat) : Prop := ∀ i ∈ C, i ∉ F

theorem scrub_eq_t {S : List Nat} {v : AV} {u : T} (h : scrub S v = .t u) : v = .t u := by
  cases v with
  | own i o n => simp only [scrub] at h; cases hc : S.contains i <;> simp only [hc, cond_true, cond_false, reduceCtorEq] at h
  | argo k i o n => simp only [scrub] at h; cases hc : S.contains i <;> simp only [hc, cond_true, cond_false, reduceCtorEq] at h
  | bp i o => simp only [scrub] at h; cases hc : S.contains i <;> simp only [hc, cond_true, cond_false, reduceCtorEq] at h
  | t _ => simpa only [scrub] using h
  | old _ => simp [scrub] at h
  | _ => simp [scrub] at h

section
variable {P : Program} {N : Nat} {ops : Array Oper} {md : Region.Mode} {T : Nat → List Nat × List Nat}

def Y (P : Program) (N : Nat) (ops : Array Oper) (T : Nat → List Nat × List Nat) (i : Nat) (o : Oper) (S : List Nat) (v : AV) (ch : List (Nat × Blk)) (ρ : Fr) (η : Hp) : Prop :=
  Yld P N ops true (T i).1 (T i).2 S o v ch ρ η

def qA (P : Program) (N : Nat) (ops : Array Oper) (T : Nat → List Nat × List Nat) (i : Nat) (K : Fr → Hp → Prop) (ρ : Fr) (η : Hp) : Prop :=
  match ops[i]? with
  | none => K ρ η
  | some o => ∃ S v ch, Y P N ops T i o S v ch ρ η ∧ K (stepF S o.dst v ρ) (hpS S (lkH ch) η)

def anyA (P : Program) (N : Nat) (md : Region.Mode) (ops : Array Oper) (T : Nat → List Nat × List Nat) (K : Fr → Hp → Prop) : Nat → Array Bool → Fr → Hp → Prop
  | 0, listed, ρ, η => Region.ready md ops listed = [] ∧ K ρ η
  | fuel + 1, listed, ρ, η => (Region.ready md ops listed = [] → K ρ η) ∧ ∀ i ∈ Region.ready md ops listed, qA P N ops T i (anyA P N md ops T K fuel (listed.setIfInBounds i true)) ρ η

theorem qA_mono {i : Nat} {K K' : Fr → Hp → Prop} (h : ∀ ρ η, K ρ η → K' ρ η) {ρ : Fr} {η : Hp} (hh : qA P N ops T i K ρ η) : qA P N ops T i K' ρ η := by
  unfold qA at *
  split
  · rename_i ho; simp only [ho] at hh; exact h _ _ hh
  · rename_i o ho
    simp only [ho] at hh
    obtain ⟨S, v, ch, h1, h2⟩ := hh
    exact ⟨S, v, ch, h1, h _ _ h2⟩

theorem wpAny_of_anyA {vs : Env} {w0 : World} {K : Fr → Hp → Prop} {Q : Exit → Act → World → Prop} (hQ : ∀ ρ η μ a w, K ρ η → StR vs N w0 μ ρ η a w → Q .normal a w) :
    ∀ (fuel : Nat) (listed : Array Bool) (ρ : Fr) (η : Hp) (μ : Nat → Option Nat) (a : Act) (w : World), StR vs N w0 μ ρ η a w → anyA P N md ops T K fuel listed ρ η → wpAny P md ops Q fuel listed a w
  | 0, _, _, _, _, _, _, hs, h => ⟨h.1, hQ _ _ _ _ _ h.2 hs⟩
  | fuel + 1, listed, ρ, η, μ, a, w, hs, h => by
    refine ⟨fun h0 => hQ _ _ _ _ _ (h.1 h0) hs, fun i hi => ?_⟩
    have h1 := h.2 i hi
    obtain ⟨_, o, ho, _⟩ := mem_ready.1 hi
    unfold qA at h1
    simp only [ho] at h1
    obtain ⟨S, v, ch, hy, hK⟩ := h1
    exact wpOp_of_yld ho hy hs fun μ' a' w' hs' => wpAny_of_anyA hQ fuel _ _ _ μ' a' w' hs' hK

/-- an operand that another operation neither writes nor scrubs -/
theorem evA_step {F C S : List Nat} {ρ : Fr} {d : Option Nat} {v : AV} {x : Operand} (hx : ∀ t, d = some t → x ≠ .tmp t) (hi : ∀ i ∈ (evA ρ x).ids, i ∈ F) (hS : Dis S F) : evA (stepF S d v ρ) x = evA ρ x := by
  cases x with
  | tmp t =>
    simp only [evA] at hi ⊢
    have e : scrub S (ρ t) = ρ t := scrub_id _ fun i hm hs => hS i hs (hi i hm)
    cases d with
    | none => exact e
    | some d =>
      have : t ≠ d := fun h => hx d rfl (by rw [h])
      simp only [stepF, updF, if_neg this]; exact e
  | const v => cases v <;> rfl
  | _ => rfl

theorem QRun_congr {o : Oper} {F S : List Nat} {ρ ρ' : Fr} {η η' : Hp} {v : AV} {ch : Hp} (h : QRun P o F S ρ η v ch) (hρ : ∀ x ∈ o.op.operands, evA ρ' x = evA ρ x) (hη : ∀ i ∈ F, η' i = η i) : QRun P o F S ρ' η' v ch := by
  intro vs w0 μ ηc a w Q K h1 h2 h3 h4
  exact h vs w0 μ ηc a w Q K (fun i hi => (h1 i hi).trans (hη i hi)) h2 (fun x hx => by rw [← hρ x hx]; exact h3 x hx) h4

theorem hpS_off {S : List Nat} {ch : List (Nat × Blk)} {η : Hp} {i : Nat} (h1 : lkH ch i = none) (h2 : i ∉ S) : hpS S (lkH ch) η i = (η i).map (scrubB S) := by
  simp [hpS, h1, h2]

theorem guardA_step {S : List Nat} {ρ : Fr} {oi : Oper} {d : Option Nat} {v : AV} (h : ∀ t, d = some t → t ∉ oi.looksAt ops) {b : Bool} (hg : guardA ops ρ oi = some b) : guardA ops (stepF S d v ρ) oi = some b := by
  unfold guardA at *
  cases hgu : oi.guard with
  | none => simpa [hgu] using hg
  | some jw =>
    obtain ⟨j, want⟩ := jw
    simp only [hgu] at hg ⊢
    cases hj : (ops[j]?).bind (·.dst) with
    | none => simp [hj] at hg
    | some t =>
      simp only [hj] at hg ⊢
      have ht : ∀ u, d = some u → t ≠ u := fun u hu e => h u hu (by subst e; simp [Oper.looksAt, hgu, hj])
      have e : stepF S d v ρ t = scrub S (ρ t) := by
        cases d with
        | none => rfl
        | some u => simp only [stepF, updF, if_neg (ht u rfl)]
      rw [e]
      cases hr : ρ t with
      | t u =>
        rw [hr] at hg
        have : scrub S (AV.t u) = .t u := by simp [scrub]
        rw [this]; exact hg
      | _ => rw [hr] at hg; simp at hg

/-- an operation's result stays what it is behind an operation apart from it -/
theorem Y_step {i j : Nat} {oi oj : Oper} {Si Sj : List Nat} {vi vj : AV} {ci cj : List (Nat × Blk)} {ρ : Fr} {η : Hp}
    (hap : ∀ t, oj.dst = some t → t ∉ oi.looksAt ops) (hd : Dis (T j).2 (T i).1)
    (hj : Y P N ops T j oj Sj vj cj ρ η) (h : Y P N ops T i oi Si vi ci ρ η) : Y P N ops T i oi Si vi ci (stepF Sj oj.dst vj ρ) (hpS Sj (lkH cj) η) := by
  obtain ⟨hdst, h⟩ := h
  refine ⟨hdst, ?_⟩
  rcases h with ⟨hg, hq, hf⟩ | ⟨hg, hr⟩
  · refine .inl ⟨guardA_step hap hg, ?_⟩
    have hF := foot_of (by simpa using hf)
    -- what 'oj' changes
    have hSj : Dis Sj (T i).1 ∧ ∀ k, k ∉ (T j).2 → lkH cj k = none := by
      rcases hj.2 with ⟨_, _, hfj⟩ | ⟨_, rfl, rfl, rfl⟩
      · have hFj := foot_of (by simpa using hfj)
        exact ⟨fun k hk => hd k (hFj.sc k hk), fun k hk => hFj.lk hk⟩
      · exact ⟨fun k hk => by simp at hk, fun k _ => rfl⟩
    have hop : ∀ x ∈ oi.op.operands, evA (stepF Sj oj.dst vj ρ) x = evA ρ x := fun x hx =>
      evA_step (F := (T i).1) (C := []) (fun t ht e => hap t ht (by
        subst e
        exact List.mem_append_left _ (List.mem_filterMap.2 ⟨.tmp t, by simpa using hx, rfl⟩))) (hF.ops _ (List.mem_map.2 ⟨x, by simpa using hx, rfl⟩)) hSj.1
    have hη : ∀ k ∈ (T i).1, hpS Sj (lkH cj) η k = η k := fun k hk => by
      have hkC : k ∉ (T j).2 := fun hc => hd k hc hk
      have hkS : k ∉ Sj := fun hs => hSj.1 k hs hk
      rw [hpS_off (hSj.2 k hkC) hkS]
      cases hB : η k with
      | none => rfl
      | some B => simp only [Option.map_some]; rw [scrubB_id fun m hm hs => hSj.1 m hs (hF.cl k hk B hB m hm)]
    refine ⟨QRun_congr hq hop hη, ?_⟩
    have e1 : oi.op.operands.toList.map (evA (stepF Sj oj.dst vj ρ)) = oi.op.operands.toList.map (evA ρ) := List.map_congr_left fun x hx => hop x (by simpa using hx)
    rw [e1]
    simp only [Bool.not_true, Bool.false_or] at hf ⊢
    simp only [footB, Bool.and_eq_true] at hf ⊢
    refine ⟨hf.1, ?_⟩
    have h6 := hf.2
    simp only [List.all_eq_true] at h6 ⊢
    exact fun k hk => by rw [hη k hk]; exact h6 k hk
  · exact .inr ⟨guardA_step hap hg, hr⟩

theorem Y_facts {i : Nat} {o : Oper} {S : List Nat} {v : AV} {ch : List (Nat × Blk)} {ρ : Fr} {η : Hp} (h : Y P N ops T i o S v ch ρ η) :
    (∀ k ∈ v.ids, k ∈ (T i).1) ∧ (∀ k ∈ S, k ∈ (T i).2) ∧ (∀ k, k ∉ (T i).2 → lkH ch k = none) ∧ (∀ k B, lkH ch k = some B → ∀ m ∈ B.ids, m ∈ (T i).1) := by
  rcases h.2 with ⟨_, _, hf⟩ | ⟨_, rfl, rfl, rfl⟩
  · have hF := foot_of (by simpa using hf)
    exact ⟨hF.val, hF.sc, fun k hk => hF.lk hk, fun k B hB m hm => (hF.chg _ (lkH_mem hB)).2 m hm⟩
  · exact ⟨by simp [AV.ids], by simp, fun _ _ => rfl, fun k B hB => by simp [lkH] at hB⟩

theorem step_comm {i j : Nat} {oi oj : Oper} {Si Sj : List Nat} {vi vj : AV} {ci cj : List (Nat × Blk)} {ρ ρ' : Fr} {η η' : Hp}
    (hne : ∀ t, oi.dst = some t → oj.dst ≠ some t) (h1 : Dis (T i).2 (T j).1) (h2 : Dis (T j).2 (T i).1)
    (hcf : (∀ k ∈ (T j).2, k ∈ (T j).1))
    (hi : Y P N ops T i oi Si vi ci ρ η) (hj : Y P N ops T j oj Sj vj cj ρ' η') :
    stepF Sj oj.dst vj (stepF Si oi.dst vi ρ) = stepF Si oi.dst vi (stepF Sj oj.dst vj ρ) ∧
    hpS Sj (lkH cj) (hpS Si (lkH ci) η) = hpS Si (lkH ci) (hpS Sj (lkH cj) η) := by
  obtain ⟨a1, a2, a3, a4⟩ := Y_facts hi
  obtain ⟨b1, b2, b3, b4⟩ := Y_facts hj
  have evi : scrub Sj vi = vi := scrub_id _ fun k hk hs => h2 k (b2 k hs) (a1 k hk)
  have evj : scrub Si vj = vj := scrub_id _ fun k hk hs => h1 k (a2 k hs) (b1 k hk)
  constructor
  · funext n
    cases hdi : oi.dst with
    | none =>
      cases hdj : oj.dst with
      | none => simp only [stepF, updF, scrub_comm]
      | some e =>
        simp only [stepF, updF]
        split
        · exact evj.symm
        · exact scrub_comm ..
    | some d =>
      cases hdj : oj.dst with
      | none =>
        simp only [stepF, updF]
        split
        · exact evi
        · exact scrub_comm ..
      | some e =>
        have hde : e ≠ d := fun h => hne d hdi (by rw [hdj, h])
        simp only [stepF, updF]
        by_cases hn : n = e
        · subst hn; simp [hde, evj]
        · by_cases hn' : n = d
          · subst hn'; simp [hn, evi]
          · simp only [hn, hn', if_false]; exact scrub_comm ..
  · funext k
    unfold hpS
    cases hci : lkH ci k with
    | some B =>
      have hkC : k ∈ (T i).2 := Classical.byContradiction fun h => by rw [a3 k h] at hci; cases hci
      have hkF : k ∉ (T j).1 := h1 k hkC
      have hkCj : k ∉ (T j).2 := fun h => hkF (hcf k h)
      have hkS : k ∉ Sj := fun h => hkCj (b2 k h)
      simp only [b3 k hkCj]
      simp only [List.contains_eq_mem, hkS, decide_false, Bool.false_eq_true, if_false, Option.map_some, Option.some.injEq]
      exact scrubB_id fun m hm hs => h2 m (b2 m hs) (a4 k B hci m hm)
    | none =>
      cases hcj : lkH cj k with
      | some B =>
        have hkC : k ∈ (T j).2 := Classical.byContradiction fun h => by rw [b3 k h] at hcj; cases hcj
        have hkS : k ∉ Si := fun h => h1 k (a2 k h) (hcf k hkC)
        simp only [List.contains_eq_mem, hkS, decide_false, Bool.false_eq_true, if_false, Option.map_some, Option.some.injEq]
        exact (scrubB_id fun m hm hs => h1 m (a2 m hs) (b4 k B hcj m hm)).symm
      | none =>
        simp only []
        cases hs1 : Si.contains k <;> cases hs2 : Sj.contains k <;> simp [Option.map_map]
        cases η k with
        | none => rfl
        | some B => simp [scrubB_comm]

theorem Y_qA {i : Nat} {o : Oper} {S : List Nat} {v : AV} {ch : List (Nat × Blk)} {ρ : Fr} {η : Hp} {K : Fr → Hp → Prop} (hi : ops[i]? = some o) (hy : Y P N ops T i o S v ch ρ η)
    (h : K (stepF S o.dst v ρ) (hpS S (lkH ch) η)) : qA P N ops T i K ρ η := by
  unfold qA; simp only [hi]; exact ⟨S, v, ch, hy, h⟩

/-- two operations apart, the heap too -/
def Apart (ops : Array Oper) (T : Nat → List Nat × List Nat) (i j : Nat) (oi oj : Oper) : Prop :=
  oi.apart ops oj = true ∧ Dis (T i).2 (T j).1 ∧ Dis (T j).2 (T i).1 ∧ ∀ k ∈ (T j).2, k ∈ (T j).1

theorem qA_put {i j : Nat} {oi oj : Oper} {S : List Nat} {v : AV} {ch : List (Nat × Blk)} (hoi : ops[i]? = some oi) (hoj : ops[j]? = some oj) (hap : Apart ops T i j oi oj) {K : Fr → Hp → Prop} {ρ : Fr} {η : Hp}
    (hiF : ∀ k ∈ (T i).2, k ∈ (T i).1)
    (hy : Y P N ops T i oi S v ch ρ η) (h : qA P N ops T j K (stepF S oi.dst v ρ) (hpS S (lkH ch) η))
    (back : ∀ Sj vj cj, Y P N ops T j oj Sj vj cj (stepF S oi.dst v ρ) (hpS S (lkH ch) η) → Y P N ops T j oj Sj vj cj ρ η) :
    qA P N ops T j (fun ρ' η' => Y P N ops T i oi S v ch ρ' η' ∧ K (stepF S oi.dst v ρ') (hpS S (lkH ch) η')) ρ η := by
  obtain ⟨hap, hd1, hd2, hjF⟩ := hap
  obtain ⟨h1, h2, h3⟩ := Oper.apart_spec hap
  unfold qA at *
  simp only [hoj] at h ⊢
  obtain ⟨Sj, vj, cj, hyj, hK⟩ := h
  have hyj' := back _ _ _ hyj
  refine ⟨Sj, vj, cj, hyj', Y_step h3 hd2 hyj' hy, ?_⟩
  obtain ⟨e1, e2⟩ := step_comm (ρ := ρ) (ρ' := ρ) (η := η) (η' := η) h2 hd1 hd2 hjF hy hyj'
  rw [← e1, ← e2]
  exact hK

theorem guardA_back {S : List Nat} {ρ : Fr} {oi : Oper} {d : Option Nat} {v : AV} (h : ∀ t, d = some t → t ∉ oi.looksAt ops) {b : Bool} (hg : guardA ops (stepF S d v ρ) oi = some b) : guardA ops ρ oi = some b := by
  unfold guardA at *
  cases hgu : oi.guard with
  | none => simpa [hgu] using hg
  | some jw =>
    obtain ⟨j, want⟩ := jw
    simp only [hgu] at hg ⊢
    cases hj : (ops[j]?).bind (·.dst) with
    | none => simp [hj] at hg
    | some t =>
      simp only [hj] at hg ⊢
      have ht : ∀ u, d = some u → t ≠ u := fun u hu e => h u hu (by subst e; simp [Oper.looksAt, hgu, hj])
      have e : stepF S d v ρ t = scrub S (ρ t) := by
        cases d with
        | none => rfl
        | some u => simp only [stepF, updF, if_neg (ht u rfl)]
      rw [e] at hg
      cases hr : scrub S (ρ t) with
      | t u => rw [hr] at hg; rw [scrub_eq_t hr]; exact hg
      | _ => rw [hr] at hg; simp at hg

theorem Y_back {i j : Nat} {oi oj : Oper} {Si Sj : List Nat} {vi vj : AV} {ci cj : List (Nat × Blk)} {ρ : Fr} {η : Hp}
    (hap : ∀ t, oi.dst = some t → t ∉ oj.looksAt ops) (hd : Dis (T i).2 (T j).1)
    (hi : Y P N ops T i oi Si vi ci ρ η) (h : Y P N ops T j oj Sj vj cj (stepF Si oi.dst vi ρ) (hpS Si (lkH ci) η)) : Y P N ops T j oj Sj vj cj ρ η := by
  obtain ⟨a1, a2, a3, a4⟩ := Y_facts hi
  obtain ⟨hdst, h⟩ := h
  refine ⟨hdst, ?_⟩
  rcases h with ⟨hg, hq, hf⟩ | ⟨hg, hr⟩
  · refine .inl ⟨guardA_back hap hg, ?_⟩
    have hF := foot_of (by simpa using hf)
    have hop : ∀ x ∈ oj.op.operands, evA ρ x = evA (stepF Si oi.dst vi ρ) x := fun x hx => by
      have hmem := hF.ops _ (List.mem_map.2 ⟨x, by simpa using hx, rfl⟩)
      cases x with
      | tmp t =>
        have ht : ∀ u, oi.dst = some u → t ≠ u := fun u hu e => hap u hu (by
          subst e
          exact List.mem_append_left _ (List.mem_filterMap.2 ⟨.tmp t, by simpa using hx, rfl⟩))
        have e : stepF Si oi.dst vi ρ t = scrub Si (ρ t) := by
          cases hdi : oi.dst with
          | none => rfl
          | some u => simp only [stepF, updF, if_neg (ht u hdi)]
        simp only [evA] at hmem ⊢
        rw [e] at hmem ⊢
        rw [scrub_ids] at hmem
        exact (scrub_id _ fun k hk hs => hd k (a2 k hs) (hmem k hk)).symm
      | const v => cases v <;> rfl
      | _ => rfl
    have hη : ∀ k ∈ (T j).1, η k = hpS Si (lkH ci) η k := fun k hk => by
      have hkC : k ∉ (T i).2 := fun hc => hd k hc hk
      have hkS : k ∉ Si := fun hs => hkC (a2 k hs)
      have hcl := hF.cl k hk
      rw [hpS_off (a3 k hkC) hkS] at hcl ⊢
      cases hB : η k with
      | none => rfl
      | some B =>
        simp only [hB, Option.map_some] at hcl ⊢
        rw [scrubB_id]
        intro m hm hs
        have := hcl _ rfl m (by rw [scrubB_ids]; exact hm)
        exact hd m (a2 m hs) this
    refine ⟨QRun_congr hq hop hη, ?_⟩
    have e1 : oj.op.operands.toList.map (evA ρ) = oj.op.operands.toList.map (evA (stepF Si oi.dst vi ρ)) := List.map_congr_left fun x hx => hop x (by simpa using hx)
    rw [e1]
    simp only [Bool.not_true, Bool.false_or] at hf ⊢
    simp only [footB, Bool.and_eq_true] at hf ⊢
    refine ⟨hf.1, ?_⟩
    have h6 := hf.2
    simp only [List.all_eq_true] at h6 ⊢
    exact fun k hk => by rw [hη k hk]; exact h6 k hk
  · exact .inr ⟨guardA_back hap hg, hr⟩

/-- 'j' comes behind 'i' whatever the order that is drawn -/
inductive Dep (md : Region.Mode) (ops : Array Oper) (i : Nat) : Nat → Prop
  | edge {j : Nat} {o : Oper} {e : Edge} (ho : ops[j]? = some o) (he : e ∈ o.after) (hb : Region.binds md e = true) (hi : e.on = i) : Dep md ops i j
  | step {j : Nat} {o : Oper} {e : Edge} (ho : ops[j]? = some o) (he : e ∈ o.after) (hb : Region.binds md e = true) (hd : Dep md ops i e.on) : Dep md ops i j
theorem Dep.back {md : Region.Mode} {ops : Array Oper} {i : Nat} (hE : ∀ m o, m < i → ops[m]? = some o → ∀ e ∈ o.after, Region.binds md e = true → e.on < m) {m : Nat} (h : Dep md ops i m) : ¬ m < i := by
  induction h with
  | edge ho he hb hi => intro hm; have := hE _ _ hm ho _ he hb; omega
  | step ho he hb _ ih => intro hm; have := hE _ _ hm ho _ he hb; exact ih (by omega)

theorem anyA_first {K : Fr → Hp → Prop} {i : Nat} {oi : Oper} {S : List Nat} {v : AV} {ch : List (Nat × Blk)} (hi : ops[i]? = some oi) (hiF : ∀ k ∈ (T i).2, k ∈ (T i).1) :
    ∀ (fuel : Nat) (listed : Array Bool) (ρ : Fr) (η : Hp),
      (∀ j oj, ops[j]? = some oj → j ≠ i → listed.getD j true = false → (∀ e ∈ oj.after, Region.binds md e = true → e.on ≠ i) → ¬ Dep md ops i j → Apart ops T i j oi oj) →
      (∀ m, listed.getD m false = true → ¬ Dep md ops i m) →
      i ∈ Region.ready md ops listed → Y P N ops T i oi S v ch ρ η →
      anyA P N md ops T K fuel (listed.setIfInBounds i true) (stepF S oi.dst v ρ) (hpS S (lkH ch) η) → anyA P N md ops T K (fuel + 1) listed ρ η := by
  intro fuel
  induction fuel with
  | zero =>
    intro listed ρ η _ _ hr hy H
    refine ⟨fun h => (by rw [h] at hr; cases hr), fun j hj => ?_⟩
    by_cases hji : j = i
    · subst hji; exact Y_qA hi hy H
    · have := ready_mono hj hji
      rw [H.1] at this
      cases this
  | succ fuel ih =>
    intro listed ρ η hfree hinv hr hy H
    refine ⟨fun h => (by rw [h] at hr; cases hr), fun j hj => ?_⟩
    by_cases hji : j = i
    · subst hji; exact Y_qA hi hy H
    · have h1 := H.2 j (ready_mono hj hji)
      obtain ⟨hjun, oj, hoj, hall⟩ := mem_ready.1 hj
      have hnot : ∀ e ∈ oj.after, Region.binds md e = true → e.on ≠ i := fun e he hb heq => by
        have h1 := hall e he hb
        have h0 := (mem_ready.1 hr).1
        rw [heq] at h1
        rcases Nat.lt_or_ge i listed.size with h' | h'
        · simp [h'] at h0 h1; rw [h0] at h1; cases h1
        · simp [Array.getElem?_eq_none h'] at h1
      have hnd : ¬ Dep md ops i j := fun hd => by
        cases hd with
        | edge ho he hb hi' => rw [hoj] at ho; cases ho; exact hnot _ he hb hi'
        | step ho he hb hd' => rw [hoj] at ho; cases ho; exact hinv _ (hall _ he hb) hd'
      have hap := hfree j oj hoj hji hjun hnot hnd
      have hap1 := (Oper.apart_spec hap.1).1
      have h2 := qA_put hi hoj hap hiF hy h1 (fun Sj vj cj hyj => Y_back hap1 hap.2.1 hy hyj)
      have hfree' : ∀ k ok, ops[k]? = some ok → k ≠ i → (listed.setIfInBounds j true).getD k true = false →
          (∀ e ∈ ok.after, Region.binds md e = true → e.on ≠ i) → ¬ Dep md ops i k → Apart ops T i k oi ok := fun k ok hk hki hun hno hnk => by
        refine hfree k ok hk hki ?_ hno hnk
        by_cases hjk : j = k
        · subst hjk; exact hjun
        · rw [getD_set_ne true hjk] at hun; exact hun
      have hinv' : ∀ m, (listed.setIfInBounds j true).getD m false = true → ¬ Dep md ops i m := fun m hm => by
        by_cases hjm : j = m
        · subst hjm; exact hnd
        · rw [getD_set_ne false hjm] at hm; exact hinv m hm
      refine qA_mono (fun ρ' η' h3 => ih (listed.setIfInBounds j true) ρ' η' hfree' hinv' (ready_mono hr (Ne.symm hji)) h3.1 ?_) h2
      rw [Array.setIfInBounds_comm _ _ hji]
      exact h3.2

def disB (C F : List Nat) : Bool := C.all fun i => !F.contains i
theorem disB_spec {C F : List Nat} (h : disB C F = true) : Dis C F := by
  intro i hi
  simpa using List.all_eq_true.1 h i hi

/-- what lies ahead of each operation, whatever the order -/
def unionB (a s : List Nat) : List Nat := a.foldl (fun s x => bif s.contains x then s else x :: s) s
def reachS (md : Region.Mode) (acc : List (List Nat)) (o : Oper) : List Nat := o.after.toList.foldl (fun s e => bif Region.binds md e then unionB (e.on :: acc.getD e.on []) s else s) []
def reachT (md : Region.Mode) : List Oper → List (List Nat) → List (List Nat)
  | [], acc => acc
  | o :: r, acc => reachT md r (acc ++ [reachS md acc o])
theorem unionB_mem {p : Nat → Prop} (a : List Nat) : ∀ (s : List Nat), (∀ x ∈ a, p x) → (∀ x ∈ s, p x) → ∀ x ∈ unionB a s, p x := by
  unfold unionB
  induction a with
  | nil => intro s _ hs; exact hs
  | cons y r ih =>
    intro s ha hs
    refine ih _ (fun x hx => ha x (by simp [hx])) ?_
    cases hc : s.contains y with
    | true => simp only [hc, cond_true]; exact hs
    | false =>
      simp only [hc, cond_false]
      intro x hx
      rcases List.mem_cons.1 hx with rfl | hx
      · exact ha _ (by simp)
      · exact hs x hx
theorem reachS_mem {md : Region.Mode} {ops : Array Oper} {acc : List (List Nat)} {j : Nat} {o : Oper} (ho : ops[j]? = some o) (hacc : ∀ m x, x ∈ acc.getD m [] → Dep md ops x m) : ∀ x ∈ reachS md acc o, Dep md ops x j := by
  unfold reachS
  have key : ∀ (es : List Edge) (s : List Nat), (∀ e ∈ es, e ∈ o.after) → (∀ x ∈ s, Dep md ops x j) → ∀ x ∈ es.foldl (fun s e => bif Region.binds md e then unionB (e.on :: acc.getD e.on []) s else s) s, Dep md ops x j := by
    intro es
    induction es with
    | nil => intro s _ hs; exact hs
    | cons e r ih =>
      intro s he hs
      refine ih _ (fun e' h => he e' (by simp [h])) ?_
      cases hb : Region.binds md e with
      | false => simp only [hb, cond_false]; exact hs
      | true =>
        simp only [hb, cond_true]
        refine unionB_mem _ _ (fun x hx => ?_) hs
        rcases List.mem_cons.1 hx with rfl | hx
        · exact .edge ho (he e (by simp)) hb rfl
        · exact .step ho (he e (by simp)) hb (hacc _ _ hx)
  exact key _ [] (fun e he => by simpa using he) (fun x hx => by cases hx)
theorem reachT_mem {md : Region.Mode} {ops : Array Oper} : ∀ (l : List Oper) (acc : List (List Nat)), (∀ j, l[j]? = ops[acc.length + j]?) → (∀ m x, x ∈ acc.getD m [] → Dep md ops x m) → ∀ m x, x ∈ (reachT md l acc).getD m [] → Dep md ops x m
  | [], acc, _, h => h
  | o :: l, acc, hl, h => by
    refine reachT_mem l _ (fun j => by have := hl (j + 1); simpa [Nat.add_assoc, Nat.add_comm 1 j] using this) (fun m x hx => ?_)
    have ho : ops[acc.length]? = some o := by simpa using (hl 0).symm
    rw [List.getD_eq_getElem?_getD] at hx
    rcases Nat.lt_trichotomy m acc.length with hm | hm | hm
    · rw [List.getElem?_append_left hm, ← List.getD_eq_getElem?_getD] at hx; exact h m x hx
    · subst hm
      rw [List.getElem?_append_right (Nat.le_refl _)] at hx
      simp at hx
      exact reachS_mem ho h x hx
    · rw [List.getElem?_append_right (by omega)] at hx
      have : ([reachS md acc o] : List (List Nat))[m - acc.length]? = none := by rw [List.getElem?_eq_none_iff]; simp; omega
      rw [this] at hx; simp at hx

/-- 'tab' says what each operation meets and changes: those that the order does not bind are apart -/
def tabB (md : Region.Mode) (rt : List (List Nat)) : Nat → List (Oper × List Nat × List Nat) → Bool
  | _, [] => true
  | k, (_, F, C) :: r => subB C F && r.all (fun q => q.1.after.any (fun e => Region.binds md e && e.on == k) || (disB C q.2.1 && disB q.2.2 F) || q.1.after.any (fun e => Region.binds md e && (rt.getD e.on []).contains k)) && tabB md rt (k + 1) r

theorem anyA_lex {K : Fr → Hp → Prop} {rt : List (List Nat)} (hrt : ∀ m x, x ∈ rt.getD m [] → Dep md ops x m) : ∀ (l : List Oper) (tl : List (List Nat × List Nat)) (k : Nat) (listed : Array Bool) (ρ : Fr) (η : Hp), (∀ j, l[j]? = ops[k + j]?) →
    (∀ j p, tl[j]? = some p → T (k + j) = p) →
    (∀ m, m < k → listed.getD m true = true) → (∀ m, listed.getD m false = true → m < k) → (∀ m o, m < k → ops[m]? = some o → ∀ e ∈ o.after, Region.binds md e = true → e.on < m) →
    Region.lexFrom md ops l.length k listed = true → tabB md rt k (l.zip tl) = true → Lex P N ops true K tl l ρ η → anyA P N md ops T K l.length listed ρ η
  | [], tl, k, listed, ρ, η, hl, hT, hd, hd2, hE, hB, hC, h => ⟨by simpa [Region.lexFrom] using hB, h.2⟩
  | o :: l, tl, k, listed, ρ, η, hl, hT, hd, hd2, hE, hB, hC, h => by
    obtain ⟨F, C, S, v, ch, tab', rfl, hy, hr⟩ := h
    have h0 : ops[k]? = some o := by simpa using (hl 0).symm
    have hTk : T k = (F, C) := by simpa using hT 0 (F, C) rfl
    simp only [List.length_cons, Region.lexFrom, Bool.and_eq_true] at hB
    obtain ⟨⟨hrd, hf⟩, hB'⟩ := hB
    simp only [List.zip_cons_cons, tabB, Bool.and_eq_true] at hC
    obtain ⟨⟨hCF, hall⟩, hC'⟩ := hC
    have hl' : ∀ j, l[j]? = ops[k + 1 + j]? := fun j => by have := hl (j + 1); simpa [Nat.add_assoc, Nat.add_comm 1 j] using this
    have hT' : ∀ j p, tab'[j]? = some p → T (k + 1 + j) = p := fun j p hp => by have := hT (j + 1) p (by simpa using hp); simpa [Nat.add_assoc, Nat.add_comm 1 j] using this
    have hlen : ∀ (l : List Oper) (tl : List (List Nat × List Nat)) (ρ : Fr) (η : Hp), Lex P N ops true K tl l ρ η → tl.length = l.length := by
      intro l
      induction l with
      | nil => intro tl ρ η h; simp [h.1]
      | cons o l ih => intro tl ρ η h; obtain ⟨F, C, S, v, ch, tab', rfl, _, hr⟩ := h; simp [ih _ _ _ hr]
    have hCall : ∀ (k : Nat) (z : List (Oper × List Nat × List Nat)), tabB md rt k z = true → ∀ q ∈ z, subB q.2.2 q.2.1 = true := by
      intro k z
      induction z generalizing k with
      | nil => simp
      | cons q r ih =>
        obtain ⟨_, F, C⟩ := q
        intro h
        simp only [tabB, Bool.and_eq_true] at h
        intro q hq
        rcases List.mem_cons.1 hq with rfl | hq
        · exact h.1.1
        · exact ih _ h.2 q hq
    have hy' : Y P N ops T k o S v ch ρ η := by unfold Y; rw [hTk]; exact hy
    refine anyA_first h0 (by rw [hTk]; exact subB_mem hCF) l.length listed ρ η ?_ (fun m hm hdep => hdep.back hE (hd2 m hm)) (by simpa using hrd) hy' ?_
    · intro j oj hj hne hun hno hnd
      refine ⟨Region.free_spec h0 hf j oj hj hne hun hno, ?_⟩
      have hjk : k < j := by
        rcases Nat.lt_trichotomy j k with h | h | h
        · rw [hd j h] at hun; cases hun
        · exact absurd h hne
        · exact h
      obtain ⟨m, rfl⟩ : ∃ m, j = k + 1 + m := ⟨j - k - 1, by omega⟩
      have hlm : l[m]? = some oj := by rw [hl' m]; exact hj
      have hml : m < l.length := (List.getElem?_eq_some_iff.1 hlm).1
      have hmt : m < tab'.length := by rw [hlen l tab' _ _ hr]; exact hml
      have hz : (oj, tab'[m]) ∈ l.zip tab' := by
        have : (l.zip tab')[m]? = some (oj, tab'[m]) := by
          rw [List.getElem?_zip_eq_some]
          exact ⟨hlm, by simp [List.getElem?_eq_getElem hmt]⟩
        exact List.mem_of_getElem? this
      have hTm : T (k + 1 + m) = tab'[m] := hT' m _ (by simp [List.getElem?_eq_getElem hmt])
      have h1 := List.all_eq_true.1 hall _ hz
      rw [hTk, hTm]
      simp only [Bool.or_eq_true, Bool.and_eq_true] at h1
      rcases h1 with (h1 | h1) | h1
      · obtain ⟨e, he, hb⟩ := Array.any_eq_true'.1 h1
        simp only [Bool.and_eq_true, beq_iff_eq] at hb
        exact absurd hb.2 (hno e he hb.1)
      rotate_left
      · obtain ⟨e, he, hb⟩ := Array.any_eq_true'.1 h1
        simp only [Bool.and_eq_true] at hb
        exact absurd (Dep.step hj he hb.1 (hrt _ _ (by simpa using hb.2))) hnd
      · exact ⟨disB_spec h1.1, disB_spec h1.2, subB_mem (hCall _ _ hC' _ hz)⟩
    · have hrk : k ∈ Region.ready md ops listed := by simpa using hrd
      obtain ⟨_, ok, hok, hall2⟩ := mem_ready.1 hrk
      refine anyA_lex hrt l tab' (k + 1) _ _ _ hl' hT' ?_ (fun m hm => ?_) (fun m om hm hom e he hb => ?_) hB' hC' hr
      rotate_left
      · by_cases e : k = m
        · omega
        · rw [getD_set_ne false e] at hm; have := hd2 m hm; omega
      · by_cases e' : m = k
        · subst e'; rw [hok] at hom; cases hom; exact hd2 _ (hall2 e he hb)
        · exact hE m om (by omega) hom e he hb
      intro m hm
      by_cases e : m = k
      · subst e
        rcases Nat.lt_or_ge m listed.size with h | h
        · simp [h]
        · simp [h]
      · rw [getD_set_ne true (Ne.symm e)]; exact hd m (by omega)

end
end Go.Aw
