/- More arguments opened: lists of integers, of bools, of lists; structs of lists. -/
import Derived.Test.YtodnginckchmdaaAwLaw
set_option linter.unusedVariables false
namespace Go.Aw
open Go.RowKit (Below)
open Go.ChangeShapes Go.WideShapes Go.ChangeAt Go.RowKit Go.Deep Go.Joins
section
variable {H : Type} {enc : TypeId × Value → H} {P : Program} {w : World} {base : Nat} {spare : Nat → Bool} {held : Bool} {r : Reach} {b0 : Nat}

theorem TRf_any {w : World} {ok : Nat → Prop} (hok : ∀ b, ok b) {l : List Nat} {v : Value} (h : TRf w (fun _ => True) l v) : TRf w ok l v := TRf.mono (fun b hb _ => ⟨hb, hok b, rfl⟩) h
def FLok (l : List Nat) : Prop := l.length ≤ 9223372036854775807 ∧ ∀ c ∈ l, F32 c

theorem open_R4 {t tl tf : TypeId} {f0 f1 f2 f3 : Field} {v : Value} {d : DataW H} {p : List MemPlace} (hs : P.underlying t = some (.struct #[f0, f1, f2, f3])) (hone : oneCellFields P #[f0, f1, f2, f3] = true) (hC : P.cellsOf t = 4)
    (h0 : f0.type = tl) (h1 : f1.type = tl) (h2 : f2.type = tl) (h3 : f3.type = tl) (htl : P.underlying tl = some (.slice tf)) (ht : P.underlying tf = some (.float .f32)) (hc : P.cellsOf tf = 1)
    (hlt : ∀ x ∈ p, x.block < w.heap.size) (hv : Value.okWide P w r b0 t v) (h : DataW.Trod enc P w base (fun _ => true) held t v d p) :
    ∃ a b c e, (FLok a ∧ FLok b ∧ FLok c ∧ FLok e) ∧ ∀ ok, (∀ b, ok b) → TR w ok (.agg [.fl a, .fl b, .fl c, .fl e]) v := by
  obtain ⟨v0, v1, v2, v3, y0, y1, y2, y3, n, rfl, _, rfl, k0, k1, k2, k3⟩ := open_agg4 hs hone hC hv h
  rw [h0] at k0; rw [h1] at k1; rw [h2] at k2; rw [h3] at k3
  obtain ⟨l0, w0, t0⟩ := trod_fl htl ht hc (fun x hx => hlt x (by simp [hx])) k0
  obtain ⟨l1, w1, t1⟩ := trod_fl htl ht hc (fun x hx => hlt x (by simp [hx])) k1
  obtain ⟨l2, w2, t2⟩ := trod_fl htl ht hc (fun x hx => hlt x (by simp [hx])) k2
  obtain ⟨l3, w3, t3⟩ := trod_fl htl ht hc (fun x hx => hlt x (by simp [hx])) k3
  refine ⟨l0, l1, l2, l3, ⟨w0, w1, w2, w3⟩, fun ok hok => ?_⟩
  rw [TR]
  refine ⟨_, rfl, ?_⟩
  simp only [TRl, TR]
  exact ⟨_, _, rfl, TRf_any hok t0, _, _, rfl, TRf_any hok t1, _, _, rfl, TRf_any hok t2, _, _, rfl, TRf_any hok t3, rfl⟩

theorem trod_i64 {n : Nat} {t : TypeId} {v : Value} {y : DataW H × List MemPlace} (ht : P.underlying t = some (.int .i64)) (h : DataW.trod enc P w base spare held n t [v] = some y) : ∃ m : Int, v = .int .i64 m ∧ -9223372036854775808 ≤ m ∧ m ≤ 9223372036854775807 := by
  cases n with
  | zero => simp [DataW.trod] at h
  | succ n =>
    cases v <;> simp only [DataW.trod, ht] at h <;> first | cases h | skip
    rename_i k b
    cases k <;> simp at h
    refine ⟨b, rfl, ?_⟩
    have hw := h.1
    simp [Lit.wf, IntKind.min, IntKind.max, IntKind.signed, IntKind.bits] at hw
    omega
theorem trod_bl {n : Nat} {t : TypeId} {v : Value} {y : DataW H × List MemPlace} (ht : P.underlying t = some .bool) (h : DataW.trod enc P w base spare held n t [v] = some y) : ∃ m : Bool, v = .bool m := by
  cases n with
  | zero => simp [DataW.trod] at h
  | succ n =>
    cases v <;> simp only [DataW.trod, ht] at h <;> first | cases h | skip
    exact ⟨_, rfl⟩

/-- a slice of one-cell elements, whatever they are -/
theorem trod_sl1 {n : Nat} {t tf : TypeId} {v : Value} {y : DataW H × List MemPlace} (ht : P.underlying t = some (.slice tf)) (hc : P.cellsOf tf = 1)
    (hlt : ∀ x ∈ y.2, x.block < w.heap.size) (h : DataW.trod enc P w base (fun _ => true) held n t [v] = some y) :
    ∃ (len : Nat) (a : Option Addr) (cap : Nat), v = .slice a len cap ∧ len ≤ cap ∧ len ≤ 9223372036854775807 ∧ (len = 0 ∨ ∃ b off, a = some ⟨b, off, none⟩ ∧ b < w.heap.size ∧
      ∀ i, i < len → ∃ (V : Value) (k : Nat) (y' : DataW H × List MemPlace), w.cell? ⟨b, off + i, none⟩ = some V ∧ DataW.trod enc P w base (fun _ => true) held k tf [V] = some y' ∧ ∀ x ∈ y'.2, x.block < w.heap.size) := by
  rcases open_slice1 ht hc h with ⟨h0, _⟩ | ⟨a, len, cap, m, k, V, D, Pl, h0, _, hl, hm, hmm, hx, hel⟩
  · simp at h0; subst h0
    exact ⟨0, none, 0, rfl, Nat.le_refl _, by omega, .inl rfl⟩
  · simp at h0; subst h0
    simp only [if_true] at hmm
    subst hmm
    refine ⟨len, some a, m, rfl, hl, by unfold maxLen at hm; omega, ?_⟩
    by_cases h0 : len = 0
    · exact .inl h0
    · right
      obtain ⟨b, off, sp⟩ := a
      have hs := World.cell?_spot (hel 0 (by omega)).1
      have hs' : sp = none := by simpa [Addr.add] using hs
      subst hs'
      refine ⟨b, off, rfl, ?_, fun i hi => ?_⟩
      · refine hlt (.cell b off) ?_
        rw [hx]
        exact List.mem_append_left _ (MemPlace.mem_row.2 ⟨0, by omega, by simp⟩)
      · have e : (⟨b, off, none⟩ : Addr).add i = ⟨b, off + i, none⟩ := by { unfold Addr.add; by_cases h0 : i = 0 <;> simp [h0] }
        have h1 := hel i (by omega)
        rw [e] at h1
        refine ⟨V i, k, _, h1.1, h1.2, fun x hxm => hlt x ?_⟩
        rw [hx]
        exact List.mem_append_right _ (List.mem_flatMap.2 ⟨i, by simp; omega, hxm⟩)

theorem exists_list {α : Type} (d : α) {n : Nat} {p : Nat → α → Prop} (h : ∀ i, i < n → ∃ x, p i x) : ∃ l : List α, l.length = n ∧ ∀ i, i < n → p i (l.getD i d) := by
  induction n with
  | zero => exact ⟨[], rfl, fun i hi => by omega⟩
  | succ n ih =>
    obtain ⟨l, h1, h2⟩ := ih (fun i hi => h i (by omega))
    obtain ⟨x, hx⟩ := h n (by omega)
    refine ⟨l ++ [x], by simp [h1], fun i hi => ?_⟩
    rcases Nat.lt_or_ge i n with h3 | h3
    · have := h2 i h3
      rw [List.getD_eq_getElem?_getD] at this ⊢
      rwa [List.getElem?_append_left (by omega)]
    · have : i = n := by omega
      subst this
      rw [List.getD_eq_getElem?_getD, List.getElem?_append_right (by omega)]
      simpa [h1] using hx
theorem open_IL {t tf : TypeId} {v : Value} {d : DataW H} {p : List MemPlace} (ht : P.underlying t = some (.slice tf)) (hf : P.underlying tf = some (.int .i64)) (hc : P.cellsOf tf = 1)
    (hlt : ∀ x ∈ p, x.block < w.heap.size) (h : DataW.Trod enc P w base (fun _ => true) held t v d p) (hv : Value.okWide P w r b0 t v) :
    ∃ l : List Int, (l.length ≤ 9223372036854775807 ∧ ∀ i, i < l.length → -9223372036854775808 ≤ l.getD i 0 ∧ l.getD i 0 ≤ 9223372036854775807) ∧ ∀ ok, (∀ b, ok b) → TR w ok (.il l) v := by
  obtain ⟨fuel, hfu⟩ := h
  obtain ⟨a0, len, cap, rfl⟩ := okWide_slice ht hv
  obtain ⟨len', a, cap', he, h1, h2, h3⟩ := trod_sl1 ht hc hlt hfu
  cases he
  rcases h3 with h0 | ⟨b, off, rfl, hb, hel⟩
  · subst h0
    exact ⟨[], ⟨by simp, fun i hi => by simp at hi⟩, fun ok hok => by rw [TR]; exact ⟨_, _, _, rfl, rfl, h1, .inl rfl⟩⟩
  · obtain ⟨l, hl, hp⟩ := exists_list (0 : Int) (p := fun i m => w.cell? ⟨b, off + i, none⟩ = some (.int .i64 m) ∧ -9223372036854775808 ≤ m ∧ m ≤ 9223372036854775807) (fun i hi => by
      obtain ⟨V, k, y', g1, g2, _⟩ := hel i hi
      obtain ⟨m, rfl, g3⟩ := trod_i64 hf g2
      exact ⟨m, g1, g3⟩)
    refine ⟨l, ⟨by omega, fun i hi => (hp i (by omega)).2⟩, fun ok hok => ?_⟩
    rw [TR]
    exact ⟨_, _, _, rfl, hl.symm, h1, .inr ⟨b, off, rfl, hb, hok b, fun i hi => (hp i hi).1⟩⟩
theorem open_BL {t tf : TypeId} {v : Value} {d : DataW H} {p : List MemPlace} (ht : P.underlying t = some (.slice tf)) (hf : P.underlying tf = some .bool) (hc : P.cellsOf tf = 1)
    (hlt : ∀ x ∈ p, x.block < w.heap.size) (h : DataW.Trod enc P w base (fun _ => true) held t v d p) (hv : Value.okWide P w r b0 t v) :
    ∃ l : List Bool, l.length ≤ 9223372036854775807 ∧ ∀ ok, (∀ b, ok b) → TR w ok (.bl l) v := by
  obtain ⟨fuel, hfu⟩ := h
  obtain ⟨a0, len, cap, rfl⟩ := okWide_slice ht hv
  obtain ⟨len', a, cap', he, h1, h2, h3⟩ := trod_sl1 ht hc hlt hfu
  cases he
  rcases h3 with h0 | ⟨b, off, rfl, hb, hel⟩
  · subst h0
    exact ⟨[], by simp, fun ok hok => by rw [TR]; exact ⟨_, _, _, rfl, rfl, h1, .inl rfl⟩⟩
  · obtain ⟨l, hl, hp⟩ := exists_list false (p := fun i m => w.cell? ⟨b, off + i, none⟩ = some (.bool m)) (fun i hi => by
      obtain ⟨V, k, y', g1, g2, _⟩ := hel i hi
      obtain ⟨m, rfl⟩ := trod_bl hf g2
      exact ⟨m, g1⟩)
    refine ⟨l, by omega, fun ok hok => ?_⟩
    rw [TR]
    exact ⟨_, _, _, rfl, hl.symm, h1, .inr ⟨b, off, rfl, hb, hok b, fun i hi => hp i hi⟩⟩
theorem open_FFL {t tl tf : TypeId} {v : Value} {d : DataW H} {p : List MemPlace} (ht : P.underlying t = some (.slice tl)) (htl : P.underlying tl = some (.slice tf)) (hf : P.underlying tf = some (.float .f32)) (hcl : P.cellsOf tl = 1) (hc : P.cellsOf tf = 1)
    (hlt : ∀ x ∈ p, x.block < w.heap.size) (h : DataW.Trod enc P w base (fun _ => true) held t v d p) (hv : Value.okWide P w r b0 t v) :
    ∃ l : List (List Nat), (l.length ≤ 9223372036854775807 ∧ ∀ i, i < l.length → FLok (l.getD i [])) ∧ ∀ ok, (∀ b, ok b) → TR w ok (.ffl l) v := by
  obtain ⟨fuel, hfu⟩ := h
  obtain ⟨a0, len, cap, rfl⟩ := okWide_slice ht hv
  obtain ⟨len', a, cap', he, h1, h2, h3⟩ := trod_sl1 ht hcl hlt hfu
  cases he
  rcases h3 with h0 | ⟨b, off, rfl, hb, hel⟩
  · subst h0
    exact ⟨[], ⟨by simp, fun i hi => by simp at hi⟩, fun ok hok => by rw [TR]; exact ⟨_, _, _, rfl, rfl, h1, .inl rfl⟩⟩
  · obtain ⟨l, hl, hp⟩ := exists_list ([] : List Nat) (p := fun i m => FLok m ∧ ∃ V, w.cell? ⟨b, off + i, none⟩ = some V ∧ TRf w (fun _ => True) m V) (fun i hi => by
      obtain ⟨V, k, y', g1, g2, g3⟩ := hel i hi
      obtain ⟨m, g4, g5⟩ := trod_fl htl hf hc g3 g2
      exact ⟨m, g4, V, g1, g5⟩)
    refine ⟨l, ⟨by omega, fun i hi => (hp i (by omega)).1⟩, fun ok hok => ?_⟩
    rw [TR]
    exact ⟨_, _, _, rfl, hl.symm, h1, .inr ⟨b, off, rfl, hb, hok b, fun i hi => by
      obtain ⟨_, V, g1, g2⟩ := hp i hi
      exact ⟨V, g1, TRf_any hok g2⟩⟩⟩
/-- a state: two numbers, a list, an integer -/
theorem open_St {t tl tf ti : TypeId} {f0 f1 f2 f3 : Field} {v : Value} {d : DataW H} {p : List MemPlace} (hs : P.underlying t = some (.struct #[f0, f1, f2, f3])) (hone : oneCellFields P #[f0, f1, f2, f3] = true) (hC : P.cellsOf t = 4)
    (h0 : f0.type = tf) (h1 : f1.type = tf) (h2 : f2.type = tl) (h3 : f3.type = ti) (htl : P.underlying tl = some (.slice tf)) (ht : P.underlying tf = some (.float .f32)) (hti : P.underlying ti = some (.int .i64)) (hc : P.cellsOf tf = 1)
    (hlt : ∀ x ∈ p, x.block < w.heap.size) (hv : Value.okWide P w r b0 t v) (h : DataW.Trod enc P w base (fun _ => true) held t v d p) :
    ∃ a b c e, (F32 a ∧ F32 b ∧ FLok c ∧ (-9223372036854775808 ≤ e ∧ e ≤ 9223372036854775807)) ∧ ∀ ok, (∀ b, ok b) → TR w ok (.agg [.f .f32 a, .f .f32 b, .fl c, .v (.int .i64 e)]) v := by
  obtain ⟨v0, v1, v2, v3, y0, y1, y2, y3, n, rfl, _, rfl, k0, k1, k2, k3⟩ := open_agg4 hs hone hC hv h
  rw [h0] at k0; rw [h1] at k1; rw [h2] at k2; rw [h3] at k3
  obtain ⟨x0, rfl, w0⟩ := trod_f32 ht k0
  obtain ⟨x1, rfl, w1⟩ := trod_f32 ht k1
  obtain ⟨l2, w2, t2⟩ := trod_fl htl ht hc (fun x hx => hlt x (by simp [hx])) k2
  obtain ⟨m, rfl, w3⟩ := trod_i64 hti k3
  refine ⟨_, _, l2, m, ⟨(F32_of w0).2, (F32_of w1).2, w2, w3⟩, fun ok hok => ?_⟩
  rw [TR]
  refine ⟨_, rfl, ?_⟩
  simp only [TRl, TR]
  exact ⟨_, _, rfl, ⟨_, rfl, (F32_of w0).1⟩, _, _, rfl, ⟨_, rfl, (F32_of w1).1⟩, _, _, rfl, TRf_any hok t2, _, _, rfl, rfl, rfl⟩
end
end Go.Aw
