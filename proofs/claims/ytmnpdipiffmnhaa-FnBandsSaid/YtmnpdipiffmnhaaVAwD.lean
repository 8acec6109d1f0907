/- Bounds of float arithmetic, and from a contract to a given statement. No condition. -/
import Derived.Test.YtmnpdipiffmnhaaVAwC
import Derived.ProofKit
import Derived.Lib.SmallJoins
import Derived.Laws.Cover2
import Derived.Deep.Slices
set_option linter.unusedVariables false
namespace Go.Aw

/-- less than 2 to the power of E - 1023 -/
def Lt64 (c E : Nat) : Prop := c % 9223372036854775808 < E * 4503599627370496
theorem Lt64.mono {c E E' : Nat} (h : Lt64 c E) (hE : E ≤ E') : Lt64 c E' := Nat.lt_of_lt_of_le h (Nat.mul_le_mul_right _ hE)
theorem Lt64.notnan {c E : Nat} (h : Lt64 c E) (hE : E ≤ 2047) : isNan .f64 c = false := by
  unfold Lt64 at h
  rw [isNan_rung, sw64, inf64]; exact decide_eq_false (by omega)
theorem Lt64.read {c E : Nat} (h : Lt64 c E) (hE : E ≤ 2047) : ∃ (s : Bool) (m : Nat) (i : Int), FloatKind.f64.format.read c = .number s m i ∧ (m ≠ 0 → (m.log2 : Int) + i ≤ (E : Int) - 1024) := by
  unfold Lt64 at h
  unfold Ieee.Format.read
  dsimp only
  rw [sw64, bin64, inf64, lp64]
  by_cases h1 : c % 9223372036854775808 < 4503599627370496
  · rw [if_pos h1]
    refine ⟨_, _, _, rfl, fun h0 => ?_⟩
    have : (c % 9223372036854775808).log2 < 52 := (Nat.log2_lt h0).2 (by omega)
    omega
  · rw [if_neg h1, if_pos (by omega)]
    refine ⟨_, _, _, rfl, fun h0 => ?_⟩
    have : (4503599627370496 + c % 9223372036854775808 % 4503599627370496).log2 < 53 := (Nat.log2_lt h0).2 (by omega)
    omega
/-- at least 2 to the power of L - 1023 -/
def Ge64 (c L : Nat) : Prop := L * 4503599627370496 ≤ c % 9223372036854775808 ∧ c % 9223372036854775808 < 9218868437227405312
theorem Ge64.read {c L : Nat} (h : Ge64 c L) (hL : 1 ≤ L) : ∃ (s : Bool) (m : Nat) (i : Int), FloatKind.f64.format.read c = .number s m i ∧ m ≠ 0 ∧ (L : Int) - 1023 ≤ (m.log2 : Int) + i := by
  obtain ⟨h1, h2⟩ := h
  unfold Ieee.Format.read
  dsimp only
  rw [sw64, bin64, inf64, lp64]
  rw [if_neg (by omega), if_pos h2]
  refine ⟨_, _, _, rfl, by omega, ?_⟩
  have : 52 ≤ (4503599627370496 + c % 9223372036854775808 % 4503599627370496).log2 := (Nat.le_log2 (by omega)).2 (by omega)
  omega
end Go.Aw

set_option linter.unusedVariables false
set_option maxRecDepth 20000
namespace Go.Aw

theorem cut_ge (s : Bool) (n d : Nat) : n / 2 ^ d ≤ Ieee.Toward.even.cut s n d := by
  unfold Ieee.Toward.cut
  simp only [Nat.shiftLeft_eq, Nat.one_mul]
  refine Nat.le_trans ?_ (Nat.le_add_right _ _)
  exact Nat.div_le_div_left (Nat.pow_le_pow_right (by decide) (Nat.min_le_left _ _)) (Nat.two_pow_pos _)
theorem word_f (f : Ieee.Format) (r : Nat) : f.word false r = r := rfl
/-! ### one more than a number -/
/-! ### the natural logarithm -/
def lgQ (u : Nat) : Nat → Nat
  | 0 => 0
  | n + 1 => fop .add .f64 (fop .quo .f64 4607182418800017408 (fint .f64 (25 - 2 * (n : Int)))) (fop .mul .f64 u (lgQ u n))
def lgS (y : Nat) : Nat := fop .quo .f64 (fop .sub .f64 y 4607182418800017408) (fop .add .f64 y 4607182418800017408)
def lgP (y : Nat) (e : Int) : Nat :=
  fop .add .f64 (fop .mul .f64 4611686018427387904 (fop .mul .f64 (lgS y) (lgQ (fop .mul .f64 (lgS y) (lgS y)) 13))) (fop .mul .f64 (fint .f64 e) 4604418534313441775)
def lgN1 (y : Nat) : Nat := if y < 4609434218613702656 then 0 else (y - 4609434218613702656) / 4503599627370496 + 1
def lgY1 (y : Nat) : Nat := y - lgN1 y * 4503599627370496
def lgN2 (y : Nat) : Nat := if 4604930618986332160 ≤ y then 0 else (4604930618986332160 - y + 4503599627370495) / 4503599627370496
def lgY2 (y : Nat) : Nat := y + lgN2 y * 4503599627370496
def lgW (y : Nat) : Nat := lgP (lgY2 (lgY1 y)) ((lgN1 y : Int) - (lgN2 (lgY1 y) : Int))

end Go.Aw

set_option linter.unusedVariables false
namespace Go.Aw
open Go.RowKit (Below)
open Go.ChangeShapes Go.WideShapes Go.ChangeAt Go.RowKit Go.Deep Go.Joins

theorem carryAll {H : Type} {enc : TypeId × Value → H} {P : Program} (hl : laidOutB P = true) {W W' : World} (hb : Below W.heap.size W W') : ∀ (ts : List TypeId) (vs : List Value) (ds : List (DataW H)) (ps : List MemPlace),
    (ts.all fun t => P.readableRec t && decide (t < P.types.size)) = true → (∀ x ∈ ps, x.block < W.heap.size) → DataW.TrodAll enc P W 0 (fun _ => true) true ts vs ds ps →
    DataW.TrodAll enc P W' 0 (fun b => decide (b < W.heap.size)) true ts vs ds ps := by
  intro ts
  induction ts with
  | nil => intro vs ds ps _ _ h; cases vs <;> cases ds <;> first | exact h | exact h.elim
  | cons t ts ih =>
    intro vs ds ps hts hp h
    cases vs with
    | nil => cases ds <;> exact h.elim
    | cons v vs =>
      cases ds with
      | nil => exact h.elim
      | cons d ds =>
        simp only [List.all_cons, Bool.and_eq_true, decide_eq_true_eq] at hts
        obtain ⟨p, q, h1, h2, rfl⟩ := h
        exact ⟨p, q, Below.trod hl hts.1.1 hts.1.2 h1 hb (fun x hx => hp x (by simp [hx])), ih vs ds q hts.2 (fun x hx => hp x (by simp [hx])) h2, rfl⟩

theorem law_post {H : Type} {enc : TypeId × Value → H} {P : Program} {f : Func} {s : ChangeSpec} {W W' : World} {args : Array Value} {ds : List (DataW H)} {before : List MemPlace} {tb : TypeId} (hl : laidOutB P = true)
    (hps : (f.params.toList.all fun t => P.readableRec t && decide (t < P.types.size)) = true) (hres : f.resultTypes = #[tb]) (htb : P.underlying tb = some .bool) (hvars : s.vars = [])
    (hr : (s.fn H (ds ++ [])).results = [.lit (.bool true)]) (ha : (s.fn H (ds ++ [])).args = ds) (hv : (s.fn H (ds ++ [])).vars = [])
    (hW : DataW.Whole enc P f.params.toList s.vars false W args.toList ds [] before) (hB : Below W.heap.size W W') : s.post enc P f false true false false W args (.bool true) W' := by
  have hlt : ∀ x ∈ before, x.block < W.heap.size := fun x hx => by simpa using hW.lt x hx
  have hW' := hW
  obtain ⟨p, q, hA, hV, rfl, _, _⟩ := hW'
  have hq : q = [] := by rw [hvars] at hV; exact hV
  subst hq
  simp only [List.append_nil] at *
  refine ⟨ds, [], p, [], p, [], hW, ?_, ?_, ?_, ?_, fun h => by cases h⟩
  · rw [List.append_nil, hr, hres]
    exact trodAll_mk1 ⟨1, by simp [DataW.trod, Value.cells, htb]⟩
  · rw [List.append_nil, ha]; exact carryAll hl hB _ _ _ _ hps hlt hA
  · rw [List.append_nil, hv, hvars]; exact rfl
  · exact hB.frame _

/-! ### arguments opened -/
section
variable {H : Type} {enc : TypeId × Value → H} {P : Program} {w : World} {base : Nat} {spare : Nat → Bool} {held : Bool} {r : Reach} {b0 : Nat}
end
theorem TRl_cons {w : World} {ok : Nat → Prop} {t : T} {v : Value} {ts : List T} {vs : List Value} (h : TR w ok t v) (hs : TRl w ok ts vs) : TRl w ok (t :: ts) (v :: vs) := by
  simp only [TRl]; exact ⟨_, _, rfl, h, hs⟩
theorem TRl_nil {w : World} {ok : Nat → Prop} : TRl w ok [] [] := by simp only [TRl]

theorem law_calls {P : Program} {f : FuncId} {ts : List T} {W : World} {args : Array Value} (hc : TCall P f ts (.t (.v (.bool true))) []) (ha : TRl W (fun _ => True) ts args.toList) :
    Calls P f args W fun e w' => e = .returned (.bool true) ∧ Below W.heap.size W w' := by
  refine (hc.2 W args.toList ha).mono fun e w' h => ?_
  obtain ⟨y, μ, rfl, hh, hr⟩ := h
  rw [RRel, TR] at hr
  subst hr
  exact ⟨rfl, hh.below.below (fun _ h => h)⟩
end Go.Aw

set_option linter.unusedVariables false
namespace Go.Aw
open Go.RowKit (Below)
open Go.ChangeShapes Go.WideShapes Go.ChangeAt Go.RowKit Go.Deep Go.Joins
section
variable {H : Type} {enc : TypeId × Value → H} {P : Program} {w : World} {base : Nat} {spare : Nat → Bool} {held : Bool} {r : Reach} {b0 : Nat}

/-- a slice of one-cell elements, whatever they are -/
theorem trod_sl1 {n : Nat} {t tf : TypeId} {v : Value} {y : DataW H × List MemPlace} (ht : P.underlying t = some (.slice tf)) (hc : P.cellsOf tf = 1)
    (hlt : ∀ x ∈ y.2, x.block < w.heap.size) (h : DataW.trod enc P w base (fun _ => true) held n t [v] = some y) :
    ∃ (len : Nat) (a : Option Addr) (cap : Nat), v = .slice a len cap ∧ len ≤ cap ∧ len ≤ 9223372036854775807 ∧ (len = 0 ∨ ∃ b off, a = some ⟨b, off, none⟩ ∧ b < w.heap.size ∧
      ∀ i, i < len → ∃ (V : Value) (k : Nat) (y' : DataW H × List MemPlace), w.cell? ⟨b, off + i, none⟩ = some V ∧ DataW.trod enc P w base (fun _ => true) held k tf [V] = some y' ∧ ∀ x ∈ y'.2, x.block < w.heap.size) := by
  rcases open_slice1 ht hc h with ⟨h0, _⟩ | ⟨a, len, cap, m, k, V, D, Pl, h0, _, hl, hm, hmm, hx, hel⟩
  · simp at h0; subst h0
    exact ⟨0, none, 0, rfl, Nat.le_refl _, by omega, .inl rfl⟩
  · simp at h0; subst h0
    simp only [if_true] at hmm
    subst hmm
    refine ⟨len, some a, m, rfl, hl, by unfold maxLen at hm; omega, ?_⟩
    by_cases h0 : len = 0
    · exact .inl h0
    · right
      obtain ⟨b, off, sp⟩ := a
      have hs := World.cell?_spot (hel 0 (by omega)).1
      have hs' : sp = none := by simpa [Addr.add] using hs
      subst hs'
      refine ⟨b, off, rfl, ?_, fun i hi => ?_⟩
      · refine hlt (.cell b off) ?_
        rw [hx]
        exact List.mem_append_left _ (MemPlace.mem_row.2 ⟨0, by omega, by simp⟩)
      · have e : (⟨b, off, none⟩ : Addr).add i = ⟨b, off + i, none⟩ := by { unfold Addr.add; by_cases h0 : i = 0 <;> simp [h0] }
        have h1 := hel i (by omega)
        rw [e] at h1
        refine ⟨V i, k, _, h1.1, h1.2, fun x hxm => hlt x ?_⟩
        rw [hx]
        exact List.mem_append_right _ (List.mem_flatMap.2 ⟨i, by simp; omega, hxm⟩)

theorem exists_list {α : Type} (d : α) {n : Nat} {p : Nat → α → Prop} (h : ∀ i, i < n → ∃ x, p i x) : ∃ l : List α, l.length = n ∧ ∀ i, i < n → p i (l.getD i d) := by
  induction n with
  | zero => exact ⟨[], rfl, fun i hi => by omega⟩
  | succ n ih =>
    obtain ⟨l, h1, h2⟩ := ih (fun i hi => h i (by omega))
    obtain ⟨x, hx⟩ := h n (by omega)
    refine ⟨l ++ [x], by simp [h1], fun i hi => ?_⟩
    rcases Nat.lt_or_ge i n with h3 | h3
    · have := h2 i h3
      rw [List.getD_eq_getElem?_getD] at this ⊢
      rwa [List.getElem?_append_left (by omega)]
    · have : i = n := by omega
      subst this
      rw [List.getD_eq_getElem?_getD, List.getElem?_append_right (by omega)]
      simpa [h1] using hx
end
end Go.Aw

