/- Symbolic states: values, heaps, one operation, regions in whatever order, code, numbers, memory. No condition. -/
import Derived.Orders
import Derived.Still
import Derived.Below
import Derived.Laws.FloatArith
import Derived.IntWalk
import Derived.Laws.OwnMore
import Derived.Laws.MakeOwn
import Derived.Laws.Append
set_option linter.unusedVariables false
namespace Go.Aw
open Go.RowKit (Below)

/-! ### floats up to the bits of a NaN -/

def isNan (k : FloatKind) (b : Nat) : Bool := (k.decode b).isNaN
def nan0 : FloatKind → Nat
  | .f32 => 2143289344
  | .f64 => 9221120237041090560
def canon (k : FloatKind) (b : Nat) : Nat := if isNan k b then nan0 k else b
/-- word 'b' is the number 'c', where all NaNs count as one -/
def FR (k : FloatKind) (b c : Nat) : Prop := canon k b = c ∧ b < 2 ^ k.format.width

/-! ### symbolic values -/

inductive T where
  | v (x : Value)
  | f (k : FloatKind) (c : Nat)
  | fl (l : List Nat)
  | il (l : List Int)
  | bl (l : List Bool)
  | tl (l : List T)
  | ffl (l : List (List Nat))
  | ref (l : List T)
  | agg (l : List T)
  | fn (f : FuncId) (l : List T)
  /-- floats in a block that a call has made for them -/
  | gf (l : List Nat)

inductive AV where
  | t (t : T)
  | old (t : T)
  | arg (i : Nat) (t : T)
  | argc (i j : Nat) (t : T)
  | own (id : Nat) (off len : Nat)
  | argo (i id off len : Nat)
  | emp
  | bp (id : Nat) (off : Nat)
  | bpa (i id : Nat)
  | agg (l : List AV)
  | tup (l : List AV)
  | fn (f : FuncId) (l : List AV)
  | dead (id : Nat)
  | junk

inductive Blk where
  | sl (e : TypeId) (c : T)
  | box (e : TypeId) (l : List AV)
  | nest (e : TypeId) (L : List AV) (vis : List Nat) (rem : Nat → Bool)

/-- the elements of a slice's content, as one-cell data -/
def T.elems : T → List T
  | .fl l => l.map (T.f .f32)
  | .il l => l.map fun n => T.v (.int .i64 n)
  | .bl l => l.map fun b => T.v (.bool b)
  | .tl l => l
  | .ffl l => l.map T.fl
  | _ => []
def T.isSl : T → Bool
  | .fl _ | .il _ | .bl _ | .tl _ | .ffl _ => true
  | _ => false
def T.len : T → Nat
  | .fl l => l.length
  | .il l => l.length
  | .bl l => l.length
  | .tl l => l.length
  | .ffl l => l.length
  | _ => 0
def T.cut (a b : Nat) : T → T
  | .fl l => .fl ((l.take b).drop a)
  | .il l => .il ((l.take b).drop a)
  | .bl l => .bl ((l.take b).drop a)
  | .tl l => .tl ((l.take b).drop a)
  | .ffl l => .ffl ((l.take b).drop a)
  | t => t
def T.get (i : Nat) : T → T
  | .fl l => .f .f32 (l.getD i 0)
  | .il l => .v (.int .i64 (l.getD i 0))
  | .bl l => .v (.bool (l.getD i false))
  | .tl l => l.getD i (.v (.bool false))
  | .ffl l => .fl (l.getD i [])
  | t => t

theorem T.len_elems (t : T) : t.elems.length = t.len := by cases t <;> simp [T.elems, T.len]

theorem T.get_elems (t : T) (h : t.isSl = true) (i : Nat) (hi : i < t.len) : t.elems[i]? = some (t.get i) := by
  cases t <;> simp_all [T.elems, T.len, T.get, T.isSl]

theorem T.cut_elems (t : T) (h : t.isSl = true) (a b : Nat) : (t.cut a b).elems = (t.elems.take b).drop a := by
  cases t <;> simp_all [T.elems, T.cut, T.isSl, List.map_take, List.map_drop]
theorem T.cut_isSl (t : T) (a b : Nat) : (t.cut a b).isSl = t.isSl := by cases t <;> rfl
theorem T.cut_len (t : T) (h : t.isSl = true) (a b : Nat) (hb : b ≤ t.len) : (t.cut a b).len = b - a := by
  cases t <;> simp_all [T.len, T.cut, T.isSl] <;> omega

/-- 'y' is a slice that reads as these floats -/
def TRf (w : World) (ok : Nat → Prop) (l : List Nat) (y : Value) : Prop := ∃ a n c, y = .slice a n c ∧ n = l.length ∧ n ≤ c ∧ (n = 0 ∨ ∃ b o, a = some ⟨b, o, none⟩ ∧ b < w.heap.size ∧ ok b ∧
      ∀ i, i < n → ∃ x, w.cell? ⟨b, o + i, none⟩ = some (.float .f32 x) ∧ FR .f32 x (l.getD i 0))
theorem TRf.mono {w w' : World} {ok ok' : Nat → Prop} (h : ∀ b, b < w.heap.size → ok b → b < w'.heap.size ∧ ok' b ∧ w'.heap[b]? = w.heap[b]?) {l : List Nat} {y : Value} (hy : TRf w ok l y) : TRf w' ok' l y := by
  obtain ⟨a, n, c, rfl, hn, hc, hh⟩ := hy
  refine ⟨a, n, c, rfl, hn, hc, hh.imp id ?_⟩
  rintro ⟨b, o, ha, hb, hok, hi⟩
  obtain ⟨h1, h2, h3⟩ := h b hb hok
  exact ⟨b, o, ha, h1, h2, fun i hin => by obtain ⟨x, hx, hf⟩ := hi i hin; exact ⟨x, by simpa [World.cell?, h3] using hx, hf⟩⟩

mutual
/-- 'y' reads as 't' in 'w'; all that is read lies in blocks that satisfy 'ok' -/
def TR (w : World) (ok : Nat → Prop) : T → Value → Prop
  | .v x, y => y = x
  | .f k c, y => ∃ b, y = .float k b ∧ FR k b c
  | .fl l, y => TRf w ok l y
  | .ffl l, y => ∃ a n c, y = .slice a n c ∧ n = l.length ∧ n ≤ c ∧ (n = 0 ∨ ∃ b o, a = some ⟨b, o, none⟩ ∧ b < w.heap.size ∧ ok b ∧
      ∀ i, i < n → ∃ x, w.cell? ⟨b, o + i, none⟩ = some x ∧ TRf w ok (l.getD i []) x)
  | .il l, y => ∃ a n c, y = .slice a n c ∧ n = l.length ∧ n ≤ c ∧ (n = 0 ∨ ∃ b o, a = some ⟨b, o, none⟩ ∧ b < w.heap.size ∧ ok b ∧
      ∀ i, i < n → w.cell? ⟨b, o + i, none⟩ = some (.int .i64 (l.getD i 0)))
  | .bl l, y => ∃ a n c, y = .slice a n c ∧ n = l.length ∧ n ≤ c ∧ (n = 0 ∨ ∃ b o, a = some ⟨b, o, none⟩ ∧ b < w.heap.size ∧ ok b ∧
      ∀ i, i < n → w.cell? ⟨b, o + i, none⟩ = some (.bool (l.getD i false)))
  | .tl l, y => ∃ a n c, y = .slice a n c ∧ n = l.length ∧ n ≤ c ∧ (n = 0 ∨ ∃ b o, a = some ⟨b, o, none⟩ ∧ b < w.heap.size ∧ ok b ∧ TRs w ok l b o)
  | .ref l, y => ∃ b o, y = .pointer (some ⟨b, o, none⟩) ∧ b < w.heap.size ∧ ok b ∧ TRs w ok l b o
  | .agg l, y => ∃ xs : Array Value, y = .agg xs ∧ TRl w ok l xs.toList
  | .fn f l, y => ∃ xs : Array Value, y = .func (.func f) #[] xs ∧ TRl w ok l xs.toList
  | .gf l, y => ∃ a n c, y = .slice a n c ∧ n = l.length ∧ n ≤ c ∧ (n = 0 ∨ ∃ b cs e, a = some ⟨b, 0, none⟩ ∧ b < w.heap.size ∧ ok b ∧ w.heap[b]? = some (.cells cs e (0, 0)) ∧ c ≤ cs.size ∧
      ∀ i, i < n → ∃ x, cs[i]? = some (.float .f32 x) ∧ FR .f32 x (l.getD i 0))
def TRs (w : World) (ok : Nat → Prop) : List T → Nat → Nat → Prop
  | [], _, _ => True
  | t :: r, b, o => (∃ x, w.cell? ⟨b, o, none⟩ = some x ∧ TR w ok t x) ∧ TRs w ok r b (o + 1)
def TRl (w : World) (ok : Nat → Prop) : List T → List Value → Prop
  | [], xs => xs = []
  | t :: r, xs => ∃ x ys, xs = x :: ys ∧ TR w ok t x ∧ TRl w ok r ys
end

theorem TRs_iff (w : World) (ok : Nat → Prop) (l : List T) (b o : Nat) : TRs w ok l b o ↔ ∀ (i : Nat) (t : T), l[i]? = some t → ∃ x, w.cell? ⟨b, o + i, none⟩ = some x ∧ TR w ok t x := by
  induction l generalizing o with
  | nil => simp [TRs]
  | cons t r ih =>
    rw [TRs, ih]
    constructor
    · rintro ⟨h0, h⟩ i u hu
      cases i with
      | zero => simp at hu; subst hu; simpa using h0
      | succ i => have := h i u (by simpa using hu); simpa [Nat.add_assoc, Nat.add_comm 1 i] using this
    · intro h
      exact ⟨by simpa using h 0 t rfl, fun i u hu => by have := h (i + 1) u (by simpa using hu); simpa [Nat.add_assoc, Nat.add_comm 1 i] using this⟩

theorem TRl_iff (w : World) (ok : Nat → Prop) (l : List T) (xs : List Value) : TRl w ok l xs ↔ l.length = xs.length ∧ ∀ (i : Nat) (t : T), l[i]? = some t → ∃ x, xs[i]? = some x ∧ TR w ok t x := by
  induction l generalizing xs with
  | nil => cases xs <;> simp [TRl]
  | cons t r ih =>
    rw [TRl]
    constructor
    · rintro ⟨x, ys, rfl, hx, hr⟩
      obtain ⟨h1, h2⟩ := (ih ys).1 hr
      refine ⟨by simp [h1], fun i u hu => ?_⟩
      cases i with
      | zero => simp at hu; subst hu; exact ⟨x, rfl, hx⟩
      | succ i => simpa using h2 i u (by simpa using hu)
    · rintro ⟨h1, h2⟩
      cases xs with
      | nil => simp at h1
      | cons x ys =>
        obtain ⟨x', hx', h⟩ := h2 0 t rfl
        simp at hx'; subst hx'
        exact ⟨_, _, rfl, h, (ih ys).2 ⟨by simpa using h1, fun i u hu => by simpa using h2 (i + 1) u (by simpa using hu)⟩⟩

/-- a slice's content, whatever its elements are -/
theorem TR_sl (w : World) (ok : Nat → Prop) (t : T) (ht : t.isSl = true) (y : Value) : TR w ok t y ↔
    ∃ a n c, y = .slice a n c ∧ n = t.len ∧ n ≤ c ∧ (n = 0 ∨ ∃ b o, a = some ⟨b, o, none⟩ ∧ b < w.heap.size ∧ ok b ∧ TRs w ok t.elems b o) := by
  cases t <;> simp only [T.isSl, Bool.false_eq_true] at ht
  case tl l => simp [TR, T.len, T.elems]
  all_goals
    rename_i l
    first | rw [TR, TRf] | rw [TR]
    simp only [T.len, T.elems]
    constructor
    · rintro ⟨a, n, c, rfl, hn, hc, h⟩
      refine ⟨a, n, c, rfl, hn, hc, h.imp id ?_⟩
      rintro ⟨b, o, ha, hb, hok, hi⟩
      refine ⟨b, o, ha, hb, hok, (TRs_iff ..).2 fun i t ht => ?_⟩
      simp only [List.getElem?_map, Option.map_eq_some_iff] at ht
      obtain ⟨x, hx, rfl⟩ := ht
      have hlt : i < l.length := (List.getElem?_eq_some_iff.1 hx).1
      have e : ∀ d, l.getD i d = x := fun d => by simp [List.getD_eq_getElem?_getD, hx]
      have := hi i (by omega)
      first
        | (obtain ⟨z, hz, hf⟩ := this; exact ⟨_, hz, by rw [TR]; exact ⟨z, rfl, by rw [e] at hf; exact hf⟩⟩)
        | (obtain ⟨z, hz, hf⟩ := this; exact ⟨_, hz, by rw [TR]; rw [e] at hf; exact hf⟩)
        | (rw [e] at this; exact ⟨_, this, by rw [TR]⟩)
    · rintro ⟨a, n, c, rfl, hn, hc, h⟩
      refine ⟨a, n, c, rfl, hn, hc, h.imp id ?_⟩
      rintro ⟨b, o, ha, hb, hok, hi⟩
      refine ⟨b, o, ha, hb, hok, fun i hin => ?_⟩
      have hlt : i < l.length := by omega
      have := (TRs_iff ..).1 hi i _ (by simp only [List.getElem?_map, List.getElem?_eq_getElem hlt, Option.map_some]; rfl)
      obtain ⟨x, hx, h⟩ := this
      rw [TR] at h
      have e : ∀ d, l.getD i d = l[i] := fun d => by simp [List.getD_eq_getElem?_getD, List.getElem?_eq_getElem hlt]
      first
        | (obtain ⟨z, rfl, hf⟩ := h; exact ⟨z, hx, by rw [e]; exact hf⟩)
        | exact ⟨x, hx, by rw [e]; exact h⟩
        | (subst h; rw [e]; exact hx)

mutual
theorem TR.mono {w w' : World} {ok ok' : Nat → Prop} (h : ∀ b, b < w.heap.size → ok b → b < w'.heap.size ∧ ok' b ∧ w'.heap[b]? = w.heap[b]?) :
    ∀ (t : T) (y : Value), TR w ok t y → TR w' ok' t y
  | .v x, y, hy => by rw [TR] at *; exact hy
  | .f k c, y, hy => by rw [TR] at *; exact hy
  | .fl l, y, hy => by
    rw [TR] at *
    exact TRf.mono h hy
  | .ffl l, y, hy => by
    rw [TR] at *
    obtain ⟨a, n, c, rfl, hn, hc, hh⟩ := hy
    refine ⟨a, n, c, rfl, hn, hc, hh.imp id ?_⟩
    rintro ⟨b, o, ha, hb, hok, hi⟩
    obtain ⟨h1, h2, h3⟩ := h b hb hok
    exact ⟨b, o, ha, h1, h2, fun i hin => by obtain ⟨x, hx, hf⟩ := hi i hin; exact ⟨x, by simpa [World.cell?, h3] using hx, TRf.mono h hf⟩⟩
  | .il l, y, hy => by
    rw [TR] at *
    obtain ⟨a, n, c, rfl, hn, hc, hh⟩ := hy
    refine ⟨a, n, c, rfl, hn, hc, hh.imp id ?_⟩
    rintro ⟨b, o, ha, hb, hok, hi⟩
    obtain ⟨h1, h2, h3⟩ := h b hb hok
    exact ⟨b, o, ha, h1, h2, fun i hin => by have hx := hi i hin; simpa [World.cell?, h3] using hx⟩
  | .bl l, y, hy => by
    rw [TR] at *
    obtain ⟨a, n, c, rfl, hn, hc, hh⟩ := hy
    refine ⟨a, n, c, rfl, hn, hc, hh.imp id ?_⟩
    rintro ⟨b, o, ha, hb, hok, hi⟩
    obtain ⟨h1, h2, h3⟩ := h b hb hok
    exact ⟨b, o, ha, h1, h2, fun i hin => by have hx := hi i hin; simpa [World.cell?, h3] using hx⟩
  | .tl l, y, hy => by
    rw [TR] at *
    obtain ⟨a, n, c, rfl, hn, hc, hh⟩ := hy
    refine ⟨a, n, c, rfl, hn, hc, hh.imp id ?_⟩
    rintro ⟨b, o, ha, hb, hok, hi⟩
    obtain ⟨h1, h2, h3⟩ := h b hb hok
    exact ⟨b, o, ha, h1, h2, TRs.mono h l b o h3 hi⟩
  | .ref l, y, hy => by
    rw [TR] at *
    obtain ⟨b, o, rfl, hb, hok, hi⟩ := hy
    obtain ⟨h1, h2, h3⟩ := h b hb hok
    exact ⟨b, o, rfl, h1, h2, TRs.mono h l b o h3 hi⟩
  | .agg l, y, hy => by
    rw [TR] at *
    obtain ⟨xs, rfl, hx⟩ := hy
    exact ⟨xs, rfl, TRl.mono h l _ hx⟩
  | .fn f l, y, hy => by
    rw [TR] at *
    obtain ⟨xs, rfl, hx⟩ := hy
    exact ⟨xs, rfl, TRl.mono h l _ hx⟩
  | .gf l, y, hy => by
    rw [TR] at *
    obtain ⟨a, n, c, rfl, hn, hc, hh⟩ := hy
    refine ⟨a, n, c, rfl, hn, hc, hh.imp id ?_⟩
    rintro ⟨b, cs, e, ha, hb, hok, hw, hcs, hi⟩
    obtain ⟨h1, h2, h3⟩ := h b hb hok
    exact ⟨b, cs, e, ha, h1, h2, h3.trans hw, hcs, hi⟩
theorem TRs.mono {w w' : World} {ok ok' : Nat → Prop} (h : ∀ b, b < w.heap.size → ok b → b < w'.heap.size ∧ ok' b ∧ w'.heap[b]? = w.heap[b]?) :
    ∀ (l : List T) (b o : Nat), w'.heap[b]? = w.heap[b]? → TRs w ok l b o → TRs w' ok' l b o
  | [], _, _, _, _ => by rw [TRs]; trivial
  | t :: r, b, o, hb, hy => by
    rw [TRs] at *
    obtain ⟨⟨x, hx, ht⟩, hr⟩ := hy
    exact ⟨⟨x, by simpa [World.cell?, hb] using hx, TR.mono h t x ht⟩, TRs.mono h r b (o + 1) hb hr⟩
theorem TRl.mono {w w' : World} {ok ok' : Nat → Prop} (h : ∀ b, b < w.heap.size → ok b → b < w'.heap.size ∧ ok' b ∧ w'.heap[b]? = w.heap[b]?) :
    ∀ (l : List T) (xs : List Value), TRl w ok l xs → TRl w' ok' l xs
  | [], xs, hy => by rw [TRl] at *; exact hy
  | t :: r, xs, hy => by
    rw [TRl] at *
    obtain ⟨x, ys, rfl, hx, hr⟩ := hy
    exact ⟨x, ys, rfl, TR.mono h t x hx, TRl.mono h r ys hr⟩
end

/-! ### the ids of a symbolic value -/

mutual
def AV.ids : AV → List Nat
  | .own id _ _ => [id]
  | .argo _ id _ _ => [id]
  | .bp id _ => [id]
  | .bpa _ id => [id]
  | .agg l => idsL l
  | .tup l => idsL l
  | .fn _ l => idsL l
  | .dead id => [id]
  | _ => []
def idsL : List AV → List Nat
  | [] => []
  | v :: r => v.ids ++ idsL r
end
mutual
def AV.refs : AV → List Nat
  | .own id _ _ => [id]
  | .argo _ id _ _ => [id]
  | .bp id _ => [id]
  | .bpa _ id => [id]
  | .agg l => refsL l
  | .tup l => refsL l
  | .fn _ l => refsL l
  | _ => []
def refsL : List AV → List Nat
  | [] => []
  | v :: r => v.refs ++ refsL r
end
mutual
/-- the references to the ids 'S' are dead from now on -/
def scrub (S : List Nat) : AV → AV
  | .own i o n => bif S.contains i then .dead i else .own i o n
  | .argo k i o n => bif S.contains i then .dead i else .argo k i o n
  | .bp i o => bif S.contains i then .dead i else .bp i o
  | .bpa o i => bif S.contains i then .dead i else .bpa o i
  | .agg l => .agg (scrubL S l)
  | .tup l => .tup (scrubL S l)
  | .fn f l => .fn f (scrubL S l)
  | v => v
def scrubL (S : List Nat) : List AV → List AV
  | [] => []
  | v :: r => scrub S v :: scrubL S r
end
def Blk.ids : Blk → List Nat
  | .sl _ _ => []
  | .box _ l => idsL l
  | .nest _ _ vis _ => vis

/-- the call's own arguments; how many blocks there were when it began -/
structure Env where
  a : List Value
  base : Nat
  /-- blocks that were there, lent to the call to be written -/
  loan : Nat → Prop
abbrev noLoan : Nat → Prop := fun _ => False
/-- made by the call itself, or lent to it -/
def okF (vs : Env) (ok : Nat → Prop) : Nat → Prop := fun b => ok b ∧ (vs.base ≤ b ∨ vs.loan b)

/-- handed over: it was there when the call began -/
def okA (vs : Env) (ok : Nat → Prop) : Nat → Prop := fun b => ok b ∧ b < vs.base ∧ ¬ vs.loan b

abbrev Fr := Nat → AV
abbrev Hp := Nat → Option Blk

/-- an argument; 1000 + 100 k + j: field j of argument k -/
def argAt (a0s : List Value) (i : Nat) (y : Value) : Prop :=
  if i < 1000 then a0s[i]? = some y else ∃ xs : Array Value, a0s[(i - 1000) / 100]? = some (.agg xs) ∧ xs[(i - 1000) % 100]? = some y
theorem argAt_lt {a0s : List Value} {i : Nat} {y : Value} (h : i < 1000) : argAt a0s i y ↔ a0s[i]? = some y := by unfold argAt; rw [if_pos h]
theorem argAt_inj {a0s : List Value} {i : Nat} {y z : Value} (h : argAt a0s i y) (h' : argAt a0s i z) : y = z := by
  unfold argAt at h h'
  split at h
  · rw [if_pos (by assumption), h] at h'; simpa using h'
  · rw [if_neg (by assumption)] at h'
    obtain ⟨xs, h1, h2⟩ := h
    obtain ⟨ys, h3, h4⟩ := h'
    rw [h1] at h3
    simp only [Option.some.injEq, Value.agg.injEq] at h3
    subst h3
    rw [h2] at h4
    simpa using h4
theorem argAt_fld {a0s : List Value} {k j : Nat} {xs : Array Value} {y : Value} (hj : j < 100) (h1 : a0s[k]? = some (.agg xs)) (h2 : xs[j]? = some y) : argAt a0s (1000 + 100 * k + j) y := by
  unfold argAt
  rw [if_neg (by omega), show (1000 + 100 * k + j - 1000) / 100 = k by omega, show (1000 + 100 * k + j - 1000) % 100 = j by omega]
  exact ⟨xs, h1, h2⟩
mutual
/-- 'y' is what 'v' says: 'vs': the call's own arguments; 'μ': which block an id is -/
def VR (vs : Env) (w : World) (μ : Nat → Option Nat) (ok : Nat → Prop) : AV → Value → Prop
  | .t t, y => TR w (okF vs ok) t y
  | .old t, y => TR w ok t y
  | .arg i t, y => vs.a[i]? = some y ∧ TR w (okA vs ok) t y
  | .argc i j t, y => (∃ xs : Array Value, vs.a[i]? = some (.agg xs) ∧ xs[j]? = some y) ∧ TR w (okA vs ok) t y
  | .own id off len, y => (μ id = none ∧ off = 0 ∧ len = 0 ∧ y = .slice none 0 0) ∨
      ∃ b cap e n, μ id = some b ∧ y = .slice (some ⟨b, off, none⟩) len cap ∧ w.shape? b = some (e, n) ∧ off + cap ≤ n ∧ len ≤ cap
  | .argo i id off len, y => argAt vs.a i y ∧ ((μ id = none ∧ off = 0 ∧ len = 0 ∧ y = .slice none 0 0) ∨
      ∃ b cap e n, μ id = some b ∧ y = .slice (some ⟨b, off, none⟩) len cap ∧ w.shape? b = some (e, n) ∧ off + cap ≤ n ∧ len ≤ cap)
  | .bp id off, y => ∃ b, μ id = some b ∧ y = .pointer (some ⟨b, off, none⟩)
  | .bpa i id, y => argAt vs.a i y ∧ ∃ b, μ id = some b ∧ y = .pointer (some ⟨b, 0, none⟩)
  | .agg l, y => ∃ xs : Array Value, y = .agg xs ∧ VRl vs w μ ok l xs.toList
  | .tup l, y => ∃ xs : Array Value, y = .tuple xs ∧ VRl vs w μ ok l xs.toList
  | .fn f l, y => ∃ xs : Array Value, y = .func (.func f) #[] xs ∧ VRl vs w μ ok l xs.toList
  | .emp, y => ∃ a, y = .slice a 0 0
  | .dead _, _ => True
  | .junk, _ => True
def VRl (vs : Env) (w : World) (μ : Nat → Option Nat) (ok : Nat → Prop) : List AV → List Value → Prop
  | [], xs => xs = []
  | t :: r, xs => ∃ x ys, xs = x :: ys ∧ VR vs w μ ok t x ∧ VRl vs w μ ok r ys
end

theorem shape?_of_block {w w' : World} {b : Nat} (h : w'.heap[b]? = w.heap[b]?) : w'.shape? b = w.shape? b := by simp [World.shape?, h]

/-- 'w'' keeps what 'w' holds outside the blocks that the symbolic state writes -/
structure Keeps (w w' : World) (μ μ' : Nat → Option Nat) (ok ok' : Nat → Prop) (gone : Nat → Prop) : Prop where
  tree : ∀ b, b < w.heap.size → ok b → b < w'.heap.size ∧ ok' b ∧ w'.heap[b]? = w.heap[b]?
  id : ∀ i, ¬ gone i → μ' i = μ i
  shape : ∀ i b, ¬ gone i → μ i = some b → ∀ s, w.shape? b = some s → w'.shape? b = some s

theorem Keeps.treeF {vs : Env} {w w' : World} {μ μ' : Nat → Option Nat} {ok ok' : Nat → Prop} {gone : Nat → Prop} (h : Keeps w w' μ μ' ok ok' gone) :
    ∀ b, b < w.heap.size → okF vs ok b → b < w'.heap.size ∧ okF vs ok' b ∧ w'.heap[b]? = w.heap[b]? := fun b hb ⟨h1, h2⟩ => by
  obtain ⟨g1, g2, g3⟩ := h.tree b hb h1
  exact ⟨g1, ⟨g2, h2⟩, g3⟩

theorem Keeps.treeA {vs : Env} {w w' : World} {μ μ' : Nat → Option Nat} {ok ok' : Nat → Prop} {gone : Nat → Prop} (h : Keeps w w' μ μ' ok ok' gone) :
    ∀ b, b < w.heap.size → okA vs ok b → b < w'.heap.size ∧ okA vs ok' b ∧ w'.heap[b]? = w.heap[b]? := fun b hb ⟨h1, h2⟩ => by
  obtain ⟨g1, g2, g3⟩ := h.tree b hb h1
  exact ⟨g1, ⟨g2, h2⟩, g3⟩

mutual
theorem VR.mono {vs : Env} {w w' : World} {μ μ' : Nat → Option Nat} {ok ok' : Nat → Prop} {gone : Nat → Prop} (h : Keeps w w' μ μ' ok ok' gone) :
    ∀ (v : AV) (y : Value), (∀ i ∈ v.refs, ¬ gone i) → VR vs w μ ok v y → VR vs w' μ' ok' v y
  | .t t, y, _, hy => by rw [VR] at *; exact TR.mono h.treeF t y hy
  | .old t, y, _, hy => by rw [VR] at *; exact TR.mono h.tree t y hy
  | .arg i t, y, _, hy => by rw [VR] at *; exact ⟨hy.1, TR.mono h.treeA t y hy.2⟩
  | .argc i j t, y, _, hy => by rw [VR] at *; exact ⟨hy.1, TR.mono h.treeA t y hy.2⟩
  | .own id off len, y, hi, hy => by
    have hg : ¬ gone id := hi id (by simp [AV.refs])
    rw [VR] at *
    rcases hy with ⟨h1, h2⟩ | ⟨b, cap, e, n, h1, h2, h3, h4⟩
    · exact .inl ⟨by rw [h.id id hg]; exact h1, h2⟩
    · exact .inr ⟨b, cap, e, n, by rw [h.id id hg]; exact h1, h2, h.shape id b hg h1 _ h3, h4⟩
  | .argo k id off len, y, hi, hy => by
    have hg : ¬ gone id := hi id (by simp [AV.refs])
    rw [VR] at *
    refine ⟨hy.1, ?_⟩
    rcases hy.2 with ⟨h1, h2⟩ | ⟨b, cap, e, n, h1, h2, h3, h4⟩
    · exact .inl ⟨by rw [h.id id hg]; exact h1, h2⟩
    · exact .inr ⟨b, cap, e, n, by rw [h.id id hg]; exact h1, h2, h.shape id b hg h1 _ h3, h4⟩
  | .bp id off, y, hi, hy | .bpa off id, y, hi, hy => by
    have hg : ¬ gone id := hi id (by simp [AV.refs])
    rw [VR] at *
    rw [h.id id hg]; exact hy
  | .agg l, y, hi, hy => by
    rw [VR] at *
    obtain ⟨xs, rfl, hx⟩ := hy
    exact ⟨xs, rfl, VRl.mono h l _ (by simpa [AV.refs] using hi) hx⟩
  | .tup l, y, hi, hy => by
    rw [VR] at *
    obtain ⟨xs, rfl, hx⟩ := hy
    exact ⟨xs, rfl, VRl.mono h l _ (by simpa [AV.refs] using hi) hx⟩
  | .fn f l, y, hi, hy => by
    rw [VR] at *
    obtain ⟨xs, rfl, hx⟩ := hy
    exact ⟨xs, rfl, VRl.mono h l _ (by simpa [AV.refs] using hi) hx⟩
  | .emp, y, _, hy => by rw [VR] at *; exact hy
  | .dead _, y, _, _ => by rw [VR]; trivial
  | .junk, y, _, _ => by rw [VR]; trivial
theorem VRl.mono {vs : Env} {w w' : World} {μ μ' : Nat → Option Nat} {ok ok' : Nat → Prop} {gone : Nat → Prop} (h : Keeps w w' μ μ' ok ok' gone) :
    ∀ (l : List AV) (xs : List Value), (∀ i ∈ refsL l, ¬ gone i) → VRl vs w μ ok l xs → VRl vs w' μ' ok' l xs
  | [], xs, _, hy => by rw [VRl] at *; exact hy
  | t :: r, xs, hi, hy => by
    rw [VRl] at *
    obtain ⟨x, ys, rfl, hx, hr⟩ := hy
    exact ⟨x, ys, rfl, VR.mono h t x (fun i hm => hi i (by simp [refsL, hm])) hx, VRl.mono h r ys (fun i hm => hi i (by simp [refsL, hm])) hr⟩
end

theorem VRl_iff (vs : Env) (w : World) (μ : Nat → Option Nat) (ok : Nat → Prop) (l : List AV) (xs : List Value) :
    VRl vs w μ ok l xs ↔ l.length = xs.length ∧ ∀ (i : Nat) (v : AV), l[i]? = some v → ∃ x, xs[i]? = some x ∧ VR vs w μ ok v x := by
  induction l generalizing xs with
  | nil => cases xs <;> simp [VRl]
  | cons t r ih =>
    rw [VRl]
    constructor
    · rintro ⟨x, ys, rfl, hx, hr⟩
      obtain ⟨h1, h2⟩ := (ih ys).1 hr
      refine ⟨by simp [h1], fun i u hu => ?_⟩
      cases i with
      | zero => simp at hu; subst hu; exact ⟨x, rfl, hx⟩
      | succ i => simpa using h2 i u (by simpa using hu)
    · rintro ⟨h1, h2⟩
      cases xs with
      | nil => simp at h1
      | cons x ys =>
        obtain ⟨x', hx', h⟩ := h2 0 t rfl
        simp at hx'; subst hx'
        exact ⟨_, _, rfl, h, (ih ys).2 ⟨by simpa using h1, fun i u hu => by simpa using h2 (i + 1) u (by simpa using hu)⟩⟩

mutual
theorem scrub_refs (S : List Nat) : ∀ (v : AV), ∀ i ∈ (scrub S v).refs, i ∉ S
  | .own i o n | .argo _ i o n => by
    simp only [scrub]
    cases h : S.contains i with
    | true => simp [AV.refs]
    | false => simp only [cond_false, AV.refs, List.mem_singleton, forall_eq]; simpa using h
  | .bp i o | .bpa o i => by
    simp only [scrub]
    cases h : S.contains i with
    | true => simp [AV.refs]
    | false => simp only [cond_false, AV.refs, List.mem_singleton, forall_eq]; simpa using h
  | .agg l => by simp only [scrub, AV.refs]; exact scrub_refsL S l
  | .tup l => by simp only [scrub, AV.refs]; exact scrub_refsL S l
  | .fn f l => by simp only [scrub, AV.refs]; exact scrub_refsL S l
  | .t _ | .old _ | .arg _ _ | .argc _ _ _ | .emp | .dead _ | .junk => by simp [scrub, AV.refs]
theorem scrub_refsL (S : List Nat) : ∀ (l : List AV), ∀ i ∈ refsL (scrubL S l), i ∉ S
  | [] => by simp [scrubL, refsL]
  | v :: r => by
    simp only [scrubL, refsL, List.mem_append]
    rintro i (h | h)
    · exact scrub_refs S v i h
    · exact scrub_refsL S r i h
end

mutual
theorem scrub_ids (S : List Nat) : ∀ (v : AV), (scrub S v).ids = v.ids
  | .own i o n | .argo _ i o n => by simp only [scrub]; cases S.contains i <;> simp [AV.ids]
  | .bp i o | .bpa o i => by simp only [scrub]; cases S.contains i <;> simp [AV.ids]
  | .agg l => by simp only [scrub, AV.ids]; exact scrub_idsL S l
  | .tup l => by simp only [scrub, AV.ids]; exact scrub_idsL S l
  | .fn f l => by simp only [scrub, AV.ids]; exact scrub_idsL S l
  | .t _ | .old _ | .arg _ _ | .argc _ _ _ | .emp | .dead _ | .junk => by simp [scrub, AV.ids]
theorem scrub_idsL (S : List Nat) : ∀ (l : List AV), idsL (scrubL S l) = idsL l
  | [] => by simp [scrubL, idsL]
  | v :: r => by simp only [scrubL, idsL]; rw [scrub_ids S v, scrub_idsL S r]
end

mutual
theorem scrub_id {S : List Nat} : ∀ (v : AV), (∀ i ∈ v.ids, i ∉ S) → scrub S v = v
  | .own i o n, h | .argo _ i o n, h => by
    have : S.contains i = false := by simpa using h i (by simp [AV.ids])
    simp only [scrub, this, cond_false]
  | .bp i o, h | .bpa o i, h => by
    have : S.contains i = false := by simpa using h i (by simp [AV.ids])
    simp only [scrub, this, cond_false]
  | .agg l, h => by simp only [scrub]; rw [scrub_idL l (by simpa [AV.ids] using h)]
  | .tup l, h => by simp only [scrub]; rw [scrub_idL l (by simpa [AV.ids] using h)]
  | .fn f l, h => by simp only [scrub]; rw [scrub_idL l (by simpa [AV.ids] using h)]
  | .t _, _ | .old _, _ | .arg _ _, _ | .argc _ _ _, _ | .emp, _ | .dead _, _ | .junk, _ => by simp [scrub]
theorem scrub_idL {S : List Nat} : ∀ (l : List AV), (∀ i ∈ idsL l, i ∉ S) → scrubL S l = l
  | [], _ => by simp [scrubL]
  | v :: r, h => by
    simp only [scrubL]
    rw [scrub_id v (fun i hi => h i (by simp [idsL, hi])), scrub_idL r (fun i hi => h i (by simp [idsL, hi]))]
end

mutual
theorem scrub_comm (S U : List Nat) : ∀ (v : AV), scrub S (scrub U v) = scrub U (scrub S v)
  | .own i o n | .argo _ i o n => by cases h1 : S.contains i <;> cases h2 : U.contains i <;> simp only [scrub, h1, h2, cond_true, cond_false]
  | .bp i o | .bpa o i => by cases h1 : S.contains i <;> cases h2 : U.contains i <;> simp only [scrub, h1, h2, cond_true, cond_false]
  | .agg l => by simp only [scrub]; rw [scrub_commL S U l]
  | .tup l => by simp only [scrub]; rw [scrub_commL S U l]
  | .fn f l => by simp only [scrub]; rw [scrub_commL S U l]
  | .t _ | .old _ | .arg _ _ | .argc _ _ _ | .emp | .dead _ | .junk => by simp [scrub]
theorem scrub_commL (S U : List Nat) : ∀ (l : List AV), scrubL S (scrubL U l) = scrubL U (scrubL S l)
  | [] => by simp [scrubL]
  | v :: r => by simp only [scrubL]; rw [scrub_comm S U v, scrub_commL S U r]
end

mutual
theorem VR.scrub {vs : Env} {w : World} {μ : Nat → Option Nat} {ok : Nat → Prop} {S : List Nat} : ∀ (v : AV) (y : Value), VR vs w μ ok v y → VR vs w μ ok (Aw.scrub S v) y
  | .own i o n, y, h | .argo _ i o n, y, h => by
    simp only [Aw.scrub]
    cases S.contains i with
    | true => simp only [cond_true]; rw [VR]; trivial
    | false => exact h
  | .bp i o, y, h | .bpa o i, y, h => by
    simp only [Aw.scrub]
    cases S.contains i with
    | true => simp only [cond_true]; rw [VR]; trivial
    | false => exact h
  | .agg l, y, h => by simp only [Aw.scrub]; rw [VR] at *; obtain ⟨xs, rfl, hx⟩ := h; exact ⟨xs, rfl, VRl.scrub l _ hx⟩
  | .tup l, y, h => by simp only [Aw.scrub]; rw [VR] at *; obtain ⟨xs, rfl, hx⟩ := h; exact ⟨xs, rfl, VRl.scrub l _ hx⟩
  | .fn f l, y, h => by simp only [Aw.scrub]; rw [VR] at *; obtain ⟨xs, rfl, hx⟩ := h; exact ⟨xs, rfl, VRl.scrub l _ hx⟩
  | .t _, y, h | .old _, y, h | .arg _ _, y, h | .argc _ _ _, y, h | .emp, y, h | .dead _, y, h | .junk, y, h => by simpa only [Aw.scrub] using h
theorem VRl.scrub {vs : Env} {w : World} {μ : Nat → Option Nat} {ok : Nat → Prop} {S : List Nat} : ∀ (l : List AV) (xs : List Value), VRl vs w μ ok l xs → VRl vs w μ ok (scrubL S l) xs
  | [], xs, h => by simpa only [scrubL] using h
  | v :: r, xs, h => by
    simp only [scrubL]
    rw [VRl] at *
    obtain ⟨x, ys, rfl, hx, hr⟩ := h
    exact ⟨x, ys, rfl, VR.scrub v x hx, VRl.scrub r ys hr⟩
end

end Go.Aw

set_option linter.unusedVariables false
namespace Go.Aw
open Go.RowKit (Below)

/-! ### the heap of a symbolic state -/

/-- block 'b' is none that the symbolic heap owns -/
def okOf (μ : Nat → Option Nat) (η : Hp) (b : Nat) : Prop := ∀ i, (η i).isSome → μ i ≠ some b

/-- ids from here on are names of what lies within a block of slices -/
def bigN : Nat := 1099511627776
/-- what a cell of such a block says of the id 'i' is no longer known -/
def hitN (vis : List Nat) (rem : Nat → Bool) (i : Nat) : Bool := rem i || (Nat.blt i bigN && !vis.contains i)
def BlkR (vs : Env) (base : Nat) (w : World) (μ : Nat → Option Nat) (ok : Nat → Prop) (i : Nat) : Blk → Prop
  | .sl e c => c.isSl = true ∧ ((μ i = none ∧ c.len = 0) ∨ ∃ b cs, μ i = some b ∧ (base ≤ b ∨ vs.loan b) ∧ w.heap[b]? = some (.cells cs e (0, 0)) ∧ c.len ≤ cs.size ∧ TRl w (okF vs ok) c.elems (cs.toList.take c.len))
  | .box e l => ∃ b cs, μ i = some b ∧ (base ≤ b ∨ vs.loan b) ∧ w.heap[b]? = some (.cells cs e (0, 0)) ∧ VRl vs w μ ok l cs.toList
  | .nest e L vis rem => (μ i = none ∧ L = []) ∨ ∃ b cs, μ i = some b ∧ (base ≤ b ∨ vs.loan b) ∧ w.heap[b]? = some (.cells cs e (0, 0)) ∧ L.length ≤ cs.size ∧ ∀ (k : Nat) (v : AV), L[k]? = some v → ∃ x, cs[k]? = some x ∧ ((∃ j ∈ v.ids, hitN vis rem j = true) ∨ VR vs w μ ok v x)

/-- a block's type, size and what of it is frozen -/
def shp (w : World) (k : Nat) : Option ((TypeId × Nat) × (Nat × Nat)) := match w.heap[k]? with
  | some (.cells c e fz) => some ((e, c.size), fz)
  | _ => none
theorem shape_shp (w : World) (k : Nat) : w.shape? k = (shp w k).map (·.1) := by
  unfold World.shape? shp
  cases w.heap[k]? with
  | none => rfl
  | some o => cases o <;> rfl
theorem shp_of_block {w w' : World} {b : Nat} (h : w'.heap[b]? = w.heap[b]?) : shp w' b = shp w b := by unfold shp; rw [h]
theorem size_shp {w : World} {b : Nat} {cs : Array Value} {e : TypeId} {fz : Nat × Nat} (h : w.heap[b]? = some (.cells cs e fz)) : shp w b = some ((e, cs.size), fz) := by unfold shp; rw [h]
theorem shp_lt {w : World} {k : Nat} {s : (TypeId × Nat) × (Nat × Nat)} (h : shp w k = some s) : k < w.heap.size := by
  rcases Nat.lt_or_ge k w.heap.size with h' | h'
  · exact h'
  · simp [shp, Array.getElem?_eq_none h'] at h
/-- nothing has changed but the memory that is lent; what is lent keeps its shape -/
structure Bel (vs : Env) (w0 w : World) : Prop where
  os : w.os = w0.os
  tape : w.tape = w0.tape
  output : w.output = w0.output
  size : w0.heap.size ≤ w.heap.size
  block : ∀ k, k < w0.heap.size → ¬ vs.loan k → w.heap[k]? = w0.heap[k]?
  shape : ∀ k s, shp w0 k = some s → shp w k = some s
theorem Bel.refl (vs : Env) (w : World) : Bel vs w w := ⟨rfl, rfl, rfl, Nat.le_refl _, fun _ _ _ => rfl, fun _ _ h => h⟩
theorem Bel.drew {vs : Env} {w0 w : World} (h : Bel vs w0 w) : Bel vs w0 w.drew := ⟨h.os, h.tape, h.output, h.size, h.block, h.shape⟩
theorem Bel.grow {vs : Env} {w0 w w' : World} (h : Bel vs w0 w) (hb : Below w.heap.size w w') : Bel vs w0 w' :=
  ⟨hb.os.trans h.os, hb.tape.trans h.tape, hb.output.trans h.output, Nat.le_trans h.size hb.size, fun k hk hl => (hb.block k (Nat.lt_of_lt_of_le hk h.size)).trans (h.block k hk hl),
    fun k s hs => by have h1 := h.shape k s hs; rw [← h1]; exact shp_of_block (hb.block k (shp_lt h1))⟩
theorem Bel.sh {vs : Env} {w0 w : World} (h : Bel vs w0 w) (k : Nat) (s : TypeId × Nat) (hs : w0.shape? k = some s) : w.shape? k = some s := by
  rw [shape_shp] at *
  obtain ⟨x, hx, rfl⟩ := Option.map_eq_some_iff.1 hs
  rw [h.shape k x hx]; rfl
theorem Bel.below {vs : Env} {w0 w : World} (h : Bel vs w0 w) (hn : ∀ b, ¬ vs.loan b) : Below w0.heap.size w0 w := ⟨h.os, h.tape, h.output, h.size, fun k hk => h.block k hk (hn k)⟩
structure HC (vs : Env) (w0 : World) (μ : Nat → Option Nat) (η : Hp) (w : World) : Prop where
  base : vs.base = w0.heap.size
  below : Bel vs w0 w
  blk : ∀ i B, η i = some B → BlkR vs w0.heap.size w μ (okOf μ η) i B
  inj : ∀ i j b, (η i).isSome → (η j).isSome → μ i = some b → μ j = some b → i = j

def scrubB (S : List Nat) : Blk → Blk
  | .sl e c => .sl e c
  | .box e l => .box e (scrubL S l)
  | .nest e L vis rem => .nest e L vis (fun i => rem i || (S.contains i && (Nat.ble bigN i || vis.contains i)))
def hpS (S : List Nat) (ch η : Hp) : Hp := fun i =>
  match ch i with
  | some B => some B
  | none => if S.contains i then none else (η i).map (scrubB S)

theorem scrub_nil (v : AV) : scrub [] v = v := scrub_id v (by simp)
theorem scrubB_nil (B : Blk) : scrubB [] B = B := by
  cases B with
  | sl e c => rfl
  | box e l => simp only [scrubB]; rw [scrub_idL l (by simp)]
  | nest e L vis rem => simp [scrubB]
theorem hpS_nil (η : Hp) : hpS [] (fun _ => none) η = η := by
  funext i; simp only [hpS, List.contains_nil]; cases η i <;> simp [scrubB_nil]

theorem scrubB_ids (S : List Nat) (B : Blk) : (scrubB S B).ids = B.ids := by
  cases B with
  | sl e c => rfl
  | box e l => simp only [scrubB, Blk.ids]; exact scrub_idsL S l
  | nest e L vis rem => rfl
theorem scrubB_id {S : List Nat} {B : Blk} (h : ∀ i ∈ B.ids, i ∉ S) (hs : ∀ i ∈ S, i < bigN) : scrubB S B = B := by
  cases B with
  | sl e c => rfl
  | box e l => simp only [scrubB]; rw [scrub_idL l h]
  | nest e L vis rem =>
    simp only [scrubB, Blk.nest.injEq, true_and]
    funext i
    cases hc : S.contains i with
    | false => simp
    | true =>
      have hm : i ∈ S := by simpa using hc
      have h1 := hs i hm
      have h2 : vis.contains i = false := by
        cases hv : vis.contains i with
        | false => rfl
        | true => exact absurd hm (h i (by simpa [Blk.ids] using hv))
      have h3 : Nat.ble bigN i = false := by
        cases hb : Nat.ble bigN i with
        | false => rfl
        | true => have := Nat.le_of_ble_eq_true hb; omega
      rw [h2, h3]; simp
theorem scrubB_comm (S U : List Nat) (B : Blk) : scrubB S (scrubB U B) = scrubB U (scrubB S B) := by
  cases B with
  | sl e c => rfl
  | box e l => simp only [scrubB]; rw [scrub_commL]
  | nest e L vis rem =>
    simp only [scrubB, Blk.nest.injEq, true_and]
    funext i
    cases rem i <;> cases S.contains i <;> cases U.contains i <;> simp

/-! ### the frame -/

structure StR (vs : Env) (N : Nat) (w0 : World) (μ : Nat → Option Nat) (ρ : Fr) (η : Hp) (a : Act) (w : World) : Prop where
  hc : HC vs w0 μ η w
  size : a.tmps.size = N
  defers : a.defers = []
  slots : ∀ n, VR vs w μ (okOf μ η) (ρ n) (a.tmps.getD n undef)

def updF (ρ : Fr) (d : Option Nat) (v : AV) : Fr := match d with
  | some d => fun n => if n = d then v else ρ n
  | none => ρ

def stepF (S : List Nat) (d : Option Nat) (v : AV) (ρ : Fr) : Fr := updF (fun n => scrub S (ρ n)) d v
def okConst (k : FloatKind) (b : Nat) : Bool := !isNan k b && Nat.blt b (2 ^ k.format.width)
/-- an operand's symbolic value -/
def evA (ρ : Fr) : Operand → AV
  | .tmp t => ρ t
  | .const (.float k b) => bif okConst k b then .t (.f k b) else .junk
  | .const v => .t (.v v)
  | .global _ => .junk
  | .func f => .fn f []

theorem nest_mono {vs : Env} {w w' : World} {μ μ' : Nat → Option Nat} {ok ok' : Nat → Prop} {gone : Nat → Prop} {L : List AV} {h h' : Nat → Bool} {cs : Array Value} (hk : Keeps w w' μ μ' ok ok' gone) (hh : ∀ i, h i = true → h' i = true)
    (hg : ∀ i, (∃ (k : Nat) (v : AV), L[k]? = some v ∧ i ∈ v.ids) → gone i → h' i = true) (hr : ∀ (v : AV), ∀ i ∈ v.refs, i ∈ v.ids)
    (H : ∀ (k : Nat) (v : AV), L[k]? = some v → ∃ x, cs[k]? = some x ∧ ((∃ j ∈ v.ids, h j = true) ∨ VR vs w μ ok v x)) :
    ∀ (k : Nat) (v : AV), L[k]? = some v → ∃ x, cs[k]? = some x ∧ ((∃ j ∈ v.ids, h' j = true) ∨ VR vs w' μ' ok' v x) := fun k v hv => by
  obtain ⟨x, hx, hc⟩ := H k v hv
  refine ⟨x, hx, ?_⟩
  rcases hc with ⟨j, hj, hs⟩ | hc
  · exact .inl ⟨j, hj, hh j hs⟩
  · by_cases hex : ∃ i ∈ v.ids, gone i
    · obtain ⟨i, hi, hgi⟩ := hex
      exact .inl ⟨i, hi, hg i ⟨k, v, hv, hi⟩ hgi⟩
    · exact .inr (VR.mono hk v x (fun i hi hgi => hex ⟨i, hr v i hi, hgi⟩) hc)
theorem refs_idsN : ∀ (v : AV), ∀ i ∈ v.refs, i ∈ v.ids
  | .own _ _ _ => by simp [AV.refs, AV.ids]
  | .argo _ _ _ _ => by simp [AV.refs, AV.ids]
  | .bp _ _ | .bpa _ _ => by simp [AV.refs, AV.ids]
  | .agg l => by simp only [AV.refs, AV.ids]; exact go l
  | .tup l => by simp only [AV.refs, AV.ids]; exact go l
  | .fn _ l => by simp only [AV.refs, AV.ids]; exact go l
  | .t _ | .old _ | .arg _ _ | .argc _ _ _ | .emp | .junk => by simp [AV.refs]
  | .dead _ => by simp [AV.refs]
where
  go : ∀ (l : List AV), ∀ i ∈ refsL l, i ∈ idsL l
  | [], i, hi => by simp [refsL] at hi
  | v :: r, i, hi => by
    simp only [refsL, idsL, List.mem_append] at hi ⊢
    rcases hi with hi | hi
    · exact .inl (refs_idsN v i hi)
    · exact .inr (go r i hi)
theorem evA_VR {vs : Env} {N : Nat} {w0 : World} {μ : Nat → Option Nat} {ρ : Fr} {η : Hp} {a : Act} {w : World} (h : StR vs N w0 μ ρ η a w) (x : Operand) : VR vs w μ (okOf μ η) (evA ρ x) (a.eval x) := by
  cases x with
  | tmp t => exact h.slots t
  | const v =>
    cases v with
    | float k b =>
      simp only [evA]
      cases hb : okConst k b with
      | false => simp only [cond_false]; rw [VR]; trivial
      | true =>
        simp only [cond_true, Act.eval]
        rw [VR, TR]
        simp only [okConst, Bool.and_eq_true, Bool.not_eq_true'] at hb
        exact ⟨b, rfl, by simp [canon, hb.1], by simpa using hb.2⟩
    | _ => simp only [evA, Act.eval]; rw [VR, TR]
  | global g => simp only [evA]; rw [VR]; trivial
  | func f => simp only [evA, Act.eval]; rw [VR]; exact ⟨#[], rfl, by rw [VRl]⟩

/-! ### one operation -/

/-- In whatever state whose heap is as 'η' at the ids 'F' and whose operands are as 'ρ' says: operation 'o' yields 'v', changes the heap by 'ch' and scrubs the ids 'S'. -/
def QRun (P : Program) (o : Oper) (F S : List Nat) (ρ : Fr) (η : Hp) (v : AV) (ch : Hp) : Prop :=
  ∀ (vs : Env) (w0 : World) (μ : Nat → Option Nat) (η' : Hp) (a : Act) (w : World) (Q : Exit → Act → World → Prop) (K : Act → World → Prop),
    (∀ i ∈ F, η' i = η i) → HC vs w0 μ η' w → (∀ x ∈ o.op.operands, VR vs w μ (okOf μ η') (evA ρ x) (a.eval x)) →
    (∀ y μ' w', HC vs w0 μ' (hpS S ch η') w' → Keeps w w' μ μ' (okOf μ η') (okOf μ' (hpS S ch η')) (· ∈ S) → VR vs w' μ' (okOf μ' (hpS S ch η')) v y → K (a.put o.dst y) w') →
    o.wp P a w K Q

/-- is the operation carried out? -/
def guardA (ops : Array Oper) (ρ : Fr) (o : Oper) : Option Bool :=
  match o.guard with
  | none => some true
  | some (j, want) =>
    match (ops[j]?).bind (·.dst) with
    | none => none
    | some t => match ρ t with
      | .t (.v (.bool b)) => some (b == want)
      | .t (.v (.tuple _)) => some false
      | _ => none

theorem guard_wanted {vs : Env} {N : Nat} {w0 : World} {μ : Nat → Option Nat} {ρ : Fr} {η : Hp} {a : Act} {w : World} {ops : Array Oper} {o : Oper} {b : Bool}
    (h : StR vs N w0 μ ρ η a w) (hg : guardA ops ρ o = some b) : Region.wanted o (yielded ops a.tmps) = b := by
  unfold guardA at hg
  unfold Region.wanted
  cases hgu : o.guard with
  | none => simp [hgu] at hg; simp [hg]
  | some jw =>
    obtain ⟨j, want⟩ := jw
    simp only [hgu] at hg
    unfold yielded
    cases hj : (ops[j]?).bind (·.dst) with
    | none => simp [hj] at hg
    | some t =>
      simp only [hj] at hg
      have hs := h.slots t
      cases hr : ρ t with
      | t u =>
        rw [hr] at hg hs
        cases u with
        | v x =>
          cases x with
          | bool c =>
            simp only [Option.some.injEq] at hg
            rw [VR, TR] at hs
            rw [Array.getD_eq_getD_getElem?] at hs
            cases ht : a.tmps[t]? with
            | none => rw [ht] at hs; simp [undef] at hs
            | some z =>
              rw [ht] at hs
              simp only [Option.getD_some] at hs
              subst hs
              simp only [hj, Option.bind_some, ht]
              cases c <;> cases want <;> simp_all
          | tuple c =>
            simp only [Option.some.injEq] at hg
            rw [VR, TR] at hs
            rw [Array.getD_eq_getD_getElem?] at hs
            simp only [hj, Option.bind_some]
            cases ht : a.tmps[t]? with
            | none => cases want <;> simp_all
            | some z =>
              rw [ht] at hs
              simp only [Option.getD_some] at hs
              subst hs
              cases want <;> simp_all
          | _ => simp at hg
        | _ => simp at hg
      | _ => rw [hr] at hg; simp at hg

/-! ### the operations of a region, in the order of the text -/

def lkH : List (Nat × Blk) → Hp
  | [], _ => none
  | (i, B) :: r, j => bif Nat.beq j i then some B else lkH r j

def dstB (N : Nat) : Option Nat → Bool
  | none => true
  | some d => Nat.blt d N
def subB (l F : List Nat) : Bool := l.all fun i => F.contains i
/-- the name of an id as it is told from one value to another (as against the block that it stands for) -/
def kk (i : Nat) : Nat := i + 1000000
/-- 'F' holds every id whose block the operation reads or changes and the names of all that it tells, 'C' every id whose block it changes and the names of those that it makes anew -/
def footB (F C S : List Nat) (xs : List AV) (η : Hp) (v : AV) (ch : List (Nat × Blk)) : Bool :=
  xs.all (fun x => subB (x.ids.map kk) F) && subB (v.ids.map kk) F && ch.all (fun p => C.contains p.1 && subB (p.2.ids.map kk) F) && subB C F && S.all (fun i => C.contains i && C.contains (kk i) && Nat.blt i bigN) &&
    F.all fun i => match η i with | some B => subB (B.ids.map kk) F | none => true

def Yld (P : Program) (N : Nat) (ops : Array Oper) (dr : Bool) (F C S : List Nat) (o : Oper) (v : AV) (ch : List (Nat × Blk)) (ρ : Fr) (η : Hp) : Prop :=
  dstB N o.dst = true ∧
  ((guardA ops ρ o = some true ∧ QRun P o F S ρ η v (lkH ch) ∧ (!dr || footB F C S (o.op.operands.toList.map (evA ρ)) η v ch) = true) ∨
   (guardA ops ρ o = some false ∧ (v = .junk ∨ v = .t (.v undef)) ∧ ch = [] ∧ S = []))

def Lex (P : Program) (N : Nat) (ops : Array Oper) (dr : Bool) (K : Fr → Hp → Prop) : List (List Nat × List Nat) → List Oper → Fr → Hp → Prop
  | tab, [], ρ, η => tab = [] ∧ K ρ η
  | tab, o :: l, ρ, η => ∃ F C S v ch tab', tab = (F, C) :: tab' ∧ Yld P N ops dr F C S o v ch ρ η ∧ Lex P N ops dr K tab' l (stepF S o.dst v ρ) (hpS S (lkH ch) η)

theorem put_getD {a : Act} {N : Nat} (hs : a.tmps.size = N) {d : Option Nat} (hd : dstB N d = true) (y : Value) (n : Nat) :
    (a.put d y).tmps.getD n undef = match d with | some d => if n = d then y else a.tmps.getD n undef | none => a.tmps.getD n undef := by
  cases d with
  | none => rfl
  | some d =>
    have hlt : d < a.tmps.size := by simpa [dstB, hs] using hd
    simp only [Act.put, Array.getD_eq_getD_getElem?]
    by_cases h : n = d
    · subst h; simp [hlt]
    · rw [Array.getElem?_setIfInBounds_ne (Ne.symm h)]; simp [h]

theorem StR.step {vs : Env} {N : Nat} {w0 : World} {μ μ' : Nat → Option Nat} {ρ : Fr} {η η' : Hp} {a : Act} {w w' : World} {S : List Nat} {d : Option Nat} {v : AV} {y : Value}
    (h : StR vs N w0 μ ρ η a w) (hd : dstB N d = true) (hc : HC vs w0 μ' η' w') (hk : Keeps w w' μ μ' (okOf μ η) (okOf μ' η') (· ∈ S)) (hv : VR vs w' μ' (okOf μ' η') v y) :
    StR vs N w0 μ' (stepF S d v ρ) η' (a.put d y) w' := by
  refine ⟨hc, ?_, ?_, fun n => ?_⟩
  · cases d <;> simp [Act.put, h.size]
  · cases d <;> simp [Act.put, h.defers]
  · rw [put_getD h.size hd]
    have old : ∀ n, VR vs w' μ' (okOf μ' η') (scrub S (ρ n)) (a.tmps.getD n undef) := fun n => VR.mono hk _ _ (scrub_refs S _) (VR.scrub _ _ (h.slots n))
    cases d with
    | none => exact old n
    | some d =>
      simp only [stepF, updF]
      split
      · exact hv
      · exact old n

/-- one operation of the concrete machine -/
theorem wpOp_of_yld {P : Program} {vs : Env} {N : Nat} {w0 : World} {ops : Array Oper} {dr : Bool} {F C S : List Nat} {i : Nat} {o : Oper} {v : AV} {ch : List (Nat × Blk)} {ρ : Fr} {η : Hp}
    (hi : ops[i]? = some o) (hy : Yld P N ops dr F C S o v ch ρ η) {μ : Nat → Option Nat} {a : Act} {w : World} (h : StR vs N w0 μ ρ η a w) {Q : Exit → Act → World → Prop} {K : Act → World → Prop}
    (hK : ∀ μ' a' w', StR vs N w0 μ' (stepF S o.dst v ρ) (hpS S (lkH ch) η) a' w' → K a' w') : wpOp P ops Q i K a w := by
  unfold wpOp
  simp only [hi]
  obtain ⟨hd, ⟨hg, hq, _⟩ | ⟨hg, hv, rfl, rfl⟩⟩ := hy
  · rw [guard_wanted h hg, if_pos rfl]
    exact .inl (hq vs w0 μ η a w Q K (fun _ _ => rfl) h.hc (fun x _ => evA_VR h x) fun y μ' w' hc hk hv => hK _ _ _ (h.step hd hc hk hv))
  · rw [guard_wanted h hg, if_neg (by simp)]
    refine hK μ _ _ ?_
    have e : hpS [] (lkH []) η = η := hpS_nil η
    rw [e]
    refine h.step hd h.hc ⟨fun b hb hk => ⟨hb, hk, rfl⟩, fun _ _ => rfl, fun _ _ _ _ _ hs => hs⟩ (by rcases hv with rfl | rfl <;> rw [VR] <;> first | trivial | (rw [TR]))

theorem wpOps_of_lex {P : Program} {vs : Env} {N : Nat} {w0 : World} {ops : Array Oper} {dr : Bool} {K : Fr → Hp → Prop} {Q : Exit → Act → World → Prop} :
    ∀ (l : List Oper) (tab : List (List Nat × List Nat)) (k : Nat) (ρ : Fr) (η : Hp) (μ : Nat → Option Nat) (a : Act) (w : World), (∀ j, l[j]? = ops[k + j]?) → Lex P N ops dr K tab l ρ η → StR vs N w0 μ ρ η a w →
      (∀ ρ η μ a w, K ρ η → StR vs N w0 μ ρ η a w → Q .normal a w) → wpOps P ops Q ((List.range l.length).map (k + ·)) a w
  | [], _, _, _, _, _, _, _, _, h, hs, hQ => by
    simp only [List.length_nil, List.range_zero, List.map_nil, wpOps]
    exact hQ _ _ _ _ _ h.2 hs
  | o :: l, tab, k, ρ, η, μ, a, w, hl, h, hs, hQ => by
    obtain ⟨F, C, S, v, ch, tab', rfl, hy, hr⟩ := h
    have h0 : ops[k]? = some o := by simpa using (hl 0).symm
    rw [List.length_cons, List.range_succ_eq_map, List.map_cons, List.map_map, wpOps_cons]
    refine wpOp_of_yld h0 hy hs fun μ' a' w' hs' => ?_
    have := wpOps_of_lex l tab' (k + 1) _ _ μ' a' w' (fun j => by have := hl (j + 1); simpa [Nat.add_assoc, Nat.add_comm 1 j] using this) hr hs' hQ
    have e : ((fun x => k + x) ∘ Nat.succ) = (fun x => k + 1 + x) := by funext x; simp only [Function.comp]; omega
    rw [e]
    exact this

end Go.Aw

set_option linter.unusedVariables false
namespace Go.Aw
open Go.RowKit (Below)

theorem subB_mem {l F : List Nat} (h : subB l F = true) : ∀ i ∈ l, i ∈ F := by
  simpa [subB] using h

structure Foot (F C S : List Nat) (xs : List AV) (η : Hp) (v : AV) (ch : List (Nat × Blk)) : Prop where
  ops : ∀ x ∈ xs, ∀ i ∈ x.ids, kk i ∈ F
  val : ∀ i ∈ v.ids, kk i ∈ F
  chg : ∀ p ∈ ch, p.1 ∈ C ∧ ∀ i ∈ p.2.ids, kk i ∈ F
  cf : ∀ i ∈ C, i ∈ F
  sc : ∀ i ∈ S, i ∈ C ∧ kk i ∈ C
  sm : ∀ i ∈ S, i < bigN
  cl : ∀ i ∈ F, ∀ B, η i = some B → ∀ j ∈ B.ids, kk j ∈ F

theorem subK_mem {l F : List Nat} (h : subB (l.map kk) F = true) : ∀ i ∈ l, kk i ∈ F := fun i hi => subB_mem h (kk i) (List.mem_map.2 ⟨i, hi, rfl⟩)
theorem foot_of {F C S : List Nat} {xs : List AV} {η : Hp} {v : AV} {ch : List (Nat × Blk)} (h : footB F C S xs η v ch = true) : Foot F C S xs η v ch := by
  simp only [footB, Bool.and_eq_true, List.all_eq_true] at h
  obtain ⟨⟨⟨⟨⟨h1, h2⟩, h3⟩, h4⟩, h5⟩, h6⟩ := h
  refine ⟨fun x hx => subK_mem (h1 x hx), subK_mem h2, fun p hp => ?_, subB_mem h4, fun i hi => ?_, fun i hi => ?_, fun i hi B hB => ?_⟩
  · have := h3 p hp; exact ⟨by simpa using this.1, subK_mem this.2⟩
  · have := h5 i hi; exact ⟨by simpa using this.1.1, by simpa using this.1.2⟩
  · have := (h5 i hi).2; exact Nat.le_of_ble_eq_true this
  · have := h6 i hi; rw [hB] at this; exact subK_mem this

theorem lkH_mem {ch : List (Nat × Blk)} {i : Nat} {B : Blk} (h : lkH ch i = some B) : (i, B) ∈ ch := by
  induction ch with
  | nil => simp [lkH] at h
  | cons p r ih =>
    obtain ⟨j, B'⟩ := p
    simp only [lkH] at h
    cases hb : Nat.beq i j with
    | true => simp only [hb, cond_true, Option.some.injEq] at h; subst h; rw [Nat.eq_of_beq_eq_true hb]; exact List.mem_cons_self
    | false => simp only [hb, cond_false] at h; exact List.mem_cons_of_mem _ (ih h)

theorem Foot.lk {F C S : List Nat} {xs : List AV} {η : Hp} {v : AV} {ch : List (Nat × Blk)} (h : Foot F C S xs η v ch) {i : Nat} (hi : i ∉ C) : lkH ch i = none := by
  cases hl : lkH ch i with
  | none => rfl
  | some B => exact absurd (h.chg _ (lkH_mem hl)).1 hi

def Dis (C F : List Nat) : Prop := ∀ i ∈ C, i ∉ F

theorem scrub_eq_t {S : List Nat} {v : AV} {u : T} (h : scrub S v = .t u) : v = .t u := by
  cases v with
  | own i o n => simp only [scrub] at h; cases hc : S.contains i <;> simp only [hc, cond_true, cond_false, reduceCtorEq] at h
  | argo k i o n => simp only [scrub] at h; cases hc : S.contains i <;> simp only [hc, cond_true, cond_false, reduceCtorEq] at h
  | bpa o i => simp only [scrub] at h; cases hc : S.contains i <;> simp only [hc, cond_true, cond_false, reduceCtorEq] at h
  | bp i o => simp only [scrub] at h; cases hc : S.contains i <;> simp only [hc, cond_true, cond_false, reduceCtorEq] at h
  | t _ => simpa only [scrub] using h
  | old _ => simp [scrub] at h
  | _ => simp [scrub] at h

section
variable {P : Program} {N : Nat} {ops : Array Oper} {md : Region.Mode} {T : Nat → List Nat × List Nat}

def Y (P : Program) (N : Nat) (ops : Array Oper) (T : Nat → List Nat × List Nat) (i : Nat) (o : Oper) (S : List Nat) (v : AV) (ch : List (Nat × Blk)) (ρ : Fr) (η : Hp) : Prop :=
  Yld P N ops true (T i).1 (T i).2 S o v ch ρ η

def qA (P : Program) (N : Nat) (ops : Array Oper) (T : Nat → List Nat × List Nat) (i : Nat) (K : Fr → Hp → Prop) (ρ : Fr) (η : Hp) : Prop :=
  match ops[i]? with
  | none => K ρ η
  | some o => ∃ S v ch, Y P N ops T i o S v ch ρ η ∧ K (stepF S o.dst v ρ) (hpS S (lkH ch) η)

def anyA (P : Program) (N : Nat) (md : Region.Mode) (ops : Array Oper) (T : Nat → List Nat × List Nat) (K : Fr → Hp → Prop) : Nat → Array Bool → Fr → Hp → Prop
  | 0, listed, ρ, η => Region.ready md ops listed = [] ∧ K ρ η
  | fuel + 1, listed, ρ, η => (Region.ready md ops listed = [] → K ρ η) ∧ ∀ i ∈ Region.ready md ops listed, qA P N ops T i (anyA P N md ops T K fuel (listed.setIfInBounds i true)) ρ η

theorem qA_mono {i : Nat} {K K' : Fr → Hp → Prop} (h : ∀ ρ η, K ρ η → K' ρ η) {ρ : Fr} {η : Hp} (hh : qA P N ops T i K ρ η) : qA P N ops T i K' ρ η := by
  unfold qA at *
  split
  · rename_i ho; simp only [ho] at hh; exact h _ _ hh
  · rename_i o ho
    simp only [ho] at hh
    obtain ⟨S, v, ch, h1, h2⟩ := hh
    exact ⟨S, v, ch, h1, h _ _ h2⟩

theorem wpAny_of_anyA {vs : Env} {w0 : World} {K : Fr → Hp → Prop} {Q : Exit → Act → World → Prop} (hQ : ∀ ρ η μ a w, K ρ η → StR vs N w0 μ ρ η a w → Q .normal a w) :
    ∀ (fuel : Nat) (listed : Array Bool) (ρ : Fr) (η : Hp) (μ : Nat → Option Nat) (a : Act) (w : World), StR vs N w0 μ ρ η a w → anyA P N md ops T K fuel listed ρ η → wpAny P md ops Q fuel listed a w
  | 0, _, _, _, _, _, _, hs, h => ⟨h.1, hQ _ _ _ _ _ h.2 hs⟩
  | fuel + 1, listed, ρ, η, μ, a, w, hs, h => by
    refine ⟨fun h0 => hQ _ _ _ _ _ (h.1 h0) hs, fun i hi => ?_⟩
    have h1 := h.2 i hi
    obtain ⟨_, o, ho, _⟩ := mem_ready.1 hi
    unfold qA at h1
    simp only [ho] at h1
    obtain ⟨S, v, ch, hy, hK⟩ := h1
    exact wpOp_of_yld ho hy hs fun μ' a' w' hs' => wpAny_of_anyA hQ fuel _ _ _ μ' a' w' hs' hK

/-- an operand that another operation neither writes nor scrubs -/
theorem evA_step {S : List Nat} {ρ : Fr} {d : Option Nat} {v : AV} {x : Operand} (hx : ∀ t, d = some t → x ≠ .tmp t) (hi : ∀ i ∈ (evA ρ x).ids, i ∉ S) : evA (stepF S d v ρ) x = evA ρ x := by
  cases x with
  | tmp t =>
    simp only [evA] at hi ⊢
    have e : scrub S (ρ t) = ρ t := scrub_id _ fun i hm hs => hi i hm hs
    cases d with
    | none => exact e
    | some d =>
      have : t ≠ d := fun h => hx d rfl (by rw [h])
      simp only [stepF, updF, if_neg this]; exact e
  | const v => cases v <;> rfl
  | _ => rfl

theorem QRun_congr {o : Oper} {F S : List Nat} {ρ ρ' : Fr} {η η' : Hp} {v : AV} {ch : Hp} (h : QRun P o F S ρ η v ch) (hρ : ∀ x ∈ o.op.operands, evA ρ' x = evA ρ x) (hη : ∀ i ∈ F, η' i = η i) : QRun P o F S ρ' η' v ch := by
  intro vs w0 μ ηc a w Q K h1 h2 h3 h4
  exact h vs w0 μ ηc a w Q K (fun i hi => (h1 i hi).trans (hη i hi)) h2 (fun x hx => by rw [← hρ x hx]; exact h3 x hx) h4

theorem hpS_off {S : List Nat} {ch : List (Nat × Blk)} {η : Hp} {i : Nat} (h1 : lkH ch i = none) (h2 : i ∉ S) : hpS S (lkH ch) η i = (η i).map (scrubB S) := by
  simp [hpS, h1, h2]

theorem guardA_step {S : List Nat} {ρ : Fr} {oi : Oper} {d : Option Nat} {v : AV} (h : ∀ t, d = some t → t ∉ oi.looksAt ops) {b : Bool} (hg : guardA ops ρ oi = some b) : guardA ops (stepF S d v ρ) oi = some b := by
  unfold guardA at *
  cases hgu : oi.guard with
  | none => simpa [hgu] using hg
  | some jw =>
    obtain ⟨j, want⟩ := jw
    simp only [hgu] at hg ⊢
    cases hj : (ops[j]?).bind (·.dst) with
    | none => simp [hj] at hg
    | some t =>
      simp only [hj] at hg ⊢
      have ht : ∀ u, d = some u → t ≠ u := fun u hu e => h u hu (by subst e; simp [Oper.looksAt, hgu, hj])
      have e : stepF S d v ρ t = scrub S (ρ t) := by
        cases d with
        | none => rfl
        | some u => simp only [stepF, updF, if_neg (ht u rfl)]
      rw [e]
      cases hr : ρ t with
      | t u =>
        rw [hr] at hg
        have : scrub S (AV.t u) = .t u := by simp [scrub]
        rw [this]; exact hg
      | _ => rw [hr] at hg; simp at hg

/-- an operation's result stays what it is behind an operation apart from it -/
theorem Y_step {i j : Nat} {oi oj : Oper} {Si Sj : List Nat} {vi vj : AV} {ci cj : List (Nat × Blk)} {ρ : Fr} {η : Hp}
    (hap : ∀ t, oj.dst = some t → t ∉ oi.looksAt ops) (hd : Dis (T j).2 (T i).1)
    (hj : Y P N ops T j oj Sj vj cj ρ η) (h : Y P N ops T i oi Si vi ci ρ η) : Y P N ops T i oi Si vi ci (stepF Sj oj.dst vj ρ) (hpS Sj (lkH cj) η) := by
  obtain ⟨hdst, h⟩ := h
  refine ⟨hdst, ?_⟩
  rcases h with ⟨hg, hq, hf⟩ | ⟨hg, hr⟩
  · refine .inl ⟨guardA_step hap hg, ?_⟩
    have hF := foot_of (by simpa using hf)
    -- what 'oj' changes
    have hSj : (∀ k ∈ Sj, k ∈ (T j).2 ∧ kk k ∈ (T j).2) ∧ (∀ k, k ∉ (T j).2 → lkH cj k = none) ∧ ∀ k ∈ Sj, k < bigN := by
      rcases hj.2 with ⟨_, _, hfj⟩ | ⟨_, _, rfl, rfl⟩
      · have hFj := foot_of (by simpa using hfj)
        exact ⟨fun k hk => hFj.sc k hk, fun k hk => hFj.lk hk, hFj.sm⟩
      · exact ⟨fun k hk => by simp at hk, fun k _ => rfl, fun k hk => by simp at hk⟩
    have hop : ∀ x ∈ oi.op.operands, evA (stepF Sj oj.dst vj ρ) x = evA ρ x := fun x hx =>
      evA_step (fun t ht e => hap t ht (by
        subst e
        exact List.mem_append_left _ (List.mem_filterMap.2 ⟨.tmp t, by simpa using hx, rfl⟩))) (fun k hk hs => hd (kk k) (hSj.1 k hs).2 (hF.ops _ (List.mem_map.2 ⟨x, by simpa using hx, rfl⟩) k hk))
    have hη : ∀ k ∈ (T i).1, hpS Sj (lkH cj) η k = η k := fun k hk => by
      have hkC : k ∉ (T j).2 := fun hc => hd k hc hk
      have hkS : k ∉ Sj := fun hs => hkC (hSj.1 k hs).1
      rw [hpS_off (hSj.2.1 k hkC) hkS]
      cases hB : η k with
      | none => rfl
      | some B => simp only [Option.map_some]; rw [scrubB_id (fun m hm hs => hd (kk m) (hSj.1 m hs).2 (hF.cl k hk B hB m hm)) hSj.2.2]
    refine ⟨QRun_congr hq hop hη, ?_⟩
    have e1 : oi.op.operands.toList.map (evA (stepF Sj oj.dst vj ρ)) = oi.op.operands.toList.map (evA ρ) := List.map_congr_left fun x hx => hop x (by simpa using hx)
    rw [e1]
    simp only [Bool.not_true, Bool.false_or] at hf ⊢
    simp only [footB, Bool.and_eq_true] at hf ⊢
    refine ⟨hf.1, ?_⟩
    have h6 := hf.2
    simp only [List.all_eq_true] at h6 ⊢
    exact fun k hk => by rw [hη k hk]; exact h6 k hk
  · exact .inr ⟨guardA_step hap hg, hr⟩

theorem Y_facts {i : Nat} {o : Oper} {S : List Nat} {v : AV} {ch : List (Nat × Blk)} {ρ : Fr} {η : Hp} (h : Y P N ops T i o S v ch ρ η) :
    (∀ k ∈ v.ids, kk k ∈ (T i).1) ∧ (∀ k ∈ S, k ∈ (T i).2 ∧ kk k ∈ (T i).2) ∧ (∀ k, k ∉ (T i).2 → lkH ch k = none) ∧ (∀ k B, lkH ch k = some B → ∀ m ∈ B.ids, kk m ∈ (T i).1) ∧ ∀ k ∈ S, k < bigN := by
  rcases h.2 with ⟨_, _, hf⟩ | ⟨_, rfl | rfl, rfl, rfl⟩
  · have hF := foot_of (by simpa using hf)
    exact ⟨hF.val, hF.sc, fun k hk => hF.lk hk, fun k B hB m hm => (hF.chg _ (lkH_mem hB)).2 m hm, hF.sm⟩
  · exact ⟨by simp [AV.ids], by simp, fun _ _ => rfl, fun k B hB => by simp [lkH] at hB, by simp⟩
  · exact ⟨by simp [AV.ids], by simp, fun _ _ => rfl, fun k B hB => by simp [lkH] at hB, by simp⟩

theorem step_comm {i j : Nat} {oi oj : Oper} {Si Sj : List Nat} {vi vj : AV} {ci cj : List (Nat × Blk)} {ρ ρ' : Fr} {η η' : Hp}
    (hne : ∀ t, oi.dst = some t → oj.dst ≠ some t) (h1 : Dis (T i).2 (T j).1) (h2 : Dis (T j).2 (T i).1)
    (hcf : (∀ k ∈ (T j).2, k ∈ (T j).1))
    (hi : Y P N ops T i oi Si vi ci ρ η) (hj : Y P N ops T j oj Sj vj cj ρ' η') :
    stepF Sj oj.dst vj (stepF Si oi.dst vi ρ) = stepF Si oi.dst vi (stepF Sj oj.dst vj ρ) ∧
    hpS Sj (lkH cj) (hpS Si (lkH ci) η) = hpS Si (lkH ci) (hpS Sj (lkH cj) η) := by
  obtain ⟨a1, a2, a3, a4, a5⟩ := Y_facts hi
  obtain ⟨b1, b2, b3, b4, b5⟩ := Y_facts hj
  have evi : scrub Sj vi = vi := scrub_id _ fun k hk hs => h2 (kk k) (b2 k hs).2 (a1 k hk)
  have evj : scrub Si vj = vj := scrub_id _ fun k hk hs => h1 (kk k) (a2 k hs).2 (b1 k hk)
  constructor
  · funext n
    cases hdi : oi.dst with
    | none =>
      cases hdj : oj.dst with
      | none => simp only [stepF, updF, scrub_comm]
      | some e =>
        simp only [stepF, updF]
        split
        · exact evj.symm
        · exact scrub_comm ..
    | some d =>
      cases hdj : oj.dst with
      | none =>
        simp only [stepF, updF]
        split
        · exact evi
        · exact scrub_comm ..
      | some e =>
        have hde : e ≠ d := fun h => hne d hdi (by rw [hdj, h])
        simp only [stepF, updF]
        by_cases hn : n = e
        · subst hn; simp [hde, evj]
        · by_cases hn' : n = d
          · subst hn'; simp [hn, evi]
          · simp only [hn, hn', if_false]; exact scrub_comm ..
  · funext k
    unfold hpS
    cases hci : lkH ci k with
    | some B =>
      have hkC : k ∈ (T i).2 := Classical.byContradiction fun h => by rw [a3 k h] at hci; cases hci
      have hkF : k ∉ (T j).1 := h1 k hkC
      have hkCj : k ∉ (T j).2 := fun h => hkF (hcf k h)
      have hkS : k ∉ Sj := fun h => hkCj (b2 k h).1
      simp only [b3 k hkCj]
      simp only [List.contains_eq_mem, hkS, decide_false, Bool.false_eq_true, if_false, Option.map_some, Option.some.injEq]
      exact scrubB_id (fun m hm hs => h2 (kk m) (b2 m hs).2 (a4 k B hci m hm)) b5
    | none =>
      cases hcj : lkH cj k with
      | some B =>
        have hkC : k ∈ (T j).2 := Classical.byContradiction fun h => by rw [b3 k h] at hcj; cases hcj
        have hkS : k ∉ Si := fun h => h1 k (a2 k h).1 (hcf k hkC)
        simp only [List.contains_eq_mem, hkS, decide_false, Bool.false_eq_true, if_false, Option.map_some, Option.some.injEq]
        exact (scrubB_id (fun m hm hs => h1 (kk m) (a2 m hs).2 (b4 k B hcj m hm)) a5).symm
      | none =>
        simp only []
        cases hs1 : Si.contains k <;> cases hs2 : Sj.contains k <;> simp [Option.map_map]
        cases η k with
        | none => rfl
        | some B => simp [scrubB_comm]

theorem Y_qA {i : Nat} {o : Oper} {S : List Nat} {v : AV} {ch : List (Nat × Blk)} {ρ : Fr} {η : Hp} {K : Fr → Hp → Prop} (hi : ops[i]? = some o) (hy : Y P N ops T i o S v ch ρ η)
    (h : K (stepF S o.dst v ρ) (hpS S (lkH ch) η)) : qA P N ops T i K ρ η := by
  unfold qA; simp only [hi]; exact ⟨S, v, ch, hy, h⟩

/-- two operations apart, the heap too -/
def Apart (ops : Array Oper) (T : Nat → List Nat × List Nat) (i j : Nat) (oi oj : Oper) : Prop :=
  oi.apart ops oj = true ∧ Dis (T i).2 (T j).1 ∧ Dis (T j).2 (T i).1 ∧ ∀ k ∈ (T j).2, k ∈ (T j).1

theorem qA_put {i j : Nat} {oi oj : Oper} {S : List Nat} {v : AV} {ch : List (Nat × Blk)} (hoi : ops[i]? = some oi) (hoj : ops[j]? = some oj) (hap : Apart ops T i j oi oj) {K : Fr → Hp → Prop} {ρ : Fr} {η : Hp}
    (hiF : ∀ k ∈ (T i).2, k ∈ (T i).1)
    (hy : Y P N ops T i oi S v ch ρ η) (h : qA P N ops T j K (stepF S oi.dst v ρ) (hpS S (lkH ch) η))
    (back : ∀ Sj vj cj, Y P N ops T j oj Sj vj cj (stepF S oi.dst v ρ) (hpS S (lkH ch) η) → Y P N ops T j oj Sj vj cj ρ η) :
    qA P N ops T j (fun ρ' η' => Y P N ops T i oi S v ch ρ' η' ∧ K (stepF S oi.dst v ρ') (hpS S (lkH ch) η')) ρ η := by
  obtain ⟨hap, hd1, hd2, hjF⟩ := hap
  obtain ⟨h1, h2, h3⟩ := Oper.apart_spec hap
  unfold qA at *
  simp only [hoj] at h ⊢
  obtain ⟨Sj, vj, cj, hyj, hK⟩ := h
  have hyj' := back _ _ _ hyj
  refine ⟨Sj, vj, cj, hyj', Y_step h3 hd2 hyj' hy, ?_⟩
  obtain ⟨e1, e2⟩ := step_comm (ρ := ρ) (ρ' := ρ) (η := η) (η' := η) h2 hd1 hd2 hjF hy hyj'
  rw [← e1, ← e2]
  exact hK

theorem guardA_back {S : List Nat} {ρ : Fr} {oi : Oper} {d : Option Nat} {v : AV} (h : ∀ t, d = some t → t ∉ oi.looksAt ops) {b : Bool} (hg : guardA ops (stepF S d v ρ) oi = some b) : guardA ops ρ oi = some b := by
  unfold guardA at *
  cases hgu : oi.guard with
  | none => simpa [hgu] using hg
  | some jw =>
    obtain ⟨j, want⟩ := jw
    simp only [hgu] at hg ⊢
    cases hj : (ops[j]?).bind (·.dst) with
    | none => simp [hj] at hg
    | some t =>
      simp only [hj] at hg ⊢
      have ht : ∀ u, d = some u → t ≠ u := fun u hu e => h u hu (by subst e; simp [Oper.looksAt, hgu, hj])
      have e : stepF S d v ρ t = scrub S (ρ t) := by
        cases d with
        | none => rfl
        | some u => simp only [stepF, updF, if_neg (ht u rfl)]
      rw [e] at hg
      cases hr : scrub S (ρ t) with
      | t u => rw [hr] at hg; rw [scrub_eq_t hr]; exact hg
      | _ => rw [hr] at hg; simp at hg

theorem Y_back {i j : Nat} {oi oj : Oper} {Si Sj : List Nat} {vi vj : AV} {ci cj : List (Nat × Blk)} {ρ : Fr} {η : Hp}
    (hap : ∀ t, oi.dst = some t → t ∉ oj.looksAt ops) (hd : Dis (T i).2 (T j).1)
    (hi : Y P N ops T i oi Si vi ci ρ η) (h : Y P N ops T j oj Sj vj cj (stepF Si oi.dst vi ρ) (hpS Si (lkH ci) η)) : Y P N ops T j oj Sj vj cj ρ η := by
  obtain ⟨a1, a2, a3, a4, a5⟩ := Y_facts hi
  obtain ⟨hdst, h⟩ := h
  refine ⟨hdst, ?_⟩
  rcases h with ⟨hg, hq, hf⟩ | ⟨hg, hr⟩
  · refine .inl ⟨guardA_back hap hg, ?_⟩
    have hF := foot_of (by simpa using hf)
    have hop : ∀ x ∈ oj.op.operands, evA ρ x = evA (stepF Si oi.dst vi ρ) x := fun x hx => by
      have hmem := hF.ops _ (List.mem_map.2 ⟨x, by simpa using hx, rfl⟩)
      cases x with
      | tmp t =>
        have ht : ∀ u, oi.dst = some u → t ≠ u := fun u hu e => hap u hu (by
          subst e
          exact List.mem_append_left _ (List.mem_filterMap.2 ⟨.tmp t, by simpa using hx, rfl⟩))
        have e : stepF Si oi.dst vi ρ t = scrub Si (ρ t) := by
          cases hdi : oi.dst with
          | none => rfl
          | some u => simp only [stepF, updF, if_neg (ht u hdi)]
        simp only [evA] at hmem ⊢
        rw [e] at hmem ⊢
        rw [scrub_ids] at hmem
        exact (scrub_id _ fun k hk hs => hd (kk k) (a2 k hs).2 (hmem k hk)).symm
      | const v => cases v <;> rfl
      | _ => rfl
    have hη : ∀ k ∈ (T j).1, η k = hpS Si (lkH ci) η k := fun k hk => by
      have hkC : k ∉ (T i).2 := fun hc => hd k hc hk
      have hkS : k ∉ Si := fun hs => hkC (a2 k hs).1
      have hcl := hF.cl k hk
      rw [hpS_off (a3 k hkC) hkS] at hcl ⊢
      cases hB : η k with
      | none => rfl
      | some B =>
        simp only [hB, Option.map_some] at hcl ⊢
        rw [scrubB_id ?_ a5]
        intro m hm hs
        have := hcl _ rfl m (by rw [scrubB_ids]; exact hm)
        exact hd (kk m) (a2 m hs).2 this
    refine ⟨QRun_congr hq hop hη, ?_⟩
    have e1 : oj.op.operands.toList.map (evA ρ) = oj.op.operands.toList.map (evA (stepF Si oi.dst vi ρ)) := List.map_congr_left fun x hx => hop x (by simpa using hx)
    rw [e1]
    simp only [Bool.not_true, Bool.false_or] at hf ⊢
    simp only [footB, Bool.and_eq_true] at hf ⊢
    refine ⟨hf.1, ?_⟩
    have h6 := hf.2
    simp only [List.all_eq_true] at h6 ⊢
    exact fun k hk => by rw [hη k hk]; exact h6 k hk
  · exact .inr ⟨guardA_back hap hg, hr⟩

/-- 'j' comes behind 'i' whatever the order that is drawn -/
inductive Dep (md : Region.Mode) (ops : Array Oper) (i : Nat) : Nat → Prop
  | edge {j : Nat} {o : Oper} {e : Edge} (ho : ops[j]? = some o) (he : e ∈ o.after) (hb : Region.binds md e = true) (hi : e.on = i) : Dep md ops i j
  | step {j : Nat} {o : Oper} {e : Edge} (ho : ops[j]? = some o) (he : e ∈ o.after) (hb : Region.binds md e = true) (hd : Dep md ops i e.on) : Dep md ops i j
theorem Dep.back {md : Region.Mode} {ops : Array Oper} {i : Nat} (hE : ∀ m o, m < i → ops[m]? = some o → ∀ e ∈ o.after, Region.binds md e = true → e.on < m) {m : Nat} (h : Dep md ops i m) : ¬ m < i := by
  induction h with
  | edge ho he hb hi => intro hm; have := hE _ _ hm ho _ he hb; omega
  | step ho he hb _ ih => intro hm; have := hE _ _ hm ho _ he hb; exact ih (by omega)

theorem anyA_first {K : Fr → Hp → Prop} {i : Nat} {oi : Oper} {S : List Nat} {v : AV} {ch : List (Nat × Blk)} (hi : ops[i]? = some oi) (hiF : ∀ k ∈ (T i).2, k ∈ (T i).1) :
    ∀ (fuel : Nat) (listed : Array Bool) (ρ : Fr) (η : Hp),
      (∀ j oj, ops[j]? = some oj → j ≠ i → listed.getD j true = false → (∀ e ∈ oj.after, Region.binds md e = true → e.on ≠ i) → ¬ Dep md ops i j → Apart ops T i j oi oj) →
      (∀ m, listed.getD m false = true → ¬ Dep md ops i m) →
      i ∈ Region.ready md ops listed → Y P N ops T i oi S v ch ρ η →
      anyA P N md ops T K fuel (listed.setIfInBounds i true) (stepF S oi.dst v ρ) (hpS S (lkH ch) η) → anyA P N md ops T K (fuel + 1) listed ρ η := by
  intro fuel
  induction fuel with
  | zero =>
    intro listed ρ η _ _ hr hy H
    refine ⟨fun h => (by rw [h] at hr; cases hr), fun j hj => ?_⟩
    by_cases hji : j = i
    · subst hji; exact Y_qA hi hy H
    · have := ready_mono hj hji
      rw [H.1] at this
      cases this
  | succ fuel ih =>
    intro listed ρ η hfree hinv hr hy H
    refine ⟨fun h => (by rw [h] at hr; cases hr), fun j hj => ?_⟩
    by_cases hji : j = i
    · subst hji; exact Y_qA hi hy H
    · have h1 := H.2 j (ready_mono hj hji)
      obtain ⟨hjun, oj, hoj, hall⟩ := mem_ready.1 hj
      have hnot : ∀ e ∈ oj.after, Region.binds md e = true → e.on ≠ i := fun e he hb heq => by
        have h1 := hall e he hb
        have h0 := (mem_ready.1 hr).1
        rw [heq] at h1
        rcases Nat.lt_or_ge i listed.size with h' | h'
        · simp [h'] at h0 h1; rw [h0] at h1; cases h1
        · simp [Array.getElem?_eq_none h'] at h1
      have hnd : ¬ Dep md ops i j := fun hd => by
        cases hd with
        | edge ho he hb hi' => rw [hoj] at ho; cases ho; exact hnot _ he hb hi'
        | step ho he hb hd' => rw [hoj] at ho; cases ho; exact hinv _ (hall _ he hb) hd'
      have hap := hfree j oj hoj hji hjun hnot hnd
      have hap1 := (Oper.apart_spec hap.1).1
      have h2 := qA_put hi hoj hap hiF hy h1 (fun Sj vj cj hyj => Y_back hap1 hap.2.1 hy hyj)
      have hfree' : ∀ k ok, ops[k]? = some ok → k ≠ i → (listed.setIfInBounds j true).getD k true = false →
          (∀ e ∈ ok.after, Region.binds md e = true → e.on ≠ i) → ¬ Dep md ops i k → Apart ops T i k oi ok := fun k ok hk hki hun hno hnk => by
        refine hfree k ok hk hki ?_ hno hnk
        by_cases hjk : j = k
        · subst hjk; exact hjun
        · rw [getD_set_ne true hjk] at hun; exact hun
      have hinv' : ∀ m, (listed.setIfInBounds j true).getD m false = true → ¬ Dep md ops i m := fun m hm => by
        by_cases hjm : j = m
        · subst hjm; exact hnd
        · rw [getD_set_ne false hjm] at hm; exact hinv m hm
      refine qA_mono (fun ρ' η' h3 => ih (listed.setIfInBounds j true) ρ' η' hfree' hinv' (ready_mono hr (Ne.symm hji)) h3.1 ?_) h2
      rw [Array.setIfInBounds_comm _ _ hji]
      exact h3.2

def disB (C F : List Nat) : Bool := C.all fun i => !F.contains i
theorem disB_spec {C F : List Nat} (h : disB C F = true) : Dis C F := by
  intro i hi
  simpa using List.all_eq_true.1 h i hi

/-- what lies ahead of each operation, whatever the order -/
def unionB (a s : List Nat) : List Nat := a.foldl (fun s x => bif s.contains x then s else x :: s) s
def reachS (md : Region.Mode) (acc : List (List Nat)) (o : Oper) : List Nat := o.after.toList.foldl (fun s e => bif Region.binds md e then unionB (e.on :: acc.getD e.on []) s else s) []
def reachT (md : Region.Mode) : List Oper → List (List Nat) → List (List Nat)
  | [], acc => acc
  | o :: r, acc => reachT md r (acc ++ [reachS md acc o])
theorem unionB_mem {p : Nat → Prop} (a : List Nat) : ∀ (s : List Nat), (∀ x ∈ a, p x) → (∀ x ∈ s, p x) → ∀ x ∈ unionB a s, p x := by
  unfold unionB
  induction a with
  | nil => intro s _ hs; exact hs
  | cons y r ih =>
    intro s ha hs
    refine ih _ (fun x hx => ha x (by simp [hx])) ?_
    cases hc : s.contains y with
    | true => simp only [hc, cond_true]; exact hs
    | false =>
      simp only [hc, cond_false]
      intro x hx
      rcases List.mem_cons.1 hx with rfl | hx
      · exact ha _ (by simp)
      · exact hs x hx
theorem reachS_mem {md : Region.Mode} {ops : Array Oper} {acc : List (List Nat)} {j : Nat} {o : Oper} (ho : ops[j]? = some o) (hacc : ∀ m x, x ∈ acc.getD m [] → Dep md ops x m) : ∀ x ∈ reachS md acc o, Dep md ops x j := by
  unfold reachS
  have key : ∀ (es : List Edge) (s : List Nat), (∀ e ∈ es, e ∈ o.after) → (∀ x ∈ s, Dep md ops x j) → ∀ x ∈ es.foldl (fun s e => bif Region.binds md e then unionB (e.on :: acc.getD e.on []) s else s) s, Dep md ops x j := by
    intro es
    induction es with
    | nil => intro s _ hs; exact hs
    | cons e r ih =>
      intro s he hs
      refine ih _ (fun e' h => he e' (by simp [h])) ?_
      cases hb : Region.binds md e with
      | false => simp only [hb, cond_false]; exact hs
      | true =>
        simp only [hb, cond_true]
        refine unionB_mem _ _ (fun x hx => ?_) hs
        rcases List.mem_cons.1 hx with rfl | hx
        · exact .edge ho (he e (by simp)) hb rfl
        · exact .step ho (he e (by simp)) hb (hacc _ _ hx)
  exact key _ [] (fun e he => by simpa using he) (fun x hx => by cases hx)
theorem reachT_mem {md : Region.Mode} {ops : Array Oper} : ∀ (l : List Oper) (acc : List (List Nat)), (∀ j, l[j]? = ops[acc.length + j]?) → (∀ m x, x ∈ acc.getD m [] → Dep md ops x m) → ∀ m x, x ∈ (reachT md l acc).getD m [] → Dep md ops x m
  | [], acc, _, h => h
  | o :: l, acc, hl, h => by
    refine reachT_mem l _ (fun j => by have := hl (j + 1); simpa [Nat.add_assoc, Nat.add_comm 1 j] using this) (fun m x hx => ?_)
    have ho : ops[acc.length]? = some o := by simpa using (hl 0).symm
    rw [List.getD_eq_getElem?_getD] at hx
    rcases Nat.lt_trichotomy m acc.length with hm | hm | hm
    · rw [List.getElem?_append_left hm, ← List.getD_eq_getElem?_getD] at hx; exact h m x hx
    · subst hm
      rw [List.getElem?_append_right (Nat.le_refl _)] at hx
      simp at hx
      exact reachS_mem ho h x hx
    · rw [List.getElem?_append_right (by omega)] at hx
      have : ([reachS md acc o] : List (List Nat))[m - acc.length]? = none := by rw [List.getElem?_eq_none_iff]; simp; omega
      rw [this] at hx; simp at hx

/-- 'tab' says what each operation meets and changes: those that the order does not bind are apart -/
def tabB (md : Region.Mode) (rt : List (List Nat)) : Nat → List (Oper × List Nat × List Nat) → Bool
  | _, [] => true
  | k, (_, F, C) :: r => subB C F && r.all (fun q => q.1.after.any (fun e => Region.binds md e && e.on == k) || (disB C q.2.1 && disB q.2.2 F) || q.1.after.any (fun e => Region.binds md e && (rt.getD e.on []).contains k)) && tabB md rt (k + 1) r

theorem anyA_lex {K : Fr → Hp → Prop} {rt : List (List Nat)} (hrt : ∀ m x, x ∈ rt.getD m [] → Dep md ops x m) : ∀ (l : List Oper) (tl : List (List Nat × List Nat)) (k : Nat) (listed : Array Bool) (ρ : Fr) (η : Hp), (∀ j, l[j]? = ops[k + j]?) →
    (∀ j p, tl[j]? = some p → T (k + j) = p) →
    (∀ m, m < k → listed.getD m true = true) → (∀ m, listed.getD m false = true → m < k) → (∀ m o, m < k → ops[m]? = some o → ∀ e ∈ o.after, Region.binds md e = true → e.on < m) →
    Region.lexFrom md ops l.length k listed = true → tabB md rt k (l.zip tl) = true → Lex P N ops true K tl l ρ η → anyA P N md ops T K l.length listed ρ η
  | [], tl, k, listed, ρ, η, hl, hT, hd, hd2, hE, hB, hC, h => ⟨by simpa [Region.lexFrom] using hB, h.2⟩
  | o :: l, tl, k, listed, ρ, η, hl, hT, hd, hd2, hE, hB, hC, h => by
    obtain ⟨F, C, S, v, ch, tab', rfl, hy, hr⟩ := h
    have h0 : ops[k]? = some o := by simpa using (hl 0).symm
    have hTk : T k = (F, C) := by simpa using hT 0 (F, C) rfl
    simp only [List.length_cons, Region.lexFrom, Bool.and_eq_true] at hB
    obtain ⟨⟨hrd, hf⟩, hB'⟩ := hB
    simp only [List.zip_cons_cons, tabB, Bool.and_eq_true] at hC
    obtain ⟨⟨hCF, hall⟩, hC'⟩ := hC
    have hl' : ∀ j, l[j]? = ops[k + 1 + j]? := fun j => by have := hl (j + 1); simpa [Nat.add_assoc, Nat.add_comm 1 j] using this
    have hT' : ∀ j p, tab'[j]? = some p → T (k + 1 + j) = p := fun j p hp => by have := hT (j + 1) p (by simpa using hp); simpa [Nat.add_assoc, Nat.add_comm 1 j] using this
    have hlen : ∀ (l : List Oper) (tl : List (List Nat × List Nat)) (ρ : Fr) (η : Hp), Lex P N ops true K tl l ρ η → tl.length = l.length := by
      intro l
      induction l with
      | nil => intro tl ρ η h; simp [h.1]
      | cons o l ih => intro tl ρ η h; obtain ⟨F, C, S, v, ch, tab', rfl, _, hr⟩ := h; simp [ih _ _ _ hr]
    have hCall : ∀ (k : Nat) (z : List (Oper × List Nat × List Nat)), tabB md rt k z = true → ∀ q ∈ z, subB q.2.2 q.2.1 = true := by
      intro k z
      induction z generalizing k with
      | nil => simp
      | cons q r ih =>
        obtain ⟨_, F, C⟩ := q
        intro h
        simp only [tabB, Bool.and_eq_true] at h
        intro q hq
        rcases List.mem_cons.1 hq with rfl | hq
        · exact h.1.1
        · exact ih _ h.2 q hq
    have hy' : Y P N ops T k o S v ch ρ η := by unfold Y; rw [hTk]; exact hy
    refine anyA_first h0 (by rw [hTk]; exact subB_mem hCF) l.length listed ρ η ?_ (fun m hm hdep => hdep.back hE (hd2 m hm)) (by simpa using hrd) hy' ?_
    · intro j oj hj hne hun hno hnd
      refine ⟨Region.free_spec h0 hf j oj hj hne hun hno, ?_⟩
      have hjk : k < j := by
        rcases Nat.lt_trichotomy j k with h | h | h
        · rw [hd j h] at hun; cases hun
        · exact absurd h hne
        · exact h
      obtain ⟨m, rfl⟩ : ∃ m, j = k + 1 + m := ⟨j - k - 1, by omega⟩
      have hlm : l[m]? = some oj := by rw [hl' m]; exact hj
      have hml : m < l.length := (List.getElem?_eq_some_iff.1 hlm).1
      have hmt : m < tab'.length := by rw [hlen l tab' _ _ hr]; exact hml
      have hz : (oj, tab'[m]) ∈ l.zip tab' := by
        have : (l.zip tab')[m]? = some (oj, tab'[m]) := by
          rw [List.getElem?_zip_eq_some]
          exact ⟨hlm, by simp [List.getElem?_eq_getElem hmt]⟩
        exact List.mem_of_getElem? this
      have hTm : T (k + 1 + m) = tab'[m] := hT' m _ (by simp [List.getElem?_eq_getElem hmt])
      have h1 := List.all_eq_true.1 hall _ hz
      rw [hTk, hTm]
      simp only [Bool.or_eq_true, Bool.and_eq_true] at h1
      rcases h1 with (h1 | h1) | h1
      · obtain ⟨e, he, hb⟩ := Array.any_eq_true'.1 h1
        simp only [Bool.and_eq_true, beq_iff_eq] at hb
        exact absurd hb.2 (hno e he hb.1)
      rotate_left
      · obtain ⟨e, he, hb⟩ := Array.any_eq_true'.1 h1
        simp only [Bool.and_eq_true] at hb
        exact absurd (Dep.step hj he hb.1 (hrt _ _ (by simpa using hb.2))) hnd
      · exact ⟨disB_spec h1.1, disB_spec h1.2, subB_mem (hCall _ _ hC' _ hz)⟩
    · have hrk : k ∈ Region.ready md ops listed := by simpa using hrd
      obtain ⟨_, ok, hok, hall2⟩ := mem_ready.1 hrk
      refine anyA_lex hrt l tab' (k + 1) _ _ _ hl' hT' ?_ (fun m hm => ?_) (fun m om hm hom e he hb => ?_) hB' hC' hr
      rotate_left
      · by_cases e : k = m
        · omega
        · rw [getD_set_ne false e] at hm; have := hd2 m hm; omega
      · by_cases e' : m = k
        · subst e'; rw [hok] at hom; cases hom; exact hd2 _ (hall2 e he hb)
        · exact hE m om (by omega) hom e he hb
      intro m hm
      by_cases e : m = k
      · subst e
        rcases Nat.lt_or_ge m listed.size with h | h
        · simp [h]
        · simp [h]
      · rw [getD_set_ne true (Ne.symm e)]; exact hd m (by omega)

end
end Go.Aw

set_option linter.unusedVariables false
namespace Go.Aw
open Go.RowKit (Below)

/-- From every state that is as 'ρ', 'η' say the code ends as 'Q' says. -/
def AWp (P : Program) (N : Nat) (c : Code) (Q : Exit → Fr → Hp → Prop) (ρ : Fr) (η : Hp) : Prop :=
  ∀ (vs : Env) (w0 : World) (μ : Nat → Option Nat) (a : Act) (w : World), StR vs N w0 μ ρ η a w → c.wp P (fun e a' w' => ∃ ρ' η' μ', Q e ρ' η' ∧ StR vs N w0 μ' ρ' η' a' w') a w

def thenA (K : Fr → Hp → Prop) (Q : Exit → Fr → Hp → Prop) : Exit → Fr → Hp → Prop
  | .normal => K
  | e => Q e
def blockA (id : Nat) (Q : Exit → Fr → Hp → Prop) : Exit → Fr → Hp → Prop
  | .exit id' => fun ρ η => if id' = id then Q .normal ρ η else Q (.exit id') ρ η
  | e => Q e

section
variable {P : Program} {N : Nat} {Q : Exit → Fr → Hp → Prop} {ρ : Fr} {η : Hp}

theorem awp_skip (h : Q .normal ρ η) : AWp P N .skip Q ρ η := fun _ _ μ _ _ hs => wp_skip ⟨ρ, η, μ, h, hs⟩
theorem awp_ret (h : Q .ret ρ η) : AWp P N .ret Q ρ η := fun _ _ μ _ _ hs => wp_ret ⟨ρ, η, μ, h, hs⟩
theorem awp_exit {id : Nat} (h : Q (.exit id) ρ η) : AWp P N (.exit id) Q ρ η := fun _ _ μ _ _ hs => wp_exit ⟨ρ, η, μ, h, hs⟩

theorem awp_mono {c : Code} {Q' : Exit → Fr → Hp → Prop} (h : AWp P N c Q ρ η) (hq : ∀ e ρ η, Q e ρ η → Q' e ρ η) : AWp P N c Q' ρ η :=
  fun vs w0 μ a w hs => wp_mono (h vs w0 μ a w hs) fun e a' w' ⟨ρ', η', μ', q, s⟩ => ⟨ρ', η', μ', hq _ _ _ q, s⟩

theorem awp_seq {x y : Code} (h : ∀ K : Fr → Hp → Prop, (∀ ρ η, AWp P N y Q ρ η → K ρ η) → AWp P N x (thenA K Q) ρ η) : AWp P N (.seq x y) Q ρ η := by
  intro vs w0 μ a w hs
  refine wp_seq (wp_mono (h _ (fun _ _ h => h) vs w0 μ a w hs) ?_)
  rintro e a' w' ⟨ρ', η', μ', q, s⟩
  cases e <;> first
    | exact ⟨ρ', η', μ', q, s⟩
    | exact q vs w0 μ' a' w' s

theorem awp_block {id : Nat} {c : Code} (h : AWp P N c (blockA id Q) ρ η) : AWp P N (.block id c) Q ρ η := by
  intro vs w0 μ a w hs
  refine wp_block (wp_mono (h vs w0 μ a w hs) ?_)
  rintro e a' w' ⟨ρ', η', μ', q, s⟩
  cases e <;> first
    | exact ⟨ρ', η', μ', q, s⟩
    | (simp only [Exit.inBlock, blockA] at q ⊢
       split at q
       · rename_i he; rw [if_pos he]; exact ⟨ρ', η', μ', q, s⟩
       · rename_i he; rw [if_neg he]; exact ⟨ρ', η', μ', q, s⟩)

theorem awp_cond {c : Operand} {x y : Code} {b : Bool} (hc : evA ρ c = .t (.v (.bool b))) (h1 : b = true → AWp P N x Q ρ η) (h2 : b = false → AWp P N y Q ρ η) : AWp P N (.cond c x y) Q ρ η := by
  intro vs w0 μ a w hs
  have hv := evA_VR hs c
  rw [hc, VR, TR] at hv
  cases b with
  | true => exact wp_cond_true hv (h1 rfl vs w0 μ a w hs)
  | false => exact wp_cond_false hv (h2 rfl vs w0 μ a w hs)

theorem awp_region {id : Nat} {ops : Array Oper} {tab : List (List Nat × List Nat)} {dr : Bool} (h : ∀ K : Fr → Hp → Prop, (∀ ρ η, Q .normal ρ η → K ρ η) → Lex P N ops dr K tab ops.toList ρ η) : AWp P N (.region id ops false) Q ρ η := by
  intro vs w0 μ a w hs
  refine wp_region ?_
  have := wpOps_of_lex ops.toList tab 0 ρ η μ a w (fun j => by simp) (h _ (fun _ _ h => h)) hs (Q := fun e a' w' => ∃ ρ' η' μ', Q e ρ' η' ∧ StR vs N w0 μ' ρ' η' a' w') (fun ρ η μ a w q s => ⟨ρ, η, μ, q, s⟩)
  simpa using this

theorem awp_drawn {id : Nat} {ops : Array Oper} {tab : List (List Nat × List Nat)} (hm : P.follows .mixedOrders = true)
    (h : ∀ K : Fr → Hp → Prop, (∀ ρ η, Q .normal ρ η → K ρ η) → Lex P N ops true K tab ops.toList ρ η)
    (hB : Region.lexFrom .any ops ops.size 0 (Array.replicate ops.size false) = true) (hT : tabB .any (reachT .any ops.toList []) 0 (ops.toList.zip tab) = true) : AWp P N (.region id ops true) Q ρ η := by
  intro vs w0 μ a w hs
  refine wp_region_any hm ?_
  have hs' : StR vs N w0 μ ρ η a { w with drawn := w.drawn + 1 } := by
    have hk : Keeps w w.drew μ μ (okOf μ η) (okOf μ η) (fun _ => False) := ⟨fun b hb hk => ⟨hb, hk, rfl⟩, fun _ _ => rfl, fun _ _ _ _ _ hs => hs⟩
    refine ⟨⟨hs.hc.base, hs.hc.below.drew, fun i B hB => ?_, hs.hc.inj⟩, hs.size, hs.defers, fun n => VR.mono hk _ _ (fun _ _ h => h) (hs.slots n)⟩
    have := hs.hc.blk i B hB
    cases B with
    | sl e c =>
      obtain ⟨h0, h⟩ := this
      refine ⟨h0, Or.imp (fun x => x) ?_ h⟩
      rintro ⟨b, cs, h1, h2, h3, h4, h5⟩
      exact ⟨b, cs, h1, h2, h3, h4, TRl.mono hk.treeF _ _ h5⟩
    | box e l =>
      obtain ⟨b, cs, h1, h2, h3, h4⟩ := this
      exact ⟨b, cs, h1, h2, h3, VRl.mono hk _ _ (fun _ _ h => h) h4⟩
    | nest e L vis rem =>
      refine Or.imp (fun x => x) ?_ this
      rintro ⟨b, cs, h1, h2, h3, h0, h4⟩
      exact ⟨b, cs, h1, h2, h3, h0, nest_mono hk (fun _ h => h) (fun i _ hg => hg.elim) refs_idsN h4⟩
  have := anyA_lex (rt := reachT .any ops.toList []) (reachT_mem ops.toList [] (fun j => by simp) (fun m x hx => by simp at hx)) (P := P) (N := N) (ops := ops) (md := .any) (T := fun j => tab.getD j ([], [])) (K := fun ρ η => Q .normal ρ η) ops.toList tab 0 (Array.replicate ops.size false) ρ η (fun j => by simp)
    (fun j p hp => by simp [List.getD_eq_getElem?_getD, hp]) (fun m hm => by omega) (fun m hm => by simp [Array.getD_eq_getD_getElem?, Array.getElem?_replicate] at hm; split at hm <;> simp at hm) (fun m o hm => by omega) (by simpa using hB) hT (h _ (fun _ _ h => h))
  have h2 := wpAny_of_anyA (vs := vs) (w0 := w0) (Q := fun e a' w' => ∃ ρ' η' μ', Q e ρ' η' ∧ StR vs N w0 μ' ρ' η' a' w') (fun ρ η μ a w q s => ⟨ρ, η, μ, q, s⟩) _ _ _ _ μ a _ hs' this
  simpa using h2

end

/-! ### other names, and less known -/

mutual
def ren (π : Nat → Nat) : AV → AV
  | .own i o n => .own (π i) o n
  | .argo k i o n => .argo k (π i) o n
  | .bp i o => .bp (π i) o
  | .bpa o i => .bpa o (π i)
  | .dead i => .dead (π i)
  | .agg l => .agg (renL π l)
  | .tup l => .tup (renL π l)
  | .fn f l => .fn f (renL π l)
  | v => v
def renL (π : Nat → Nat) : List AV → List AV
  | [] => []
  | v :: r => ren π v :: renL π r
end
def renB (π : Nat → Nat) : Blk → Blk
  | .sl e c => .sl e c
  | .box e l => .box e (renL π l)
  | .nest e _ _ _ => .sl e (.v undef)

mutual
theorem VR_ren {vs : Env} {w : World} {μ : Nat → Option Nat} {ok : Nat → Prop} {π : Nat → Nat} : ∀ (v : AV) (y : Value), VR vs w μ ok (ren π v) y → VR vs w (fun i => μ (π i)) ok v y
  | .own i o n, y, h => by simp only [ren] at h; rw [VR] at *; exact h
  | .argo k i o n, y, h => by simp only [ren] at h; rw [VR] at *; exact h
  | .bp i o, y, h | .bpa o i, y, h => by simp only [ren] at h; rw [VR] at *; exact h
  | .agg l, y, h => by simp only [ren] at h; rw [VR] at *; obtain ⟨xs, rfl, hx⟩ := h; exact ⟨xs, rfl, VRl_ren l _ hx⟩
  | .tup l, y, h => by simp only [ren] at h; rw [VR] at *; obtain ⟨xs, rfl, hx⟩ := h; exact ⟨xs, rfl, VRl_ren l _ hx⟩
  | .fn f l, y, h => by simp only [ren] at h; rw [VR] at *; obtain ⟨xs, rfl, hx⟩ := h; exact ⟨xs, rfl, VRl_ren l _ hx⟩
  | .t _, y, h | .old _, y, h | .arg _ _, y, h | .argc _ _ _, y, h | .emp, y, h => by simp only [ren] at h; rw [VR] at *; exact h
  | .dead _, y, h | .junk, y, h => by rw [VR]; trivial
theorem VRl_ren {vs : Env} {w : World} {μ : Nat → Option Nat} {ok : Nat → Prop} {π : Nat → Nat} : ∀ (l : List AV) (xs : List Value), VRl vs w μ ok (renL π l) xs → VRl vs w (fun i => μ (π i)) ok l xs
  | [], xs, h => by simp only [renL] at h; rw [VRl] at *; exact h
  | v :: r, xs, h => by
    simp only [renL] at h
    rw [VRl] at *
    obtain ⟨x, ys, rfl, hx, hr⟩ := h
    exact ⟨x, ys, rfl, VR_ren v x hx, VRl_ren r ys hr⟩
end

def lkF : List (Nat × AV) → Fr
  | [], _ => .junk
  | (s, v) :: r, n => bif Nat.beq n s then v else lkF r n

/-- the slots 'l' hold what 'l' says, ids by other names -/
def wkF (π : Nat → Nat) (ρ : Fr) : List (Nat × AV) → Prop
  | [] => True
  | (n, v) :: r => ρ n = ren π v ∧ wkF π ρ r
def wkH (π : Nat → Nat) (η : Hp) : List (Nat × Blk) → Prop
  | [] => True
  | (i, B) :: r => η (π i) = some (renB π B) ∧ wkH π η r

theorem wkF_lk {π : Nat → Nat} {ρ : Fr} {l : List (Nat × AV)} (h : wkF π ρ l) (n : Nat) : lkF l n = .junk ∨ ρ n = ren π (lkF l n) := by
  induction l with
  | nil => exact .inl rfl
  | cons p r ih =>
    obtain ⟨s, v⟩ := p
    simp only [lkF]
    cases hb : Nat.beq n s with
    | true => simp only [cond_true]; rw [Nat.eq_of_beq_eq_true hb]; exact .inr h.1
    | false => simp only [cond_false]; exact ih h.2
theorem wkH_lk {π : Nat → Nat} {η : Hp} {l : List (Nat × Blk)} (h : wkH π η l) (i : Nat) (B : Blk) (hl : lkH l i = some B) : η (π i) = some (renB π B) := by
  induction l with
  | nil => simp [lkH] at hl
  | cons p r ih =>
    obtain ⟨s, v⟩ := p
    simp only [lkH] at hl
    cases hb : Nat.beq i s with
    | true => simp only [hb, cond_true, Option.some.injEq] at hl; subst hl; rw [Nat.eq_of_beq_eq_true hb]; exact h.1
    | false => simp only [hb, cond_false] at hl; exact ih h.2 hl

def injOn (π : Nat → Nat) (l : List (Nat × Blk)) : Prop := ∀ i j, (lkH l i).isSome → (lkH l j).isSome → π i = π j → i = j
theorem injOn_id (l : List (Nat × Blk)) : injOn (fun i => i) l := fun _ _ _ _ h => h

theorem HC_weak {vs : Env} {w0 : World} {μ : Nat → Option Nat} {η : Hp} {w : World} {π : Nat → Nat} {l : List (Nat × Blk)} (h : HC vs w0 μ η w) (hH : wkH π η l) (hi : injOn π l) :
    HC vs w0 (fun i => μ (π i)) (lkH l) w ∧ ∀ b, okOf μ η b → okOf (fun i => μ (π i)) (lkH l) b := by
  have hok : ∀ b, okOf μ η b → okOf (fun i => μ (π i)) (lkH l) b := fun b hb i hs => by
    obtain ⟨B, hB⟩ := Option.isSome_iff_exists.1 hs
    exact hb (π i) (by rw [wkH_lk hH i B hB]; rfl)
  have hk : Keeps w w μ μ (okOf μ η) (okOf (fun i => μ (π i)) (lkH l)) (fun _ => False) := ⟨fun b hb hk => ⟨hb, hok b hk, rfl⟩, fun _ _ => rfl, fun _ _ _ _ _ hs => hs⟩
  refine ⟨⟨h.base, h.below, fun i B hB => ?_, fun i j b hs ht h1 h2 => ?_⟩, hok⟩
  · have := h.blk (π i) _ (wkH_lk hH i B hB)
    cases B with
    | sl e c =>
      obtain ⟨h0, h⟩ := this
      refine ⟨h0, Or.imp (fun x => x) ?_ h⟩
      rintro ⟨b, cs, h1, h2, h3, h4, h5⟩
      exact ⟨b, cs, h1, h2, h3, h4, TRl.mono hk.treeF _ _ h5⟩
    | box e l' =>
      obtain ⟨b, cs, h1, h2, h3, h4⟩ := this
      exact ⟨b, cs, h1, h2, h3, VRl_ren _ _ (VRl.mono hk _ _ (fun _ _ h => h) h4)⟩
    | nest e L vis rem => exact absurd this.1 (by simp [T.isSl])
  · obtain ⟨B, hB⟩ := Option.isSome_iff_exists.1 hs
    obtain ⟨B', hB'⟩ := Option.isSome_iff_exists.1 ht
    exact hi i j hs ht (h.inj (π i) (π j) b (by rw [wkH_lk hH i B hB]; rfl) (by rw [wkH_lk hH j B' hB']; rfl) h1 h2)

theorem StR_weak {vs : Env} {N : Nat} {w0 : World} {μ : Nat → Option Nat} {ρ : Fr} {η : Hp} {a : Act} {w : World} {π : Nat → Nat} {α : List (Nat × AV)} {l : List (Nat × Blk)}
    (h : StR vs N w0 μ ρ η a w) (hF : wkF π ρ α) (hH : wkH π η l) (hi : injOn π l) : StR vs N w0 (fun i => μ (π i)) (lkF α) (lkH l) a w := by
  obtain ⟨hc, hok⟩ := HC_weak h.hc hH hi
  refine ⟨hc, h.size, h.defers, fun n => ?_⟩
  rcases wkF_lk hF n with hj | hj
  · rw [hj, VR]; trivial
  · have := h.slots n
    rw [hj] at this
    have hk : Keeps w w μ μ (okOf μ η) (okOf (fun i => μ (π i)) (lkH l)) (fun _ => False) := ⟨fun b hb hk => ⟨hb, hok b hk, rfl⟩, fun _ _ => rfl, fun _ _ _ _ _ hs => hs⟩
    exact VR_ren _ _ (VR.mono hk _ _ (fun _ _ h => h) this)

section
variable {P : Program} {N : Nat} {Q : Exit → Fr → Hp → Prop} {ρ : Fr} {η : Hp}

theorem awp_weak {c : Code} (π : Nat → Nat) (α : List (Nat × AV)) (l : List (Nat × Blk)) (hF : wkF π ρ α) (hH : wkH π η l) (hi : injOn π l) (h : AWp P N c Q (lkF α) (lkH l)) : AWp P N c Q ρ η :=
  fun vs w0 μ a w hs => h vs w0 _ a w (StR_weak hs hF hH hi)

/-- 'ρ', 'η' are a state of the family, perhaps by other names -/
def Fam {X : Type} (Inv : X → Prop) (α : X → List (Nat × AV)) (H : X → List (Nat × Blk)) (x : X) (ρ : Fr) (η : Hp) : Prop :=
  Inv x ∧ ∃ π, wkF π ρ (α x) ∧ wkH π η (H x) ∧ injOn π (H x)

theorem awp_loop {X : Type} (Inv : X → Prop) (α : X → List (Nat × AV)) (H : X → List (Nat × Blk)) (m : X → Nat) {c : Code} (x0 : X) (h0 : Fam Inv α H x0 ρ η)
    (h : ∀ x, Inv x → AWp P N c (thenA (fun ρ' η' => ∃ x', m x' < m x ∧ Fam Inv α H x' ρ' η') Q) (lkF (α x)) (lkH (H x))) : AWp P N (.loop c) Q ρ η := by
  intro vs w0 μ a w hs b k cs
  have key : ∀ n, ∀ x, m x = n → Inv x → ∀ μ a w, StR vs N w0 μ (lkF (α x)) (lkH (H x)) a w →
      ∃ e a' w', (∃ ρ' η' μ', Q e ρ' η' ∧ StR vs N w0 μ' ρ' η' a' w') ∧ Arrives P (lone (b.at a (.code c :: .inLoop c :: k)) cs w) b k cs e a' w' := by
    intro n
    induction n using Nat.strongRecOn with
    | _ n ih =>
      intro x hx hI μ a w hs
      obtain ⟨e, a₁, w₁, ⟨ρ', η', μ', q, s⟩, harr⟩ := h x hI vs w0 μ a w hs b (.inLoop c :: k) cs
      cases e with
      | normal =>
        obtain ⟨x', hlt, hI', π, hF, hH, hi⟩ := q
        obtain ⟨e₂, a₂, w₂, hq₂, harr₂⟩ := ih (m x') (hx ▸ hlt) x' rfl hI' _ a₁ w₁ (StR_weak s hF hH hi)
        exact ⟨e₂, a₂, w₂, hq₂, .of_steps (Steps.trans harr (.one step_inLoop)) harr₂⟩
      | exit id => exact ⟨_, a₁, w₁, ⟨ρ', η', μ', q, s⟩, .pass (x := .inLoop c) rfl (fun _ _ => .inl (by simp)) harr⟩
      | goto l => exact ⟨_, a₁, w₁, ⟨ρ', η', μ', q, s⟩, .pass (x := .inLoop c) rfl (fun _ _ => .inl (by simp)) harr⟩
      | ret => exact ⟨_, a₁, w₁, ⟨ρ', η', μ', q, s⟩, .pass (x := .inLoop c) rfl (fun _ _ => .inl (by simp)) harr⟩
      | panic ch => exact ⟨_, a₁, w₁, ⟨ρ', η', μ', q, s⟩, .pass (x := .inLoop c) rfl (fun _ _ => .inl (by simp)) harr⟩
      | outgrown => exact ⟨_, a₁, w₁, ⟨ρ', η', μ', q, s⟩, .pass (x := .inLoop c) rfl (fun _ _ => .inl (by simp)) harr⟩
  obtain ⟨hI, π, hF, hH, hi⟩ := h0
  obtain ⟨e, a', w', q, harr⟩ := key _ x0 rfl hI _ a w (StR_weak hs hF hH hi)
  exact ⟨e, a', w', q, .of_steps (.one step_loop) harr⟩
end
end Go.Aw

set_option linter.unusedVariables false
namespace Go.Aw

theorem isNan_iff (k : FloatKind) (b : Nat) : isNan k b = true ↔ ∃ s t, k.format.read b = .nan s t := by
  unfold isNan FloatKind.decode Ieee.Datum.isNaN
  split <;> simp_all

theorem read_nan_iff (f : Ieee.Format) (b : Nat) : (∃ s t, f.read b = .nan s t) ↔ f.infRung < b % f.signWeight ∧ f.binade ≤ b % f.signWeight := by
  unfold Ieee.Format.read
  dsimp only
  split
  · simp; omega
  · split
    · simp; omega
    · split
      · simp; omega
      · simp; omega

/-- is the word a NaN, by its rung -/
def nanB : FloatKind → Nat → Bool
  | .f32, b => decide (2139095040 < b % 2147483648)
  | .f64, b => decide (9218868437227405312 < b % 9223372036854775808)
theorem nanB_eq (k : FloatKind) (b : Nat) : isNan k b = nanB k b := by
  rw [Bool.eq_iff_iff, isNan_iff, read_nan_iff]
  cases k
  · have e1 : FloatKind.f32.format.infRung = 2139095040 := by decide
    have e2 : FloatKind.f32.format.signWeight = 2147483648 := by decide
    have e3 : FloatKind.f32.format.binade = 8388608 := by decide
    rw [e1, e2, e3]; simp [nanB]; omega
  · have e1 : FloatKind.f64.format.infRung = 9218868437227405312 := by decide
    have e2 : FloatKind.f64.format.signWeight = 9223372036854775808 := by decide
    have e3 : FloatKind.f64.format.binade = 4503599627370496 := by decide
    rw [e1, e2, e3]; simp [nanB]; omega

theorem width32 : 2 ^ FloatKind.f32.format.width = 4294967296 := by decide
theorem width64 : 2 ^ FloatKind.f64.format.width = 18446744073709551616 := by decide

theorem nan0_nan (k : FloatKind) : isNan k (nan0 k) = true := by rw [nanB_eq]; cases k <;> decide
theorem nan0_lt (k : FloatKind) : nan0 k < 2 ^ k.format.width := by cases k <;> decide

theorem canon_nan {k : FloatKind} {b : Nat} (h : isNan k b = true) : canon k b = nan0 k := by simp [canon, h]
theorem canon_not {k : FloatKind} {b : Nat} (h : isNan k b = false) : canon k b = b := by simp [canon, h]

/-- what a relation between a word and its canon says -/
theorem FR.nan {k : FloatKind} {b c : Nat} (h : FR k b c) : isNan k b = isNan k c := by
  obtain ⟨h, _⟩ := h
  cases hb : isNan k b with
  | true => rw [canon_nan hb] at h; subst h; exact (nan0_nan k).symm
  | false => rw [canon_not hb] at h; subst h; exact hb.symm
theorem FR.eq {k : FloatKind} {b c : Nat} (h : FR k b c) (hn : isNan k c = false) : b = c := by
  have hb := h.nan.trans hn
  have := h.1
  rwa [canon_not hb] at this
theorem FR.nan0 {k : FloatKind} {b c : Nat} (h : FR k b c) (hn : isNan k c = true) : c = Aw.nan0 k := by
  have hb := h.nan.trans hn
  have := h.1
  rw [canon_nan hb] at this; exact this.symm
theorem FR.lt {k : FloatKind} {b c : Nat} (h : FR k b c) : c < 2 ^ k.format.width := by
  cases hn : isNan k c with
  | true => rw [h.nan0 hn]; exact nan0_lt k
  | false => rw [← h.eq hn]; exact h.2
theorem FR.canon {k : FloatKind} {b c : Nat} (h : FR k b c) : canon k c = c := by
  cases hn : isNan k c with
  | true => rw [canon_nan hn]; exact (h.nan0 hn).symm
  | false => exact canon_not hn

theorem FR_of {k : FloatKind} {b : Nat} (h : b < 2 ^ k.format.width) : FR k b (canon k b) := ⟨rfl, h⟩

theorem lt_of_wf {k : FloatKind} {b : Nat} (h : (Lit.float k b).wf = true) : b < 2 ^ k.format.width := by
  cases k
  · rw [width32]; simpa [Lit.wf] using h
  · rw [width64]; simpa [Lit.wf] using h

theorem nanw32 (m u : Nat) (hm : m < 2) (hu : u < 8388607) : isNan .f32 (m * 2147483648 + 2139095040 + 1 + u) = true ∧ m * 2147483648 + 2139095040 + 1 + u < 4294967296 := by
  rw [nanB_eq]; simp only [nanB, decide_eq_true_eq]
  rcases (by omega : m = 0 ∨ m = 1) with rfl | rfl <;> omega
theorem nanw64 (m u : Nat) (hm : m < 2) (hu : u < 4503599627370495) : isNan .f64 (m * 9223372036854775808 + 9218868437227405312 + 1 + u) = true ∧ m * 9223372036854775808 + 9218868437227405312 + 1 + u < 18446744073709551616 := by
  rw [nanB_eq]; simp only [nanB, decide_eq_true_eq]
  rcases (by omega : m = 0 ∨ m = 1) with rfl | rfl <;> omega

/-! ### the operations -/

def fop (op : BinOp) (k : FloatKind) (c d : Nat) : Nat := match floatBits op k c d with
  | some r => canon k r
  | none => nan0 k

theorem datum_nan {k : FloatKind} {b : Nat} (h : isNan k b = true) : ∃ s t, k.format.read b = .nan s t := (isNan_iff k b).1 h

theorem floatBits_nan_left {op : BinOp} {k : FloatKind} {x y : Nat} (h : isNan k x = true) : floatBits op k x y = none := by
  obtain ⟨s, t, hs⟩ := datum_nan h
  unfold floatBits Ieee.Format.add Ieee.Format.sub Ieee.Format.mul Ieee.Format.div
  rw [hs]
  cases op <;> simp [Ieee.Datum.sum, Ieee.Datum.product, Ieee.Datum.quotient]
theorem floatBits_nan_right {op : BinOp} {k : FloatKind} {x y : Nat} (h : isNan k y = true) : floatBits op k x y = none := by
  obtain ⟨s, t, hs⟩ := datum_nan h
  unfold floatBits Ieee.Format.add Ieee.Format.sub Ieee.Format.mul Ieee.Format.div
  rw [hs]
  cases op <;> cases k.format.read x <;> simp [Ieee.Datum.sum, Ieee.Datum.product, Ieee.Datum.quotient, Ieee.Datum.opposite]

theorem floatBits_FR {op : BinOp} {k : FloatKind} {x y c d : Nat} (hx : FR k x c) (hy : FR k y d) : floatBits op k x y = floatBits op k c d := by
  cases hc : isNan k c with
  | true => rw [floatBits_nan_left hc, floatBits_nan_left (hx.nan.trans hc)]
  | false =>
    rw [hx.eq hc]
    cases hd : isNan k d with
    | true => rw [floatBits_nan_right hd, floatBits_nan_right (hy.nan.trans hd)]
    | false => rw [hy.eq hd]

theorem nanBits_FR (k : FloatKind) (x y : Nat) (t : Nat) : FR k ((Question.nanBits k x y).cut t) (nan0 k) := by
  cases k
  · simp only [Question.cut]
    have h := nanw32 (t % 2) (t / 2 % 8388607) (Nat.mod_lt _ (by omega)) (Nat.mod_lt _ (by omega))
    exact ⟨canon_nan h.1, by rw [width32]; exact h.2⟩
  · simp only [Question.cut]
    have h := nanw64 (t % 2) (t / 2 % 4503599627370495) (Nat.mod_lt _ (by omega)) (Nat.mod_lt _ (by omega))
    exact ⟨canon_nan h.1, by rw [width64]; exact h.2⟩
theorem nanConv_FR (k : FloatKind) (x : Nat) (t : Nat) : FR k ((Question.nanConv k x).cut t) (nan0 k) := by
  cases k
  · simp only [Question.cut]
    have h := nanw32 (t % 2) (t / 2 % 8388607) (Nat.mod_lt _ (by omega)) (Nat.mod_lt _ (by omega))
    exact ⟨canon_nan h.1, by rw [width32]; exact h.2⟩
  · simp only [Question.cut]
    have h := nanw64 (t % 2) (t / 2 % 4503599627370495) (Nat.mod_lt _ (by omega)) (Nat.mod_lt _ (by omega))
    exact ⟨canon_nan h.1, by rw [width64]; exact h.2⟩

/-- '+', '-', '*', '/' -/
theorem run_farith {P : Program} {w : World} {op : BinOp} (hop : op = .add ∨ op = .sub ∨ op = .mul ∨ op = .quo) {t : TypeId} {k : FloatKind} {x y c d : Nat} (hx : FR k x c) (hy : FR k y d) :
    ∃ r n, (binOp op t (.float k x) (.float k y)).run P w = .ok (.float k r) { w with drawn := n } ∧ FR k r (fop op k c d) := by
  have e := floatBits_FR (op := op) hx hy
  unfold fop
  rw [← e]
  cases hb : floatBits op k x y with
  | some r => exact ⟨r, w.drawn, run_float_arith w op t k x y r hb, FR_of (lt_of_wf (floatBits_wf hb))⟩
  | none =>
    refine ⟨_, w.drawn + 1, ?_, nanBits_FR k x y (w.tape w.drawn (.nanBits k x y))⟩
    unfold floatBits at hb
    rcases hop with rfl | rfl | rfl | rfl <;> simp only at hb <;> simp [binOp, Op.floatArith, hb, Question.forced]

def fcmp (op : BinOp) (k : FloatKind) (c d : Nat) : Bool := match op with
  | .eql => k.format.order c d == some .eq
  | .neq => k.format.order c d != some .eq
  | .lss => k.format.order c d == some .lt
  | .leq => k.format.order c d == some .lt || k.format.order c d == some .eq
  | .gtr => k.format.order c d == some .gt
  | _ => k.format.order c d == some .gt || k.format.order c d == some .eq

theorem order_nan_left {k : FloatKind} {x y : Nat} (h : isNan k x = true) : k.format.order x y = none := by
  obtain ⟨s, t, hs⟩ := datum_nan h
  unfold Ieee.Format.order; rw [hs]; simp [Ieee.Datum.order]
theorem order_nan_right {k : FloatKind} {x y : Nat} (h : isNan k y = true) : k.format.order x y = none := by
  obtain ⟨s, t, hs⟩ := datum_nan h
  unfold Ieee.Format.order; rw [hs]; cases k.format.read x <;> simp [Ieee.Datum.order]
theorem order_FR {k : FloatKind} {x y c d : Nat} (hx : FR k x c) (hy : FR k y d) : k.format.order x y = k.format.order c d := by
  cases hc : isNan k c with
  | true => rw [order_nan_left hc, order_nan_left (hx.nan.trans hc)]
  | false =>
    rw [hx.eq hc]
    cases hd : isNan k d with
    | true => rw [order_nan_right hd, order_nan_right (hy.nan.trans hd)]
    | false => rw [hy.eq hd]

theorem run_fcmp {P : Program} {w : World} {op : BinOp} (hop : op = .eql ∨ op = .neq ∨ op = .lss ∨ op = .leq ∨ op = .gtr ∨ op = .geq) {t : TypeId} {k : FloatKind} {x y c d : Nat} (hx : FR k x c) (hy : FR k y d) :
    (binOp op t (.float k x) (.float k y)).run P w = .ok (.bool (fcmp op k c d)) w := by
  have e := order_FR hx hy
  rcases hop with rfl | rfl | rfl | rfl | rfl | rfl <;> simp [binOp, Op.floatCmp, fcmp, e]

/-! ### conversions -/

/-- an integer as a float -/
def fint (k : FloatKind) (n : Int) : Nat := canon k (k.nearest n)
theorem fint_FR (k : FloatKind) (n : Int) : FR k (k.nearest n) (fint k n) := by
  exact FR_of (lt_of_wf (floatOfInt_wf k n))

/-- a float of the other kind, where it does not grow too great -/
def fconv (s d : FloatKind) (c : Nat) : Nat := if isNan s c then nan0 d else canon d (d.encode (s.decode c))
def fconvOk (s d : FloatKind) (c : Nat) : Bool := isNan s c || (s.decode c).isInfinity || !(d.decode (d.encode (s.decode c))).isInfinity

theorem run_fconv {P : Program} {w : World} {s d : FloatKind} (hsd : s ≠ d) {x c : Nat} (hx : FR s x c) (hok : fconvOk s d c = true) :
    ∃ r n, (Conv.floatToFloat s x d).run P w = .ok (.float d r) { w with drawn := n } ∧ FR d r (fconv s d c) := by
  unfold fconv
  cases hc : isNan s c with
  | true =>
    obtain ⟨sg, t, hs⟩ := datum_nan (hx.nan.trans hc)
    refine ⟨_, w.drawn + 1, ?_, nanConv_FR d x (w.tape w.drawn (.nanConv d x))⟩
    have hs' : s.decode x = .nan sg t := hs
    simp [Conv.floatToFloat, hsd, hs', Question.forced]
  | false =>
    have e := hx.eq hc
    subst e
    refine ⟨d.encode (s.decode x), w.drawn, ?_, ?_⟩
    · simp only [fconvOk, hc, Bool.false_or, Bool.or_eq_true, Bool.not_eq_true'] at hok
      have hn : ∀ sg t, s.decode x ≠ .nan sg t := fun sg t h => by
        have := (isNan_iff s x).2 ⟨sg, t, h⟩; rw [hc] at this; cases this
      cases hd : s.decode x with
      | nan sg t => exact absurd hd (hn sg t)
      | infinity sg => simp [Conv.floatToFloat, hsd, hd]
      | number sg m e =>
        rw [hd] at hok
        have h2 : (d.decode (d.encode (.number sg m e))).isInfinity = false := by
          rcases hok with h | h
          · simp [Ieee.Datum.isInfinity] at h
          · exact h
        simp [Conv.floatToFloat, hsd, hd, h2]
    · simp only [Bool.false_eq_true, if_false]
      exact FR_of (lt_of_wf (encode_wf d (s.decode x)))

end Go.Aw

set_option linter.unusedVariables false
namespace Go.Aw
open Go.RowKit (Below)

/-! ### worlds that hold the same memory -/

theorem keeps_same {w w' : World} {μ : Nat → Option Nat} {η : Hp} (h : w'.heap = w.heap) : Keeps w w' μ μ (okOf μ η) (okOf μ η) (fun i => i ∈ ([] : List Nat)) :=
  ⟨fun b hb hk => ⟨by rw [h]; exact hb, hk, by rw [h]⟩, fun _ _ => rfl, fun i b _ _ s hs => by rw [← hs]; simp [World.shape?, h]⟩

theorem HC_keep {vs : Env} {w0 w w' : World} {μ : Nat → Option Nat} {η : Hp} (h : HC vs w0 μ η w) (hb : Bel vs w0 w') (he : w'.heap = w.heap) : HC vs w0 μ η w' := by
  have hk := keeps_same (μ := μ) (η := η) he
  refine ⟨h.base, hb, fun i B hB => ?_, h.inj⟩
  have := h.blk i B hB
  cases B with
  | sl e c =>
    obtain ⟨h0, h⟩ := this
    refine ⟨h0, Or.imp (fun x => x) ?_ h⟩
    rintro ⟨b, cs, h1, h2, h3, h4, h5⟩
    exact ⟨b, cs, h1, h2, by rw [he]; exact h3, h4, TRl.mono hk.treeF _ _ h5⟩
  | box e l =>
    obtain ⟨b, cs, h1, h2, h3, h4⟩ := this
    exact ⟨b, cs, h1, h2, by rw [he]; exact h3, VRl.mono hk _ _ (by simp) h4⟩
  | nest e L vis rem =>
    refine Or.imp (fun x => x) ?_ this
    rintro ⟨b, cs, h1, h2, h3, h0, h4⟩
    exact ⟨b, cs, h1, h2, by rw [he]; exact h3, h0, nest_mono hk (fun _ h => h) (fun i _ hg => by simp at hg) refs_idsN h4⟩

section
variable {P : Program} {o : Oper} {F : List Nat} {ρ : Fr} {η : Hp}

/-- an operation that yields a value and leaves memory alone -/
theorem qrun_val {v : AV} (h : ∀ (vs : Env) (w0 : World) (μ : Nat → Option Nat) (η' : Hp) (a : Act) (w : World), (∀ i ∈ F, η' i = η i) → HC vs w0 μ η' w →
      (∀ x ∈ o.op.operands, VR vs w μ (okOf μ η') (evA ρ x) (a.eval x)) → ∃ y n, (execOp a.eval o).run P w = .ok (.value y) { w with drawn := n } ∧ VR vs w μ (okOf μ η') v y) :
    QRun P o F [] ρ η v (lkH []) := by
  intro vs w0 μ η' a w Q K h1 h2 h3 h4
  obtain ⟨y, n, hr, hv⟩ := h vs w0 μ η' a w h1 h2 h3
  have e : hpS [] (lkH []) η' = η' := hpS_nil η'
  have hk := keeps_same (μ := μ) (η := η') (w := w) (w' := { w with drawn := n }) rfl
  unfold Oper.wp
  rw [hr, Oper.upon_value]
  refine h4 y μ _ ?_ ?_ ?_
  · rw [e]; exact HC_keep h2 ⟨h2.below.os, h2.below.tape, h2.below.output, h2.below.size, h2.below.block, h2.below.shape⟩ rfl
  · rw [e]; exact hk
  · rw [e]; exact VR.mono hk _ _ (by simp) hv

/-- .. of which all is known -/
theorem qrun_v {y : Value} (h : ∀ (vs : Env) (w0 : World) (μ : Nat → Option Nat) (η' : Hp) (a : Act) (w : World), (∀ i ∈ F, η' i = η i) → HC vs w0 μ η' w →
      (∀ x ∈ o.op.operands, VR vs w μ (okOf μ η') (evA ρ x) (a.eval x)) → (execOp a.eval o).run P w = .ok (.value y) w) : QRun P o F [] ρ η (.t (.v y)) (lkH []) :=
  qrun_val fun vs w0 μ η' a w h1 h2 h3 => ⟨y, w.drawn, h vs w0 μ η' a w h1 h2 h3, by rw [VR, TR]⟩

theorem q_move (x : Operand) (ho : o.op = .move x ∨ o.op = .assign x) : QRun P o F [] ρ η (evA ρ x) (lkH []) := by
  refine qrun_val fun vs w0 μ η' a w h1 h2 h3 => ⟨a.eval x, w.drawn, ?_, h3 x ?_⟩
  · rcases ho with ho | ho <;> simp [execOp, ho]
  · rcases ho with ho | ho <;> simp [ho, Op.operands]

theorem q_pick {c x y : Operand} {b : Bool} (ho : o.op = .pick c x y) (hc : evA ρ c = .t (.v (.bool b))) : QRun P o F [] ρ η (bif b then evA ρ x else evA ρ y) (lkH []) := by
  refine qrun_val fun vs w0 μ η' a w h1 h2 h3 => ?_
  have hc' := h3 c (by simp [ho, Op.operands])
  rw [hc, VR, TR] at hc'
  refine ⟨if b then a.eval x else a.eval y, w.drawn, by simp [execOp, ho, hc', asBool], ?_⟩
  cases b
  · exact h3 y (by simp [ho, Op.operands])
  · exact h3 x (by simp [ho, Op.operands])

theorem q_not {t : TypeId} {x : Operand} {b : Bool} (ho : o.op = .unOp .not t x) (hx : evA ρ x = .t (.v (.bool b))) : QRun P o F [] ρ η (.t (.v (.bool (!b)))) (lkH []) := by
  refine qrun_v fun vs w0 μ η' a w h1 h2 h3 => ?_
  have hx' := h3 x (by simp [ho, Op.operands])
  rw [hx, VR, TR] at hx'
  simp [execOp, ho, hx', Op.unary]

theorem q_extract {x : Operand} {l : List AV} {i : Nat} {v : AV} (ho : o.op = .extract x i) (hx : evA ρ x = .tup l) (hi : l[i]? = some v) : QRun P o F [] ρ η v (lkH []) := by
  refine qrun_val fun vs w0 μ η' a w h1 h2 h3 => ?_
  have hx' := h3 x (by simp [ho, Op.operands])
  rw [hx, VR] at hx'
  obtain ⟨xs, hxs, hr⟩ := hx'
  obtain ⟨y, hy, hv⟩ := ((VRl_iff ..).1 hr).2 i v hi
  have hy' : xs[i]? = some y := by simpa using hy
  exact ⟨y, w.drawn, by simp [execOp, ho, hxs, Instr.extract, hy'], hv⟩

/-! integers -/
theorem q_iarith {op : BinOp} {t u : TypeId} {x y : Operand} {k : IntKind} {m n : Int} (ho : o.op = .binOp op t x y u) (hop : op = .add ∨ op = .sub ∨ op = .mul)
    (hx : evA ρ x = .t (.v (.int k m))) (hy : evA ρ y = .t (.v (.int k n))) :
    QRun P o F [] ρ η (.t (.v (.int k (k.wrap (match op with | .add => m + n | .sub => m - n | _ => m * n))))) (lkH []) := by
  refine qrun_v fun vs w0 μ η' a w h1 h2 h3 => ?_
  have hx' := h3 x (by simp [ho, Op.operands])
  have hy' := h3 y (by simp [ho, Op.operands])
  rw [hx, VR, TR] at hx'; rw [hy, VR, TR] at hy'
  rcases hop with rfl | rfl | rfl <;> simp [execOp, ho, hx', hy', eqGuard, binOp, Op.intArith]

theorem wrap_in {m : Int} (h : -9223372036854775808 ≤ m ∧ m ≤ 9223372036854775807) : IntKind.i64.wrap m = m := IntWalk.i64_in m h

theorem q_add {t u : TypeId} {x y : Operand} {m n : Int} (ho : o.op = .binOp .add t x y u)
    (hx : evA ρ x = .t (.v (.int .i64 m))) (hy : evA ρ y = .t (.v (.int .i64 n))) (h : -9223372036854775808 ≤ m + n ∧ m + n ≤ 9223372036854775807) :
    QRun P o F [] ρ η (.t (.v (.int .i64 (m + n)))) (lkH []) := by
  have := q_iarith (P := P) (F := F) (η := η) ho (.inl rfl) hx hy
  rwa [wrap_in h] at this
theorem q_sub {t u : TypeId} {x y : Operand} {m n : Int} (ho : o.op = .binOp .sub t x y u)
    (hx : evA ρ x = .t (.v (.int .i64 m))) (hy : evA ρ y = .t (.v (.int .i64 n))) (h : -9223372036854775808 ≤ m - n ∧ m - n ≤ 9223372036854775807) :
    QRun P o F [] ρ η (.t (.v (.int .i64 (m - n)))) (lkH []) := by
  have := q_iarith (P := P) (F := F) (η := η) ho (.inr (.inl rfl)) hx hy
  rwa [wrap_in h] at this
theorem q_mul {t u : TypeId} {x y : Operand} {m n : Int} (ho : o.op = .binOp .mul t x y u)
    (hx : evA ρ x = .t (.v (.int .i64 m))) (hy : evA ρ y = .t (.v (.int .i64 n))) (h : -9223372036854775808 ≤ m * n ∧ m * n ≤ 9223372036854775807) :
    QRun P o F [] ρ η (.t (.v (.int .i64 (m * n)))) (lkH []) := by
  have := q_iarith (P := P) (F := F) (η := η) ho (.inr (.inr rfl)) hx hy
  rwa [wrap_in h] at this

theorem q_rem {t u : TypeId} {x y : Operand} {m n : Int} (ho : o.op = .binOp .rem t x y u)
    (hx : evA ρ x = .t (.v (.int .i64 m))) (hy : evA ρ y = .t (.v (.int .i64 n))) (hm : 0 ≤ m) (hn : 1 ≤ n) :
    QRun P o F [] ρ η (.t (.v (.int .i64 (m % n)))) (lkH []) := by
  refine qrun_v fun vs w0 μ η' a w h1 h2 h3 => ?_
  have hx' := h3 x (by simp [ho, Op.operands])
  have hy' := h3 y (by simp [ho, Op.operands])
  rw [hx, VR, TR] at hx'; rw [hy, VR, TR] at hy'
  have hd : m.tmod n = m % n := Int.tmod_eq_emod_of_nonneg hm
  have hn0 : n ≠ 0 := by omega
  simp [execOp, ho, hx', hy', eqGuard, binOp, Op.intDiv, hn0, hd]

def icmp (op : BinOp) (m n : Int) : Bool := match op with
  | .eql => m == n
  | .neq => m != n
  | .lss => decide (m < n)
  | .leq => decide (m ≤ n)
  | .gtr => decide (n < m)
  | _ => decide (n ≤ m)
def cmpOp : BinOp → Bool
  | .eql | .neq | .lss | .leq | .gtr | .geq => true
  | _ => false
theorem q_icmp {op : BinOp} {t u : TypeId} {x y : Operand} {k : IntKind} {m n : Int} (ho : o.op = .binOp op t x y u) (hop : cmpOp op = true)
    (hx : evA ρ x = .t (.v (.int k m))) (hy : evA ρ y = .t (.v (.int k n))) : QRun P o F [] ρ η (.t (.v (.bool (icmp op m n)))) (lkH []) := by
  refine qrun_v fun vs w0 μ η' a w h1 h2 h3 => ?_
  have hx' := h3 x (by simp [ho, Op.operands])
  have hy' := h3 y (by simp [ho, Op.operands])
  rw [hx, VR, TR] at hx'; rw [hy, VR, TR] at hy'
  cases op <;> simp only [cmpOp, Bool.false_eq_true] at hop <;> simp [execOp, ho, hx', hy', eqGuard, binOp, Op.intCmp, icmp]

/-! floats -/
theorem q_farith {op : BinOp} {t u : TypeId} {x y : Operand} {k : FloatKind} {c d : Nat} (ho : o.op = .binOp op t x y u) (hop : op = .add ∨ op = .sub ∨ op = .mul ∨ op = .quo)
    (hx : evA ρ x = .t (.f k c)) (hy : evA ρ y = .t (.f k d)) : QRun P o F [] ρ η (.t (.f k (fop op k c d))) (lkH []) := by
  refine qrun_val fun vs w0 μ η' a w h1 h2 h3 => ?_
  have hx' := h3 x (by simp [ho, Op.operands])
  have hy' := h3 y (by simp [ho, Op.operands])
  rw [hx, VR, TR] at hx'; rw [hy, VR, TR] at hy'
  obtain ⟨p, hp, hp'⟩ := hx'
  obtain ⟨q, hq, hq'⟩ := hy'
  obtain ⟨r, n, hr, hf⟩ := run_farith (P := P) (w := w) hop (t := t) hp' hq'
  refine ⟨_, n, ?_, by rw [VR, TR]; exact ⟨r, rfl, hf⟩⟩
  rcases hop with rfl | rfl | rfl | rfl <;> simp [execOp, ho, hp, hq, eqGuard, hr]
theorem q_fcmp {op : BinOp} {t u : TypeId} {x y : Operand} {k : FloatKind} {c d : Nat} (ho : o.op = .binOp op t x y u) (hop : cmpOp op = true)
    (hx : evA ρ x = .t (.f k c)) (hy : evA ρ y = .t (.f k d)) : QRun P o F [] ρ η (.t (.v (.bool (fcmp op k c d)))) (lkH []) := by
  refine qrun_v fun vs w0 μ η' a w h1 h2 h3 => ?_
  have hx' := h3 x (by simp [ho, Op.operands])
  have hy' := h3 y (by simp [ho, Op.operands])
  rw [hx, VR, TR] at hx'; rw [hy, VR, TR] at hy'
  obtain ⟨p, hp, hp'⟩ := hx'
  obtain ⟨q, hq, hq'⟩ := hy'
  have hop' : op = .eql ∨ op = .neq ∨ op = .lss ∨ op = .leq ∨ op = .gtr ∨ op = .geq := by cases op <;> simp [cmpOp] at hop ⊢
  have hr := run_fcmp (P := P) (w := w) hop' (t := t) hp' hq'
  rcases hop' with rfl | rfl | rfl | rfl | rfl | rfl <;> simp [execOp, ho, hp, hq, eqGuard, hr]

def fneg (k : FloatKind) (c : Nat) : Nat := if isNan k c then nan0 k else canon k (Op.negFloat k c)

end
end Go.Aw

set_option linter.unusedVariables false
namespace Go.Aw
open Go.RowKit (Below)

/-! ### types -/

inductive TI where
  | b | i (k : IntKind) | f (k : FloatKind) | sl (e : TypeId) | st (fs : List (Nat × Nat)) | ptr (e : TypeId) | fn | oth
structure TE where
  d : TI
  size : Nat
  bytes : Nat
  z : Value
def descTI (P : Program) : TypeDesc → TI
  | .bool => .b
  | .int k => .i k
  | .float k => .f k
  | .slice e => .sl e
  | .struct fs => .st (fs.toList.map fun f => (f.offset, ((P.info? f.type).map (·.size)).getD 0))
  | .pointer e => .ptr e
  | .func .. => .fn
  | _ => .oth
def TyR (P : Program) (t : TypeId) (e : TE) : Prop :=
  (P.underlying t).map (descTI P) = some e.d ∧ (P.info? t).map (fun i => (i.size, i.bytes, i.zero)) = some (e.size, e.bytes, some e.z)
abbrev Ty := List (TypeId × TE)
def Ty.get (ty : Ty) (t : TypeId) : Option TE := match ty with
  | [] => none
  | (u, e) :: r => bif Nat.beq t u then some e else Ty.get r t
def TyOk (P : Program) : Ty → Prop
  | [] => True
  | (t, e) :: r => TyR P t e ∧ TyOk P r
theorem TyOk.get {P : Program} : ∀ {ty : Ty} (h : TyOk P ty) {t : TypeId} {e : TE}, ty.get t = some e → TyR P t e
  | [], _, _, _, hg => by simp [Ty.get] at hg
  | (u, e') :: r, h, t, e, hg => by
    simp only [Ty.get] at hg
    cases hb : Nat.beq t u with
    | true => simp only [hb, cond_true, Option.some.injEq] at hg; subst hg; rw [Nat.eq_of_beq_eq_true hb]; exact h.1
    | false => simp only [hb, cond_false] at hg; exact TyOk.get h.2 hg

section
variable {P : Program} {t : TypeId} {e : TE} {w : World}
theorem TyR.info (h : TyR P t e) : ∃ i, P.info? t = some i ∧ i.size = e.size ∧ i.bytes = e.bytes ∧ i.zero = some e.z := by
  obtain ⟨_, h⟩ := h
  cases hi : P.info? t with
  | none => simp [hi] at h
  | some i => simp [hi] at h; exact ⟨i, rfl, h⟩
theorem TyR.desc (h : TyR P t e) : ∃ d, P.underlying t = some d ∧ descTI P d = e.d := by
  obtain ⟨h, _⟩ := h
  cases hu : P.underlying t with
  | none => simp [hu] at h
  | some d => simp [hu] at h; exact ⟨d, rfl, h⟩
theorem TyR.sizeOf (h : TyR P t e) : (sizeOf t).run P w = .ok e.size w := by
  obtain ⟨i, hi, h1, _⟩ := h.info
  simp [Go.sizeOf, typeInfo, hi, h1]
theorem TyR.zero (h : TyR P t e) : (zeroValue t).run P w = .ok e.z w := by
  obtain ⟨i, hi, _, _, h3⟩ := h.info
  simp [zeroValue, typeInfo, hi, h3]
def TI.agg : TI → Bool
  | .st _ => true
  | _ => false
theorem TyR.isAgg (h : TyR P t e) (ho : (match e.d with | .oth => false | _ => true) = true) : (isAgg t).run P w = .ok e.d.agg w := by
  obtain ⟨d, hd, h1⟩ := h.desc
  rw [← h1] at ho ⊢
  cases d <;> simp [Go.isAgg, run_underlying hd, descTI, TI.agg] at ho ⊢
theorem TyR.slice {u : TypeId} (h : TyR P t e) (hd : e.d = .sl u) : P.underlying t = some (.slice u) := by
  obtain ⟨d, hu, h1⟩ := h.desc
  rw [hd] at h1
  cases d <;> simp [descTI] at h1
  rw [hu, h1]
theorem TyR.strct {fs : List (Nat × Nat)} (h : TyR P t e) (hd : e.d = .st fs) : ∃ fields : Array Field, P.underlying t = some (.struct fields) ∧ (fields.toList.map fun f => (f.offset, ((P.info? f.type).map (·.size)).getD 0)) = fs := by
  obtain ⟨d, hu, h1⟩ := h.desc
  rw [hd] at h1
  cases d <;> simp [descTI] at h1
  exact ⟨_, hu, by simpa [descTI] using h1⟩
end

/-! ### how the heap goes on -/

theorem HC_step {vs : Env} {w0 w w' : World} {μ μ' : Nat → Option Nat} {η ch : Hp} {S : List Nat} (hc : HC vs w0 μ η w)
    (hk : Keeps w w' μ μ' (okOf μ η) (okOf μ' (hpS S ch η)) (· ∈ S)) (hb : Bel vs w0 w')
    (hold : ∀ i B, η i = some B → i ∉ S → ch i = none → ∀ b, μ i = some b → w'.heap[b]? = w.heap[b]?)
    (hch : ∀ i B, ch i = some B → BlkR vs w0.heap.size w' μ' (okOf μ' (hpS S ch η)) i B)
    (hinj : ∀ i j b, (hpS S ch η i).isSome → (hpS S ch η j).isSome → μ' i = some b → μ' j = some b → i = j) : HC vs w0 μ' (hpS S ch η) w' := by
  refine ⟨hc.base, hb, fun i B hB => ?_, hinj⟩
  cases hci : ch i with
  | some B' =>
    have : B' = B := by simpa [hpS, hci] using hB
    subst this; exact hch i B' hci
  | none =>
    by_cases hS : i ∈ S
    · simp [hpS, hci, hS] at hB
    · have hB' : (η i).map (scrubB S) = some B := by simpa [hpS, hci, hS] using hB
      cases hη : η i with
      | none => simp [hη] at hB'
      | some B0 =>
        simp only [hη, Option.map_some, Option.some.injEq] at hB'
        have h0 := hc.blk i B0 hη
        have hid : μ' i = μ i := hk.id i hS
        cases B0 with
        | sl e c =>
          simp only [scrubB] at hB'; subst hB'
          obtain ⟨h1, h2⟩ := h0
          refine ⟨h1, ?_⟩
          rcases h2 with h2 | ⟨b, cs, g1, g2, g3, g4, g5⟩
          · exact .inl ⟨by rw [hid]; exact h2.1, h2.2⟩
          · exact .inr ⟨b, cs, by rw [hid]; exact g1, g2, by rw [hold i _ hη hS hci b g1]; exact g3, g4, TRl.mono hk.treeF _ _ g5⟩
        | box e l =>
          simp only [scrubB] at hB'; subst hB'
          obtain ⟨b, cs, g1, g2, g3, g4⟩ := h0
          exact ⟨b, cs, by rw [hid]; exact g1, g2, by rw [hold i _ hη hS hci b g1]; exact g3, VRl.mono hk _ _ (scrub_refsL S l) (VRl.scrub _ _ g4)⟩
        | nest e L vis rem =>
          simp only [scrubB] at hB'; subst hB'
          rcases h0 with ⟨g1, g2⟩ | ⟨b, cs, g1, g2, g3, g0, g4⟩
          · exact .inl ⟨by rw [hid]; exact g1, g2⟩
          refine .inr ⟨b, cs, by rw [hid]; exact g1, g2, by rw [hold i _ hη hS hci b g1]; exact g3, g0, nest_mono hk (fun i hi => ?_) (fun i _ hg => ?_) refs_idsN g4⟩
          · simp only [hitN, Bool.or_eq_true] at hi ⊢
            rcases hi with hi | hi
            · exact .inl (.inl hi)
            · exact .inr hi
          · have hm : S.contains i = true := by simpa using hg
            have hb : Nat.ble bigN i = !Nat.blt i bigN := by
              cases h1 : Nat.ble bigN i with
              | true =>
                have := Nat.le_of_ble_eq_true h1
                cases h2 : Nat.blt i bigN with
                | true => have := Nat.le_of_ble_eq_true h2; omega
                | false => rfl
              | false =>
                cases h2 : Nat.blt i bigN with
                | true => rfl
                | false =>
                  have h3 : ¬ bigN ≤ i := fun h => by rw [Nat.ble_eq_true_of_le h] at h1; cases h1
                  have h4 : ¬ i + 1 ≤ bigN := fun h => by rw [show Nat.blt i bigN = true from Nat.ble_eq_true_of_le h] at h2; cases h2
                  omega
            simp only [hitN, hm, hb]
            cases rem i <;> cases Nat.blt i bigN <;> cases vis.contains i <;> rfl

theorem blk_lt {vs : Env} {base : Nat} {w : World} {μ : Nat → Option Nat} {ok : Nat → Prop} {i : Nat} {B : Blk} (h : BlkR vs base w μ ok i B) {b : Nat} (hb : μ i = some b) : (base ≤ b ∨ vs.loan b) ∧ b < w.heap.size := by
  have key : ∀ b' cs e, w.heap[b']? = some (.cells cs e (0, 0)) → b' < w.heap.size := fun b' cs e h => (Array.getElem?_eq_some_iff.1 h).1
  cases B with
  | sl e c =>
    obtain ⟨_, h | ⟨b', cs, g1, g2, g3, _⟩⟩ := h
    · rw [h.1] at hb; cases hb
    · rw [g1] at hb; cases hb; exact ⟨g2, key _ _ _ g3⟩
  | box e l =>
    obtain ⟨b', cs, g1, g2, g3, _⟩ := h
    rw [g1] at hb; cases hb; exact ⟨g2, key _ _ _ g3⟩
  | nest e L vis rem =>
    obtain h | ⟨b', cs, g1, g2, g3, _⟩ := h
    · rw [h.1] at hb; cases hb
    rw [g1] at hb; cases hb; exact ⟨g2, key _ _ _ g3⟩

def updM (μ : Nat → Option Nat) (i : Nat) (v : Option Nat) : Nat → Option Nat := fun j => if j = i then v else μ j

/-- a block that the world has grown by (at its end, or somewhere behind what was), known to the symbolic heap as 'i' -/
theorem HC_new {vs : Env} {w0 w w' : World} {μ : Nat → Option Nat} {η : Hp} {i b : Nat} {B : Blk} (hc : HC vs w0 μ η w) (hbel : Below w.heap.size w w') (hb : w.heap.size ≤ b)
    (hB : Keeps w w' μ (updM μ i (some b)) (okOf μ η) (okOf (updM μ i (some b)) (hpS [i] (lkH [(i, B)]) η)) (· ∈ [i]) →
      BlkR vs w0.heap.size w' (updM μ i (some b)) (okOf (updM μ i (some b)) (hpS [i] (lkH [(i, B)]) η)) i B) :
    HC vs w0 (updM μ i (some b)) (hpS [i] (lkH [(i, B)]) η) w' ∧ Keeps w w' μ (updM μ i (some b)) (okOf μ η) (okOf (updM μ i (some b)) (hpS [i] (lkH [(i, B)]) η)) (· ∈ [i]) := by
  have e1 : hpS [i] (lkH [(i, B)]) η i = some B := by simp [hpS, lkH]
  have e2 : ∀ j, j ≠ i → hpS [i] (lkH [(i, B)]) η j = (η j).map (scrubB [i]) := fun j hj => by
    have hb : Nat.beq j i = false := by
      cases h : Nat.beq j i with
      | true => exact absurd (Nat.eq_of_beq_eq_true h) hj
      | false => rfl
    simp [hpS, lkH, hb, hj]
  have hlt : ∀ j, (η j).isSome → ∀ c, μ j = some c → c < w.heap.size := fun j hj c hm => by
    obtain ⟨B', hB'⟩ := Option.isSome_iff_exists.1 hj
    exact (blk_lt (hc.blk j B' hB') hm).2
  have hk : Keeps w w' μ (updM μ i (some b)) (okOf μ η) (okOf (updM μ i (some b)) (hpS [i] (lkH [(i, B)]) η)) (· ∈ [i]) := by
    refine ⟨fun c hc' hok => ⟨by have := hbel.size; omega, fun j hj => ?_, hbel.block c hc'⟩, fun j hj => ?_, fun j c hj hm s hs => ?_⟩
    · by_cases hji : j = i
      · subst hji; simp only [updM, if_true]; intro h; cases h; omega
      · rw [e2 j hji, Option.isSome_map] at hj
        simp only [updM, if_neg hji]; exact hok j hj
    · simp only [List.mem_singleton] at hj; simp [updM, hj]
    · have hc' : c < w.heap.size := by
        rcases Nat.lt_or_ge c w.heap.size with h | h
        · exact h
        · simp [World.shape?, Array.getElem?_eq_none h] at hs
      rw [← hs]; exact shape?_of_block (hbel.block c hc')
  refine ⟨HC_step hc hk ?_ (fun j B' hj hS _ c hm => hbel.block c (hlt j (by rw [hj]; rfl) c hm)) (fun j B' hj => ?_) (fun j l c hj hl h1 h2 => ?_), hk⟩
  · exact hc.below.grow hbel
  · have := lkH_mem hj
    simp at this; obtain ⟨rfl, rfl⟩ := this
    exact hB hk
  · by_cases hji : j = i
    · by_cases hli : l = i
      · rw [hji, hli]
      · subst hji
        simp only [updM, if_true] at h1; cases h1
        simp only [updM, if_neg hli] at h2
        rw [e2 l hli, Option.isSome_map] at hl
        have := hlt l hl _ h2; omega
    · by_cases hli : l = i
      · subst hli
        simp only [updM, if_true] at h2; cases h2
        simp only [updM, if_neg hji] at h1
        rw [e2 j hji, Option.isSome_map] at hj
        have := hlt j hj _ h1; omega
      · rw [e2 j hji, Option.isSome_map] at hj
        rw [e2 l hli, Option.isSome_map] at hl
        simp only [updM, if_neg hji] at h1; simp only [updM, if_neg hli] at h2
        exact hc.inj j l c hj hl h1 h2

/-! ### the rules -/

/-- a value that reads as data; 'true': what it reads may lie in memory that was there before the call -/
def AV.tr : AV → Option (Bool × T)
  | .t u => some (false, u)
  | .old u => some (true, u)
  | .arg _ u => some (true, u)
  | .argc _ _ u => some (true, u)
  | _ => none
def okB (vs : Env) (ok : Nat → Prop) : Bool → Nat → Prop
  | true => ok
  | false => okF vs ok
theorem okB_ok {vs : Env} {ok : Nat → Prop} {d : Bool} {b : Nat} (h : okB vs ok d b) : ok b := by cases d; exact h.1; exact h
theorem TR.weak {w : World} {ok ok' : Nat → Prop} (h : ∀ b, ok b → ok' b) {t : T} {y : Value} (ht : TR w ok t y) : TR w ok' t y := TR.mono (fun b hb hk => ⟨hb, h b hk, rfl⟩) t y ht
theorem VR_tr {vs : Env} {w : World} {μ : Nat → Option Nat} {ok : Nat → Prop} {v : AV} {d : Bool} {t : T} {y : Value} (h : VR vs w μ ok v y) (ht : v.tr = some (d, t)) : TR w (okB vs ok d) t y := by
  cases v <;> simp only [AV.tr, Option.some.injEq, reduceCtorEq, Prod.mk.injEq] at ht <;> obtain ⟨rfl, rfl⟩ := ht <;> rw [VR] at h
  · exact h
  · exact h
  · exact TR.weak (fun b hb => hb.1) h.2
  · exact TR.weak (fun b hb => hb.1) h.2
theorem VR_tree {vs : Env} {w : World} {μ : Nat → Option Nat} {ok : Nat → Prop} {v : AV} {d : Bool} {t : T} {y : Value} (h : VR vs w μ ok v y) (ht : v.tr = some (d, t)) : TR w ok t y :=
  TR.weak (fun b hb => okB_ok hb) (VR_tr h ht)
/-- .. such a value -/
def AV.own? : AV → Option (Nat × Nat × Nat)
  | .own i o n => some (i, o, n)
  | .argo _ i o n => some (i, o, n)
  | _ => none
theorem VR_own {vs : Env} {w : World} {μ : Nat → Option Nat} {ok : Nat → Prop} {v : AV} {i o n : Nat} {y : Value} (h : VR vs w μ ok v y) (hv : v.own? = some (i, o, n)) : VR vs w μ ok (.own i o n) y := by
  cases v <;> simp only [AV.own?, Option.some.injEq, reduceCtorEq, Prod.mk.injEq] at hv <;> obtain ⟨rfl, rfl, rfl⟩ := hv
  · exact h
  · rw [VR] at *; exact h.2
def mkT (d : Bool) (u : T) : AV := match u with
  | .f k c => .t (.f k c)
  | .v x => .t (.v x)
  | u => bif d then .old u else .t u
theorem mkT_VR {vs : Env} {w : World} {μ : Nat → Option Nat} {ok : Nat → Prop} {d : Bool} {t : T} {y : Value} (h : TR w (okB vs ok d) t y) : VR vs w μ ok (mkT d t) y := by
  cases t with
  | f k c => simp only [mkT]; rw [VR]; rw [TR] at *; exact h
  | v x => simp only [mkT]; rw [VR]; rw [TR] at *; exact h
  | _ => cases d <;> simp only [mkT, cond_true, cond_false] <;> rw [VR] <;> exact h

section
variable {P : Program} {o : Oper} {F : List Nat} {ρ : Fr} {η : Hp} {ty : Ty}

/-! len -/
theorem q_len_tree {t : TypeId} {e : TE} {u : TypeId} {x : Operand} {c : T} (hT : TyOk P ty) (ho : o.op = .call { callee := .builtin .len, args := #[x], argTypes := #[t] })
    (ht : ty.get t = some e) (hd : e.d = .sl u) {dd : Bool} (hx : (evA ρ x).tr = some (dd, c)) (hc : c.isSl = true) : QRun P o F [] ρ η (.t (.v (.int .i64 c.len))) (lkH []) := by
  refine qrun_v fun vs w0 μ η' a w h1 h2 h3 => ?_
  have hx' := VR_tree (h3 x (by simp [ho, Op.operands, Call.operands])) hx
  obtain ⟨a0, n, cp, hy, hn, _⟩ := (TR_sl w _ c hc _).1 hx'
  have hu := (hT.get ht).slice hd
  simp [execOp, ho, resolve, invoke, builtin, Builtin.len_, hy, run_underlying hu, goInt, hn]
theorem q_len_own {t : TypeId} {e : TE} {u : TypeId} {x : Operand} {i off n : Nat} (hT : TyOk P ty) (ho : o.op = .call { callee := .builtin .len, args := #[x], argTypes := #[t] })
    (ht : ty.get t = some e) (hd : e.d = .sl u) (hx : (evA ρ x).own? = some (i, off, n)) : QRun P o F [] ρ η (.t (.v (.int .i64 n))) (lkH []) := by
  refine qrun_v fun vs w0 μ η' a w h1 h2 h3 => ?_
  have hx' := VR_own (h3 x (by simp [ho, Op.operands, Call.operands])) hx
  rw [VR] at hx'
  have hu := (hT.get ht).slice hd
  rcases hx' with ⟨_, _, rfl, hy⟩ | ⟨b, cap, e0, m, _, hy, _⟩ <;>
    simp [execOp, ho, resolve, invoke, builtin, Builtin.len_, hy, run_underlying hu, goInt]
/-! addresses -/
theorem add_one (b off k : Nat) : (⟨b, off, none⟩ : Addr).add (k * 1) = ⟨b, off + k, none⟩ := by
  unfold Addr.add
  split
  · rename_i h; have : k = 0 := by omega
    subst this; rfl
  · simp

theorem add1 (b off k : Nat) : (⟨b, off, none⟩ : Addr).add k = ⟨b, off + k, none⟩ := by have := add_one b off k; simpa using this

theorem q_idx_tree {t u : TypeId} {e eu : TE} {x y : Operand} {c : T} {k : IntKind} {i : Int} (j : Nat) (hT : TyOk P ty) (ho : o.op = .indexAddr t x y)
    (ht : ty.get t = some e) (hd : e.d = .sl u) (hu : ty.get u = some eu) (hs : eu.size = 1) {dd : Bool} (hx : (evA ρ x).tr = some (dd, c)) (hc : c.isSl = true)
    (hy : evA ρ y = .t (.v (.int k i))) (hj : i = (j : Int)) (hlt : j < c.len) : QRun P o F [] ρ η (mkT dd (.ref [c.get j])) (lkH []) := by
  refine qrun_val fun vs w0 μ η' a w h1 h2 h3 => ?_
  have hx' := VR_tr (h3 x (by simp [ho, Op.operands])) hx
  have hy' := h3 y (by simp [ho, Op.operands])
  rw [hy, VR, TR] at hy'
  obtain ⟨a0, n, cp, hv, hn, _, hcell⟩ := (TR_sl w _ c hc _).1 hx'
  rcases hcell with h0 | ⟨b, off, ha, hb, hok, hcs⟩
  · omega
  · subst hj; subst ha
    have hus := (hT.get ht).slice hd
    have hsz := (hT.get hu).sizeOf (w := w)
    rw [hs] at hsz
    have hjn : j < n := by omega
    refine ⟨.pointer (some ⟨b, off + j, none⟩), w.drawn, ?_, ?_⟩
    · simp [execOp, ho, hv, hy', Instr.indexAt, asIntOf, run_underlying hus, hsz, hjn, add1]
    · refine mkT_VR ?_
      rw [TR]
      refine ⟨b, off + j, rfl, hb, hok, ?_⟩
      rw [TRs, TRs]
      obtain ⟨z, hz, hr⟩ := (TRs_iff ..).1 hcs j _ (T.get_elems c hc j hlt)
      exact ⟨⟨z, hz, hr⟩, trivial⟩

theorem q_idx_own {t u : TypeId} {e eu : TE} {x y : Operand} {k : IntKind} {i : Int} {id off n : Nat} (j : Nat) (hT : TyOk P ty) (ho : o.op = .indexAddr t x y)
    (ht : ty.get t = some e) (hd : e.d = .sl u) (hu : ty.get u = some eu) (hs : eu.size = 1) (hx : (evA ρ x).own? = some (id, off, n))
    (hy : evA ρ y = .t (.v (.int k i))) (hj : i = (j : Int)) (hlt : j < n) : QRun P o F [] ρ η (.bp id (off + j)) (lkH []) := by
  refine qrun_val fun vs w0 μ η' a w h1 h2 h3 => ?_
  have hx' := VR_own (h3 x (by simp [ho, Op.operands])) hx
  have hy' := h3 y (by simp [ho, Op.operands])
  rw [hy, VR, TR] at hy'
  rw [VR] at hx'
  rcases hx' with ⟨_, _, h0, _⟩ | ⟨b, cap, e0, m, hμ, hv, _⟩
  · omega
  · subst hj
    have hus := (hT.get ht).slice hd
    have hsz := (hT.get hu).sizeOf (w := w)
    rw [hs] at hsz
    refine ⟨.pointer (some ⟨b, off + j, none⟩), w.drawn, ?_, by rw [VR]; exact ⟨b, hμ, rfl⟩⟩
    simp [execOp, ho, hv, hy', Instr.indexAt, asIntOf, run_underlying hus, hsz, hlt, add1]

theorem q_nilchk_bp {x : Operand} {id off : Nat} (ho : o.op = .nilCheck x) (hx : evA ρ x = .bp id off) : QRun P o F [] ρ η (.bp id off) (lkH []) := by
  refine qrun_val fun vs w0 μ η' a w h1 h2 h3 => ?_
  have hx' := h3 x (by simp [ho, Op.operands])
  rw [hx] at hx'
  have hx2 := hx'
  rw [VR] at hx'
  obtain ⟨b, hμ, hv⟩ := hx'
  rw [hv] at hx2
  exact ⟨_, w.drawn, by simp [execOp, ho, hv], hx2⟩
theorem q_nilchk_ref {x : Operand} {l : List T} (ho : o.op = .nilCheck x) {dd : Bool} (hx : (evA ρ x).tr = some (dd, .ref l)) : QRun P o F [] ρ η (mkT dd (.ref l)) (lkH []) := by
  refine qrun_val fun vs w0 μ η' a w h1 h2 h3 => ?_
  have hx' := VR_tr (h3 x (by simp [ho, Op.operands])) hx
  have hx2 := hx'
  rw [TR] at hx'
  obtain ⟨b, off, hv, _⟩ := hx'
  rw [hv] at hx2
  exact ⟨.pointer (some ⟨b, off, none⟩), w.drawn, by simp [execOp, ho, hv], mkT_VR hx2⟩

theorem fieldAt_run {t : TypeId} {e : TE} {fs : List (Nat × Nat)} {i fo sz : Nat} (h : TyR P t e) (hd : e.d = .st fs) (hi : fs[i]? = some (fo, sz)) (hs : sz ≠ 0) (w : World) (b off : Nat) :
    (Instr.fieldAt t (.pointer (some ⟨b, off, none⟩)) i).run P w = .ok (.pointer (some ⟨b, off + fo, none⟩)) w := by
  obtain ⟨fields, hu, hf⟩ := h.strct hd
  have hi' : (fields.toList.map fun f => (f.offset, ((P.info? f.type).map (·.size)).getD 0))[i]? = some (fo, sz) := by rw [hf]; exact hi
  simp only [List.getElem?_map, Option.map_eq_some_iff, Prod.mk.injEq] at hi'
  obtain ⟨f, hfi, hfo, hsz⟩ := hi'
  have hfi' : fields[i]? = some f := by simpa using hfi
  cases hinf : P.info? f.type with
  | none => simp [hinf] at hsz; omega
  | some inf =>
    have hsz' : inf.size = sz := by simpa [hinf] using hsz
    simp [Instr.fieldAt, run_underlying hu, hfi', Instr.sureAddr, fieldPlace, sizeOf, typeInfo, hinf, hsz', hs, hfo, add1]

theorem q_fld_bp {t : TypeId} {e : TE} {fs : List (Nat × Nat)} {x : Operand} {id off i fo sz : Nat} (hT : TyOk P ty) (ho : o.op = .fieldAddr t x i)
    (ht : ty.get t = some e) (hd : e.d = .st fs) (hi : fs[i]? = some (fo, sz)) (hs : (Nat.beq sz 0) = false) (hx : evA ρ x = .bp id off) : QRun P o F [] ρ η (.bp id (off + fo)) (lkH []) := by
  refine qrun_val fun vs w0 μ η' a w h1 h2 h3 => ?_
  have hx' := h3 x (by simp [ho, Op.operands])
  rw [hx, VR] at hx'
  obtain ⟨b, hμ, hv⟩ := hx'
  have hs' : sz ≠ 0 := by intro h; subst h; simp at hs
  exact ⟨.pointer (some ⟨b, off + fo, none⟩), w.drawn, by simp [execOp, ho, hv, fieldAt_run (hT.get ht) hd hi hs'], by rw [VR]; exact ⟨b, hμ, rfl⟩⟩
theorem q_fld_ref {t : TypeId} {e : TE} {fs : List (Nat × Nat)} {x : Operand} {l : List T} {i fo sz : Nat} (hT : TyOk P ty) (ho : o.op = .fieldAddr t x i)
    (ht : ty.get t = some e) (hd : e.d = .st fs) (hi : fs[i]? = some (fo, sz)) (hs : (Nat.beq sz 0) = false) {dd : Bool} (hx : (evA ρ x).tr = some (dd, .ref l)) : QRun P o F [] ρ η (mkT dd (.ref (l.drop fo))) (lkH []) := by
  refine qrun_val fun vs w0 μ η' a w h1 h2 h3 => ?_
  have hx' := VR_tr (h3 x (by simp [ho, Op.operands])) hx
  rw [TR] at hx'
  obtain ⟨b, off, hv, hb, hok, hl⟩ := hx'
  have hs' : sz ≠ 0 := by intro h; subst h; simp at hs
  refine ⟨.pointer (some ⟨b, off + fo, none⟩), w.drawn, by simp [execOp, ho, hv, fieldAt_run (hT.get ht) hd hi hs'], ?_⟩
  refine mkT_VR ?_
  rw [TR]
  refine ⟨b, off + fo, rfl, hb, hok, (TRs_iff ..).2 fun j u hu => ?_⟩
  have := (TRs_iff ..).1 hl (fo + j) u (by simpa using hu)
  simpa [Nat.add_assoc] using this

/-! loads -/
def TI.known : TI → Bool
  | .oth => false
  | _ => true
theorem TyR.isAgg' {t : TypeId} {e : TE} {w : World} (h : TyR P t e) (ho : e.d.known = true) : (Go.isAgg t).run P w = .ok e.d.agg w := by
  refine h.isAgg ?_
  cases hd : e.d <;> simp_all [TI.known]

theorem loadVar_scalar {t : TypeId} {e : TE} {w : World} {b off : Nat} {y : Value} (h : TyR P t e) (hk : e.d.known = true) (ha : e.d.agg = false) (hc : w.cell? ⟨b, off, none⟩ = some y) :
    (loadVar t ⟨b, off, none⟩).run P w = .ok y w := by
  simp [loadVar, h.isAgg' hk, ha, hc]
theorem loadVar_agg {t : TypeId} {e : TE} {w : World} {b off : Nat} {l : List Value} (h : TyR P t e) (hk : e.d.known = true) (ha : e.d.agg = true) (hl : l.length = e.size)
    (hc : ∀ j y, l[j]? = some y → w.cell? ⟨b, off + j, none⟩ = some y) : (loadVar t ⟨b, off, none⟩).run P w = .ok (.agg l.toArray) w := by
  have hr := run_loadCells_list (P := P) w ⟨b, off, none⟩ l (fun j v hj => by rw [add1]; exact hc j v hj)
  simp [loadVar, h.isAgg' hk, ha, h.sizeOf, ← hl, hr]

theorem cell_of_block {w : World} {b : Nat} {cs : Array Value} {e : TypeId} {fz : Nat × Nat} (h : w.heap[b]? = some (.cells cs e fz)) (i : Nat) : w.cell? ⟨b, i, none⟩ = cs[i]? := by
  simp [World.cell?, h]

theorem q_load_el {t : TypeId} {e : TE} {e0 : TypeId} {c : T} {x : Operand} {id off : Nat} (hT : TyOk P ty) (ho : o.op = .load t x) (ht : ty.get t = some e) (hk : e.d.known = true) (ha : e.d.agg = false)
    (hx : evA ρ x = .bp id off) (hη : η id = some (.sl e0 c)) (hF : F.contains id = true) (hlt : off < c.len) : QRun P o F [] ρ η (.t (c.get off)) (lkH []) := by
  refine qrun_val fun vs w0 μ η' a w h1 h2 h3 => ?_
  have hx' := h3 x (by simp [ho, Op.operands])
  rw [hx, VR] at hx'
  obtain ⟨b, hμ, hv⟩ := hx'
  have hB := h2.blk id _ ((h1 id (by simpa using hF)).trans hη)
  obtain ⟨hsl, hB⟩ := hB
  rcases hB with ⟨hn, _⟩ | ⟨b', cs, hb', _, hw, hlen, hcs⟩
  · rw [hn] at hμ; cases hμ
  · rw [hb'] at hμ; cases hμ
    obtain ⟨z, hz, hr⟩ := ((TRl_iff ..).1 hcs).2 off _ (T.get_elems c hsl off hlt)
    have hz' : cs[off]? = some z := by
      rw [List.getElem?_take, if_pos hlt] at hz
      rw [← Array.getElem?_toList]; exact hz
    exact ⟨z, w.drawn, by simp [execOp, ho, hv, Instr.loadAt, Instr.sureAddr, loadVar_scalar (hT.get ht) hk ha ((cell_of_block hw off).trans hz')], by rw [VR]; exact hr⟩

theorem q_load_box {t : TypeId} {e : TE} {e0 : TypeId} {l : List AV} {v : AV} {x : Operand} {id off : Nat} (hT : TyOk P ty) (ho : o.op = .load t x) (ht : ty.get t = some e) (hk : e.d.known = true) (ha : e.d.agg = false)
    (hx : evA ρ x = .bp id off) (hη : η id = some (.box e0 l)) (hF : F.contains id = true) (hlt : l[off]? = some v) : QRun P o F [] ρ η v (lkH []) := by
  refine qrun_val fun vs w0 μ η' a w h1 h2 h3 => ?_
  have hx' := h3 x (by simp [ho, Op.operands])
  rw [hx, VR] at hx'
  obtain ⟨b, hμ, hv⟩ := hx'
  have hB := h2.blk id _ ((h1 id (by simpa using hF)).trans hη)
  obtain ⟨b', cs, hb', _, hw, hcs⟩ := hB
  rw [hb'] at hμ; cases hμ
  obtain ⟨z, hz, hr⟩ := ((VRl_iff ..).1 hcs).2 off v hlt
  have hz' : cs[off]? = some z := by rw [← Array.getElem?_toList]; exact hz
  exact ⟨z, w.drawn, by simp [execOp, ho, hv, Instr.loadAt, Instr.sureAddr, loadVar_scalar (hT.get ht) hk ha ((cell_of_block hw off).trans hz')], hr⟩

theorem q_load_boxs {t : TypeId} {e : TE} {e0 : TypeId} {l : List AV} {x : Operand} {id off : Nat} (hT : TyOk P ty) (ho : o.op = .load t x) (ht : ty.get t = some e) (hk : e.d.known = true) (ha : e.d.agg = true)
    (hx : evA ρ x = .bp id off) (hη : η id = some (.box e0 l)) (hF : F.contains id = true) (hlt : Nat.ble (off + e.size) l.length = true) : QRun P o F [] ρ η (.agg ((l.drop off).take e.size)) (lkH []) := by
  refine qrun_val fun vs w0 μ η' a w h1 h2 h3 => ?_
  have hx' := h3 x (by simp [ho, Op.operands])
  rw [hx, VR] at hx'
  obtain ⟨b, hμ, hv⟩ := hx'
  have hlt := Nat.le_of_ble_eq_true hlt
  have hB := h2.blk id _ ((h1 id (by simpa using hF)).trans hη)
  obtain ⟨b', cs, hb', _, hw, hcs⟩ := hB
  rw [hb'] at hμ; cases hμ
  obtain ⟨hlen, hcs⟩ := (VRl_iff ..).1 hcs
  have hl2 : ((cs.toList.drop off).take e.size).length = e.size := by rw [List.length_take, List.length_drop, ← hlen]; omega
  refine ⟨.agg ((cs.toList.drop off).take e.size).toArray, w.drawn, ?_, ?_⟩
  · have hr := loadVar_agg (P := P) (w := w) (b := b) (off := off) (hT.get ht) hk ha hl2 (fun j y hj => by
      rw [cell_of_block hw, ← Array.getElem?_toList]
      rw [List.getElem?_take] at hj
      split at hj
      · simpa using hj
      · cases hj)
    simp [execOp, ho, hv, Instr.loadAt, Instr.sureAddr, hr]
  · rw [VR]
    refine ⟨_, rfl, (VRl_iff ..).2 ⟨by simp only []; rw [hl2, List.length_take, List.length_drop]; omega, fun i u hu => ?_⟩⟩
    rw [List.getElem?_take] at hu
    split at hu
    · rename_i hi
      rw [List.getElem?_drop] at hu
      obtain ⟨z, hz, hr⟩ := hcs _ _ hu
      exact ⟨z, by simp only [List.getElem?_take, hi, if_true, List.getElem?_drop]; exact hz, hr⟩
    · cases hu

theorem q_load_ref {t : TypeId} {e : TE} {c : T} {r : List T} {x : Operand} (hT : TyOk P ty) (ho : o.op = .load t x) (ht : ty.get t = some e) (hk : e.d.known = true) (ha : e.d.agg = false)
    {dd : Bool} (hx : (evA ρ x).tr = some (dd, .ref (c :: r))) : QRun P o F [] ρ η (mkT dd c) (lkH []) := by
  refine qrun_val fun vs w0 μ η' a w h1 h2 h3 => ?_
  have hx' := VR_tr (h3 x (by simp [ho, Op.operands])) hx
  rw [TR] at hx'
  obtain ⟨b, off, hv, _, _, hl⟩ := hx'
  rw [TRs] at hl
  obtain ⟨⟨z, hz, hr⟩, _⟩ := hl
  exact ⟨z, w.drawn, by simp [execOp, ho, hv, Instr.loadAt, Instr.sureAddr, loadVar_scalar (hT.get ht) hk ha hz], mkT_VR hr⟩

theorem q_load_refs {t : TypeId} {e : TE} {l : List T} {x : Operand} (hT : TyOk P ty) (ho : o.op = .load t x) (ht : ty.get t = some e) (hk : e.d.known = true) (ha : e.d.agg = true)
    {dd : Bool} (hx : (evA ρ x).tr = some (dd, .ref l)) (hlt : Nat.ble e.size l.length = true) : QRun P o F [] ρ η (.agg ((l.take e.size).map (mkT dd))) (lkH []) := by
  refine qrun_val fun vs w0 μ η' a w h1 h2 h3 => ?_
  have hx' := VR_tr (h3 x (by simp [ho, Op.operands])) hx
  have hlt := Nat.le_of_ble_eq_true hlt
  rw [TR] at hx'
  obtain ⟨b, off, hv, _, _, hl⟩ := hx'
  have hl := (TRs_iff ..).1 hl
  have hall : ∀ n, n ≤ l.length → ∃ ys : List Value, ys.length = n ∧ ∀ j, j < n → ∃ z u, ys[j]? = some z ∧ l[j]? = some u ∧ w.cell? ⟨b, off + j, none⟩ = some z ∧ TR w (okB vs (okOf μ η') dd) u z := by
    intro n
    induction n with
    | zero => exact fun _ => ⟨[], rfl, fun j hj => by omega⟩
    | succ n ih =>
      intro hn
      obtain ⟨ys, hy, hys⟩ := ih (by omega)
      obtain ⟨z, hz, hr⟩ := hl n l[n] (by simp)
      refine ⟨ys ++ [z], by simp [hy], fun j hj => ?_⟩
      by_cases hjn : j = n
      · subst hjn; exact ⟨z, l[j], by simp [← hy], by simp, hz, hr⟩
      · obtain ⟨z', u', h1, h2, h3⟩ := hys j (by omega)
        exact ⟨z', u', by rw [List.getElem?_append_left (by omega)]; exact h1, h2, h3⟩
  obtain ⟨ys, hy, hys⟩ := hall e.size hlt
  refine ⟨.agg ys.toArray, w.drawn, ?_, ?_⟩
  · have hr := loadVar_agg (P := P) (w := w) (b := b) (off := off) (hT.get ht) hk ha hy (fun j y hj => by
      have hjl : j < e.size := by rw [← hy]; exact (List.getElem?_eq_some_iff.1 hj).1
      obtain ⟨z, u, g1, g2, g3, _⟩ := hys j hjl
      rw [g1] at hj; cases hj; exact g3)
    simp [execOp, ho, hv, Instr.loadAt, Instr.sureAddr, hr]
  · rw [VR]
    refine ⟨_, rfl, (VRl_iff ..).2 ⟨by simp [hy]; omega, fun i u hu => ?_⟩⟩
    simp only [List.getElem?_map, Option.map_eq_some_iff] at hu
    obtain ⟨t0, ht0, rfl⟩ := hu
    rw [List.getElem?_take] at ht0
    split at ht0
    · rename_i hi
      obtain ⟨z, u, g1, g2, g3, g4⟩ := hys i hi
      rw [g2] at ht0; cases ht0
      exact ⟨z, by simpa using g1, mkT_VR g4⟩
    · cases ht0

end
end Go.Aw

set_option linter.unusedVariables false
namespace Go.Aw
open Go.RowKit (Below)

def oneT : T → Bool
  | .v x => x.oneCell'
  | .agg _ => false
  | _ => true
def oneA : AV → Bool
  | .t u => oneT u
  | .old u => oneT u
  | .arg _ u => oneT u
  | .argc _ _ u => oneT u
  | .own _ _ _ | .argo _ _ _ _ | .emp | .bp _ _ | .bpa _ _ | .fn _ _ => true
  | _ => false
def cellsA : AV → Option (List AV)
  | .agg l => bif l.all oneA then some l else none
  | .t (.agg l) => bif l.all oneT then some (l.map AV.t) else none
  | v => bif oneA v then some [v] else none

theorem oneT_one {w : World} {ok : Nat → Prop} {t : T} {y : Value} (h : TR w ok t y) (ht : oneT t = true) : y.oneCell' = true := by
  cases t with
  | v x => rw [TR] at h; subst h; exact ht
  | agg l => simp [oneT] at ht
  | fn f l => rw [TR] at h; obtain ⟨_, rfl, _⟩ := h; rfl
  | f k c => rw [TR] at h; obtain ⟨b, rfl, _⟩ := h; rfl
  | fl l => rw [TR] at h; obtain ⟨_, _, _, rfl, _⟩ := h; rfl
  | il l => rw [TR] at h; obtain ⟨_, _, _, rfl, _⟩ := h; rfl
  | bl l => rw [TR] at h; obtain ⟨_, _, _, rfl, _⟩ := h; rfl
  | tl l => rw [TR] at h; obtain ⟨_, _, _, rfl, _⟩ := h; rfl
  | ffl l => rw [TR] at h; obtain ⟨_, _, _, rfl, _⟩ := h; rfl
  | ref l => rw [TR] at h; obtain ⟨_, _, rfl, _⟩ := h; rfl
  | gf l => rw [TR] at h; obtain ⟨_, _, _, rfl, _⟩ := h; rfl
theorem oneA_one {vs : Env} {w : World} {μ : Nat → Option Nat} {ok : Nat → Prop} {v : AV} {y : Value} (h : VR vs w μ ok v y) (hv : oneA v = true) : y.oneCell' = true := by
  cases v with
  | t u => rw [VR] at h; exact oneT_one h hv
  | old u => rw [VR] at h; exact oneT_one h hv
  | arg i u => rw [VR] at h; exact oneT_one h.2 hv
  | argc i j u => rw [VR] at h; exact oneT_one h.2 hv
  | own i o n => rw [VR] at h; rcases h with ⟨_, _, _, rfl⟩ | ⟨_, _, _, _, _, rfl, _⟩ <;> rfl
  | emp => rw [VR] at h; obtain ⟨_, rfl⟩ := h; rfl
  | argo k i o n => rw [VR] at h; rcases h.2 with ⟨_, _, _, rfl⟩ | ⟨_, _, _, _, _, rfl, _⟩ <;> rfl
  | bp i o => rw [VR] at h; obtain ⟨_, _, rfl⟩ := h; rfl
  | bpa i o => rw [VR] at h; obtain ⟨_, _, _, rfl⟩ := h; rfl
  | fn f l => rw [VR] at h; obtain ⟨_, rfl, _⟩ := h; rfl
  | _ => simp [oneA] at hv
theorem cells_one {y : Value} (h : y.oneCell' = true) : y.cells = #[y] := by cases y <;> simp [Value.oneCell', Value.cells] at h ⊢

theorem cellsA_VR {vs : Env} {w : World} {μ : Nat → Option Nat} {ok : Nat → Prop} {v : AV} {l : List AV} {y : Value} (hl : cellsA v = some l) (h : VR vs w μ ok v y) :
    VRl vs w μ ok l y.cells.toList ∧ ∀ z ∈ y.cells.toList, z.oneCell' = true := by
  have single : oneA v = true → l = [v] → VRl vs w μ ok l y.cells.toList ∧ ∀ z ∈ y.cells.toList, z.oneCell' = true := fun h1 h2 => by
    have ho := oneA_one h h1
    rw [cells_one ho, h2]
    refine ⟨?_, by simpa using ho⟩
    rw [VRl]; exact ⟨y, [], rfl, h, by rw [VRl]⟩
  have many : ∀ (l' : List AV) (xs : Array Value), y = .agg xs → VRl vs w μ ok l' xs.toList → (∀ u ∈ l', oneA u = true) → l' = l → VRl vs w μ ok l y.cells.toList ∧ ∀ z ∈ y.cells.toList, z.oneCell' = true := fun l' xs hy hx h1 h2 => by
    subst hy; subst h2
    refine ⟨hx, fun z hz => ?_⟩
    obtain ⟨hlen, hx⟩ := (VRl_iff ..).1 hx
    obtain ⟨i, hi, hz⟩ := List.getElem_of_mem hz
    simp only [Value.cells] at hi hz
    have hi' : i < l'.length := by rw [hlen]; exact hi
    obtain ⟨z', hz', hr⟩ := hx i l'[i] (by simp [hi'])
    rw [List.getElem?_eq_getElem hi] at hz'; cases hz'
    rw [hz] at hr
    exact oneA_one hr (h1 _ (List.getElem_mem hi'))
  cases v with
  | agg l' =>
    simp only [cellsA] at hl
    cases ha : l'.all oneA with
    | false => simp [ha] at hl
    | true =>
      simp only [ha, cond_true, Option.some.injEq] at hl
      rw [VR] at h
      obtain ⟨xs, hy, hx⟩ := h
      exact many l' xs hy hx (by simpa using ha) hl
  | t u =>
    cases u with
    | agg l' =>
      simp only [cellsA] at hl
      cases ha : l'.all oneT with
      | false => simp [ha] at hl
      | true =>
        simp only [ha, cond_true, Option.some.injEq] at hl
        rw [VR, TR] at h
        obtain ⟨xs, hy, hx⟩ := h
        refine many (l'.map AV.t) xs hy ?_ (by simpa [oneA] using ha) hl
        obtain ⟨hlen, hx⟩ := (TRl_iff ..).1 hx
        refine (VRl_iff ..).2 ⟨by simpa using hlen, fun i u hu => ?_⟩
        simp only [List.getElem?_map, Option.map_eq_some_iff] at hu
        obtain ⟨t0, ht0, rfl⟩ := hu
        obtain ⟨z, hz, hr⟩ := hx i t0 ht0
        exact ⟨z, hz, by rw [VR]; exact hr⟩
    | v x => simp only [cellsA] at hl; cases h1 : oneA (.t (.v x)) <;> simp only [h1, cond_true, cond_false, Option.some.injEq, reduceCtorEq] at hl; exact single h1 hl.symm
    | f k c => simp only [cellsA] at hl; cases h1 : oneA (.t (.f k c)) <;> simp only [h1, cond_true, cond_false, Option.some.injEq, reduceCtorEq] at hl; exact single h1 hl.symm
    | fl c => simp only [cellsA] at hl; cases h1 : oneA (.t (.fl c)) <;> simp only [h1, cond_true, cond_false, Option.some.injEq, reduceCtorEq] at hl; exact single h1 hl.symm
    | il c => simp only [cellsA] at hl; cases h1 : oneA (.t (.il c)) <;> simp only [h1, cond_true, cond_false, Option.some.injEq, reduceCtorEq] at hl; exact single h1 hl.symm
    | bl c => simp only [cellsA] at hl; cases h1 : oneA (.t (.bl c)) <;> simp only [h1, cond_true, cond_false, Option.some.injEq, reduceCtorEq] at hl; exact single h1 hl.symm
    | ffl c => simp only [cellsA] at hl; cases h1 : oneA (.t (.ffl c)) <;> simp only [h1, cond_true, cond_false, Option.some.injEq, reduceCtorEq] at hl; exact single h1 hl.symm
    | gf c => simp only [cellsA] at hl; cases h1 : oneA (.t (.gf c)) <;> simp only [h1, cond_true, cond_false, Option.some.injEq, reduceCtorEq] at hl; exact single h1 hl.symm
    | tl c => simp only [cellsA] at hl; cases h1 : oneA (.t (.tl c)) <;> simp only [h1, cond_true, cond_false, Option.some.injEq, reduceCtorEq] at hl; exact single h1 hl.symm
    | ref c => simp only [cellsA] at hl; cases h1 : oneA (.t (.ref c)) <;> simp only [h1, cond_true, cond_false, Option.some.injEq, reduceCtorEq] at hl; exact single h1 hl.symm
    | fn g c => simp only [cellsA] at hl; cases h1 : oneA (.t (.fn g c)) <;> simp only [h1, cond_true, cond_false, Option.some.injEq, reduceCtorEq] at hl; exact single h1 hl.symm
  | old u => simp only [cellsA] at hl; cases h1 : oneA (.old u) <;> simp only [h1, cond_true, cond_false, Option.some.injEq, reduceCtorEq] at hl; exact single h1 hl.symm
  | arg i u => simp only [cellsA] at hl; cases h1 : oneA (.arg i u) <;> simp only [h1, cond_true, cond_false, Option.some.injEq, reduceCtorEq] at hl; exact single h1 hl.symm
  | argc i j u => simp only [cellsA] at hl; cases h1 : oneA (.argc i j u) <;> simp only [h1, cond_true, cond_false, Option.some.injEq, reduceCtorEq] at hl; exact single h1 hl.symm
  | emp => simp only [cellsA] at hl; cases h1 : oneA .emp <;> simp only [h1, cond_true, cond_false, Option.some.injEq, reduceCtorEq] at hl; exact single h1 hl.symm
  | argo k i j u => simp only [cellsA] at hl; cases h1 : oneA (.argo k i j u) <;> simp only [h1, cond_true, cond_false, Option.some.injEq, reduceCtorEq] at hl; exact single h1 hl.symm
  | own i j u => simp only [cellsA] at hl; cases h1 : oneA (.own i j u) <;> simp only [h1, cond_true, cond_false, Option.some.injEq, reduceCtorEq] at hl; exact single h1 hl.symm
  | bpa i j => simp only [cellsA] at hl; cases h1 : oneA (.bpa i j) <;> simp only [h1, cond_true, cond_false, Option.some.injEq, reduceCtorEq] at hl; exact single h1 hl.symm
  | bp i j => simp only [cellsA] at hl; cases h1 : oneA (.bp i j) <;> simp only [h1, cond_true, cond_false, Option.some.injEq, reduceCtorEq] at hl; exact single h1 hl.symm
  | fn i j => simp only [cellsA] at hl; cases h1 : oneA (.fn i j) <;> simp only [h1, cond_true, cond_false, Option.some.injEq, reduceCtorEq] at hl; exact single h1 hl.symm
  | tup j => simp [cellsA, oneA] at hl
  | dead j => simp [cellsA, oneA] at hl
  | junk => simp [cellsA, oneA] at hl

theorem refs_ids : ∀ (v : AV), ∀ i ∈ v.refs, i ∈ v.ids
  | .own _ _ _ => by simp [AV.refs, AV.ids]
  | .argo _ _ _ _ => by simp [AV.refs, AV.ids]
  | .bp _ _ | .bpa _ _ => by simp [AV.refs, AV.ids]
  | .agg l => by
    simp only [AV.refs, AV.ids]
    exact go l
  | .tup l => by
    simp only [AV.refs, AV.ids]
    exact go l
  | .fn _ l => by
    simp only [AV.refs, AV.ids]
    exact go l
  | .t _ | .old _ | .arg _ _ | .argc _ _ _ | .emp | .dead _ | .junk => by simp [AV.refs]
where
  go : ∀ (l : List AV), ∀ i ∈ refsL l, i ∈ idsL l
  | [] => by simp [refsL]
  | v :: r => by
    intro i hi
    simp only [refsL, idsL, List.mem_append] at hi ⊢
    exact hi.imp (refs_ids v i) (go r i)

section
variable {P : Program} {o : Oper} {F : List Nat} {ρ : Fr} {η : Hp} {ty : Ty}

/-- a row of cells made anew -/
theorem qrun_new {v : AV} {i : Nat} {B : Blk} (h : ∀ (vs : Env) (w0 : World) (μ : Nat → Option Nat) (η' : Hp) (a : Act) (w : World), (∀ i ∈ F, η' i = η i) → HC vs w0 μ η' w →
      (∀ x ∈ o.op.operands, VR vs w μ (okOf μ η') (evA ρ x) (a.eval x)) → ∃ y cs e, (execOp a.eval o).run P w = .ok (.value y) (w.alloc (.cells cs e)) ∧
      (∀ w' μ' ok', Keeps w w' μ μ' (okOf μ η') ok' (· ∈ [i]) → μ' i = some w.heap.size → w'.heap[w.heap.size]? = some (.cells cs e (0, 0)) → BlkR vs w0.heap.size w' μ' ok' i B ∧ VR vs w' μ' ok' v y)) :
    QRun P o F [i] ρ η v (lkH [(i, B)]) := by
  intro vs w0 μ η' a w Q K h1 h2 h3 h4
  obtain ⟨y, cs, e, hr, hv⟩ := h vs w0 μ η' a w h1 h2 h3
  have hbel : Below w.heap.size w (w.alloc (.cells cs e)) := (Below.refl _ _).alloc (Nat.le_refl _) _
  have hnew : (w.alloc (.cells cs e)).heap[w.heap.size]? = some (.cells cs e (0, 0)) := heap_alloc_new w _
  have hμ : updM μ i (some w.heap.size) i = some w.heap.size := by simp [updM]
  obtain ⟨hc, hk⟩ := HC_new (i := i) (B := B) h2 hbel (Nat.le_refl _) fun hk => (hv _ _ _ hk hμ hnew).1
  unfold Oper.wp
  rw [hr, Oper.upon_value]
  exact h4 y _ _ hc hk (hv _ _ _ hk hμ hnew).2

theorem size_shape {w : World} {b : Nat} {cs : Array Value} {e : TypeId} {fz : Nat × Nat} (h : w.heap[b]? = some (.cells cs e fz)) : w.shape? b = some (e, cs.size) := by simp [World.shape?, h]

theorem q_box {t : TypeId} {x : Operand} {d : Nat} {l : List AV} (ho : o.op = .box t x) (hd : o.dst = some d) (hl : cellsA (evA ρ x) = some l) (hi : (idsL l).contains d = false) :
    QRun P o F [d] ρ η (.bp d 0) (lkH [(d, .box t l)]) := by
  refine qrun_new fun vs w0 μ η' a w h1 h2 h3 => ?_
  obtain ⟨hc, _⟩ := cellsA_VR hl (h3 x (by simp [ho, Op.operands]))
  refine ⟨.pointer (some ⟨w.heap.size, 0, none⟩), (a.eval x).cells, t, by simp [execOp, ho, Instr.box, newVar, newRow], fun w' μ' ok' hk hμ hw => ⟨?_, by rw [VR]; exact ⟨_, hμ, rfl⟩⟩⟩
  have hsz : w0.heap.size ≤ w.heap.size ∨ vs.loan w.heap.size := .inl h2.below.size
  refine ⟨_, _, hμ, hsz, hw, VRl.mono hk _ _ (fun j hj hm => ?_) hc⟩
  have : j = d := by simpa using hm
  subst this
  have := refs_ids.go l j hj
  simp at hi; exact hi this

/-- a zero cell -/
def zA : Value → AV
  | .float k b => bif okConst k b then .t (.f k b) else .junk
  | v => .t (.v v)
theorem zA_VR {vs : Env} {w : World} {μ : Nat → Option Nat} {ok : Nat → Prop} (y : Value) : VR vs w μ ok (zA y) y := by
  cases y with
  | float k b =>
    simp only [zA]
    cases hb : okConst k b with
    | false => simp only [cond_false]; rw [VR]; trivial
    | true =>
      simp only [cond_true]
      rw [VR, TR]
      simp only [okConst, Bool.and_eq_true, Bool.not_eq_true'] at hb
      exact ⟨b, rfl, by simp [canon, hb.1], by simpa using hb.2⟩
  | _ => simp only [zA]; rw [VR, TR]
theorem zA_VRl {vs : Env} {w : World} {μ : Nat → Option Nat} {ok : Nat → Prop} (l : List Value) : VRl vs w μ ok (l.map zA) l := by
  refine (VRl_iff ..).2 ⟨by simp, fun i v hv => ?_⟩
  simp only [List.getElem?_map, Option.map_eq_some_iff] at hv
  obtain ⟨y, hy, rfl⟩ := hv
  exact ⟨y, hy, zA_VR y⟩

theorem q_alloc {t : TypeId} {e : TE} {d : Nat} (hT : TyOk P ty) (ho : o.op = .alloc t) (hd : o.dst = some d) (ht : ty.get t = some e) :
    QRun P o F [d] ρ η (.bp d 0) (lkH [(d, .box t (e.z.cells.toList.map zA))]) := by
  refine qrun_new fun vs w0 μ η' a w h1 h2 h3 => ?_
  have hz := (hT.get ht).zero (w := w)
  refine ⟨.pointer (some ⟨w.heap.size, 0, none⟩), e.z.cells, t, by simp [execOp, ho, Instr.alloc, hz, newVar, newRow], fun w' μ' ok' hk hμ hw => ⟨?_, by rw [VR]; exact ⟨_, hμ, rfl⟩⟩⟩
  exact ⟨_, _, hμ, .inl h2.below.size, hw, zA_VRl _⟩

end
end Go.Aw

