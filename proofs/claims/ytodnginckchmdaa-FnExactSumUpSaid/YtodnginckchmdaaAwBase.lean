/- The values of a symbolic state, what they stand for in a world, and that this lasts. -/
import Derived.Orders
import Derived.Still
import Derived.Below
import Derived.Laws.FloatArith
set_option linter.unusedVariables false
namespace Go.Aw
open Go.RowKit (Below)

/-! ### floats up to the bits of a NaN -/

def isNan (k : FloatKind) (b : Nat) : Bool := (k.decode b).isNaN
def nan0 : FloatKind → Nat
  | .f32 => 2143289344
  | .f64 => 9221120237041090560
def canon (k : FloatKind) (b : Nat) : Nat := if isNan k b then nan0 k else b
/-- word 'b' is the number 'c', where all NaNs count as one -/
def FR (k : FloatKind) (b c : Nat) : Prop := canon k b = c ∧ b < 2 ^ k.format.width

/-! ### symbolic values -/

inductive T where
  | v (x : Value)
  | f (k : FloatKind) (c : Nat)
  | fl (l : List Nat)
  | il (l : List Int)
  | bl (l : List Bool)
  | tl (l : List T)
  | ffl (l : List (List Nat))
  | ref (l : List T)
  | agg (l : List T)
  | fn (f : FuncId) (l : List T)

inductive AV where
  | t (t : T)
  | old (t : T)
  | arg (i : Nat) (t : T)
  | argc (i j : Nat) (t : T)
  | own (id : Nat) (off len : Nat)
  | argo (i id off len : Nat)
  | emp
  | bp (id : Nat) (off : Nat)
  | agg (l : List AV)
  | tup (l : List AV)
  | fn (f : FuncId) (l : List AV)
  | dead (id : Nat)
  | junk

inductive Blk where
  | sl (e : TypeId) (c : T)
  | box (e : TypeId) (l : List AV)

/-- the elements of a slice's content, as one-cell data -/
def T.elems : T → List T
  | .fl l => l.map (T.f .f32)
  | .il l => l.map fun n => T.v (.int .i64 n)
  | .bl l => l.map fun b => T.v (.bool b)
  | .tl l => l
  | .ffl l => l.map T.fl
  | _ => []
def T.isSl : T → Bool
  | .fl _ | .il _ | .bl _ | .tl _ | .ffl _ => true
  | _ => false
def T.len : T → Nat
  | .fl l => l.length
  | .il l => l.length
  | .bl l => l.length
  | .tl l => l.length
  | .ffl l => l.length
  | _ => 0
def T.cut (a b : Nat) : T → T
  | .fl l => .fl ((l.take b).drop a)
  | .il l => .il ((l.take b).drop a)
  | .bl l => .bl ((l.take b).drop a)
  | .tl l => .tl ((l.take b).drop a)
  | .ffl l => .ffl ((l.take b).drop a)
  | t => t
def T.get (i : Nat) : T → T
  | .fl l => .f .f32 (l.getD i 0)
  | .il l => .v (.int .i64 (l.getD i 0))
  | .bl l => .v (.bool (l.getD i false))
  | .tl l => l.getD i (.v (.bool false))
  | .ffl l => .fl (l.getD i [])
  | t => t

theorem T.len_elems (t : T) : t.elems.length = t.len := by cases t <;> simp [T.elems, T.len]

theorem T.get_elems (t : T) (h : t.isSl = true) (i : Nat) (hi : i < t.len) : t.elems[i]? = some (t.get i) := by
  cases t <;> simp_all [T.elems, T.len, T.get, T.isSl]

theorem T.cut_elems (t : T) (h : t.isSl = true) (a b : Nat) : (t.cut a b).elems = (t.elems.take b).drop a := by
  cases t <;> simp_all [T.elems, T.cut, T.isSl, List.map_take, List.map_drop]
theorem T.cut_isSl (t : T) (a b : Nat) : (t.cut a b).isSl = t.isSl := by cases t <;> rfl
theorem T.cut_len (t : T) (h : t.isSl = true) (a b : Nat) (hb : b ≤ t.len) : (t.cut a b).len = b - a := by
  cases t <;> simp_all [T.len, T.cut, T.isSl] <;> omega

/-- 'y' is a slice that reads as these floats -/
def TRf (w : World) (ok : Nat → Prop) (l : List Nat) (y : Value) : Prop := ∃ a n c, y = .slice a n c ∧ n = l.length ∧ n ≤ c ∧ (n = 0 ∨ ∃ b o, a = some ⟨b, o, none⟩ ∧ b < w.heap.size ∧ ok b ∧
      ∀ i, i < n → ∃ x, w.cell? ⟨b, o + i, none⟩ = some (.float .f32 x) ∧ FR .f32 x (l.getD i 0))
theorem TRf.mono {w w' : World} {ok ok' : Nat → Prop} (h : ∀ b, b < w.heap.size → ok b → b < w'.heap.size ∧ ok' b ∧ w'.heap[b]? = w.heap[b]?) {l : List Nat} {y : Value} (hy : TRf w ok l y) : TRf w' ok' l y := by
  obtain ⟨a, n, c, rfl, hn, hc, hh⟩ := hy
  refine ⟨a, n, c, rfl, hn, hc, hh.imp id ?_⟩
  rintro ⟨b, o, ha, hb, hok, hi⟩
  obtain ⟨h1, h2, h3⟩ := h b hb hok
  exact ⟨b, o, ha, h1, h2, fun i hin => by obtain ⟨x, hx, hf⟩ := hi i hin; exact ⟨x, by simpa [World.cell?, h3] using hx, hf⟩⟩

mutual
/-- 'y' reads as 't' in 'w'; all that is read lies in blocks that satisfy 'ok' -/
def TR (w : World) (ok : Nat → Prop) : T → Value → Prop
  | .v x, y => y = x
  | .f k c, y => ∃ b, y = .float k b ∧ FR k b c
  | .fl l, y => TRf w ok l y
  | .ffl l, y => ∃ a n c, y = .slice a n c ∧ n = l.length ∧ n ≤ c ∧ (n = 0 ∨ ∃ b o, a = some ⟨b, o, none⟩ ∧ b < w.heap.size ∧ ok b ∧
      ∀ i, i < n → ∃ x, w.cell? ⟨b, o + i, none⟩ = some x ∧ TRf w ok (l.getD i []) x)
  | .il l, y => ∃ a n c, y = .slice a n c ∧ n = l.length ∧ n ≤ c ∧ (n = 0 ∨ ∃ b o, a = some ⟨b, o, none⟩ ∧ b < w.heap.size ∧ ok b ∧
      ∀ i, i < n → w.cell? ⟨b, o + i, none⟩ = some (.int .i64 (l.getD i 0)))
  | .bl l, y => ∃ a n c, y = .slice a n c ∧ n = l.length ∧ n ≤ c ∧ (n = 0 ∨ ∃ b o, a = some ⟨b, o, none⟩ ∧ b < w.heap.size ∧ ok b ∧
      ∀ i, i < n → w.cell? ⟨b, o + i, none⟩ = some (.bool (l.getD i false)))
  | .tl l, y => ∃ a n c, y = .slice a n c ∧ n = l.length ∧ n ≤ c ∧ (n = 0 ∨ ∃ b o, a = some ⟨b, o, none⟩ ∧ b < w.heap.size ∧ ok b ∧ TRs w ok l b o)
  | .ref l, y => ∃ b o, y = .pointer (some ⟨b, o, none⟩) ∧ b < w.heap.size ∧ ok b ∧ TRs w ok l b o
  | .agg l, y => ∃ xs : Array Value, y = .agg xs ∧ TRl w ok l xs.toList
  | .fn f l, y => ∃ xs : Array Value, y = .func (.func f) #[] xs ∧ TRl w ok l xs.toList
def TRs (w : World) (ok : Nat → Prop) : List T → Nat → Nat → Prop
  | [], _, _ => True
  | t :: r, b, o => (∃ x, w.cell? ⟨b, o, none⟩ = some x ∧ TR w ok t x) ∧ TRs w ok r b (o + 1)
def TRl (w : World) (ok : Nat → Prop) : List T → List Value → Prop
  | [], xs => xs = []
  | t :: r, xs => ∃ x ys, xs = x :: ys ∧ TR w ok t x ∧ TRl w ok r ys
end

theorem TRs_iff (w : World) (ok : Nat → Prop) (l : List T) (b o : Nat) : TRs w ok l b o ↔ ∀ (i : Nat) (t : T), l[i]? = some t → ∃ x, w.cell? ⟨b, o + i, none⟩ = some x ∧ TR w ok t x := by
  induction l generalizing o with
  | nil => simp [TRs]
  | cons t r ih =>
    rw [TRs, ih]
    constructor
    · rintro ⟨h0, h⟩ i u hu
      cases i with
      | zero => simp at hu; subst hu; simpa using h0
      | succ i => have := h i u (by simpa using hu); simpa [Nat.add_assoc, Nat.add_comm 1 i] using this
    · intro h
      exact ⟨by simpa using h 0 t rfl, fun i u hu => by have := h (i + 1) u (by simpa using hu); simpa [Nat.add_assoc, Nat.add_comm 1 i] using this⟩

theorem TRl_iff (w : World) (ok : Nat → Prop) (l : List T) (xs : List Value) : TRl w ok l xs ↔ l.length = xs.length ∧ ∀ (i : Nat) (t : T), l[i]? = some t → ∃ x, xs[i]? = some x ∧ TR w ok t x := by
  induction l generalizing xs with
  | nil => cases xs <;> simp [TRl]
  | cons t r ih =>
    rw [TRl]
    constructor
    · rintro ⟨x, ys, rfl, hx, hr⟩
      obtain ⟨h1, h2⟩ := (ih ys).1 hr
      refine ⟨by simp [h1], fun i u hu => ?_⟩
      cases i with
      | zero => simp at hu; subst hu; exact ⟨x, rfl, hx⟩
      | succ i => simpa using h2 i u (by simpa using hu)
    · rintro ⟨h1, h2⟩
      cases xs with
      | nil => simp at h1
      | cons x ys =>
        obtain ⟨x', hx', h⟩ := h2 0 t rfl
        simp at hx'; subst hx'
        exact ⟨_, _, rfl, h, (ih ys).2 ⟨by simpa using h1, fun i u hu => by simpa using h2 (i + 1) u (by simpa using hu)⟩⟩

/-- a slice's content, whatever its elements are -/
theorem TR_sl (w : World) (ok : Nat → Prop) (t : T) (ht : t.isSl = true) (y : Value) : TR w ok t y ↔
    ∃ a n c, y = .slice a n c ∧ n = t.len ∧ n ≤ c ∧ (n = 0 ∨ ∃ b o, a = some ⟨b, o, none⟩ ∧ b < w.heap.size ∧ ok b ∧ TRs w ok t.elems b o) := by
  cases t <;> simp only [T.isSl, Bool.false_eq_true] at ht
  case tl l => simp [TR, T.len, T.elems]
  all_goals
    rename_i l
    first | rw [TR, TRf] | rw [TR]
    simp only [T.len, T.elems]
    constructor
    · rintro ⟨a, n, c, rfl, hn, hc, h⟩
      refine ⟨a, n, c, rfl, hn, hc, h.imp id ?_⟩
      rintro ⟨b, o, ha, hb, hok, hi⟩
      refine ⟨b, o, ha, hb, hok, (TRs_iff ..).2 fun i t ht => ?_⟩
      simp only [List.getElem?_map, Option.map_eq_some_iff] at ht
      obtain ⟨x, hx, rfl⟩ := ht
      have hlt : i < l.length := (List.getElem?_eq_some_iff.1 hx).1
      have e : ∀ d, l.getD i d = x := fun d => by simp [List.getD_eq_getElem?_getD, hx]
      have := hi i (by omega)
      first
        | (obtain ⟨z, hz, hf⟩ := this; exact ⟨_, hz, by rw [TR]; exact ⟨z, rfl, by rw [e] at hf; exact hf⟩⟩)
        | (obtain ⟨z, hz, hf⟩ := this; exact ⟨_, hz, by rw [TR]; rw [e] at hf; exact hf⟩)
        | (rw [e] at this; exact ⟨_, this, by rw [TR]⟩)
    · rintro ⟨a, n, c, rfl, hn, hc, h⟩
      refine ⟨a, n, c, rfl, hn, hc, h.imp id ?_⟩
      rintro ⟨b, o, ha, hb, hok, hi⟩
      refine ⟨b, o, ha, hb, hok, fun i hin => ?_⟩
      have hlt : i < l.length := by omega
      have := (TRs_iff ..).1 hi i _ (by simp only [List.getElem?_map, List.getElem?_eq_getElem hlt, Option.map_some]; rfl)
      obtain ⟨x, hx, h⟩ := this
      rw [TR] at h
      have e : ∀ d, l.getD i d = l[i] := fun d => by simp [List.getD_eq_getElem?_getD, List.getElem?_eq_getElem hlt]
      first
        | (obtain ⟨z, rfl, hf⟩ := h; exact ⟨z, hx, by rw [e]; exact hf⟩)
        | exact ⟨x, hx, by rw [e]; exact h⟩
        | (subst h; rw [e]; exact hx)

mutual
theorem TR.mono {w w' : World} {ok ok' : Nat → Prop} (h : ∀ b, b < w.heap.size → ok b → b < w'.heap.size ∧ ok' b ∧ w'.heap[b]? = w.heap[b]?) :
    ∀ (t : T) (y : Value), TR w ok t y → TR w' ok' t y
  | .v x, y, hy => by rw [TR] at *; exact hy
  | .f k c, y, hy => by rw [TR] at *; exact hy
  | .fl l, y, hy => by
    rw [TR] at *
    exact TRf.mono h hy
  | .ffl l, y, hy => by
    rw [TR] at *
    obtain ⟨a, n, c, rfl, hn, hc, hh⟩ := hy
    refine ⟨a, n, c, rfl, hn, hc, hh.imp id ?_⟩
    rintro ⟨b, o, ha, hb, hok, hi⟩
    obtain ⟨h1, h2, h3⟩ := h b hb hok
    exact ⟨b, o, ha, h1, h2, fun i hin => by obtain ⟨x, hx, hf⟩ := hi i hin; exact ⟨x, by simpa [World.cell?, h3] using hx, TRf.mono h hf⟩⟩
  | .il l, y, hy => by
    rw [TR] at *
    obtain ⟨a, n, c, rfl, hn, hc, hh⟩ := hy
    refine ⟨a, n, c, rfl, hn, hc, hh.imp id ?_⟩
    rintro ⟨b, o, ha, hb, hok, hi⟩
    obtain ⟨h1, h2, h3⟩ := h b hb hok
    exact ⟨b, o, ha, h1, h2, fun i hin => by have hx := hi i hin; simpa [World.cell?, h3] using hx⟩
  | .bl l, y, hy => by
    rw [TR] at *
    obtain ⟨a, n, c, rfl, hn, hc, hh⟩ := hy
    refine ⟨a, n, c, rfl, hn, hc, hh.imp id ?_⟩
    rintro ⟨b, o, ha, hb, hok, hi⟩
    obtain ⟨h1, h2, h3⟩ := h b hb hok
    exact ⟨b, o, ha, h1, h2, fun i hin => by have hx := hi i hin; simpa [World.cell?, h3] using hx⟩
  | .tl l, y, hy => by
    rw [TR] at *
    obtain ⟨a, n, c, rfl, hn, hc, hh⟩ := hy
    refine ⟨a, n, c, rfl, hn, hc, hh.imp id ?_⟩
    rintro ⟨b, o, ha, hb, hok, hi⟩
    obtain ⟨h1, h2, h3⟩ := h b hb hok
    exact ⟨b, o, ha, h1, h2, TRs.mono h l b o h3 hi⟩
  | .ref l, y, hy => by
    rw [TR] at *
    obtain ⟨b, o, rfl, hb, hok, hi⟩ := hy
    obtain ⟨h1, h2, h3⟩ := h b hb hok
    exact ⟨b, o, rfl, h1, h2, TRs.mono h l b o h3 hi⟩
  | .agg l, y, hy => by
    rw [TR] at *
    obtain ⟨xs, rfl, hx⟩ := hy
    exact ⟨xs, rfl, TRl.mono h l _ hx⟩
  | .fn f l, y, hy => by
    rw [TR] at *
    obtain ⟨xs, rfl, hx⟩ := hy
    exact ⟨xs, rfl, TRl.mono h l _ hx⟩
theorem TRs.mono {w w' : World} {ok ok' : Nat → Prop} (h : ∀ b, b < w.heap.size → ok b → b < w'.heap.size ∧ ok' b ∧ w'.heap[b]? = w.heap[b]?) :
    ∀ (l : List T) (b o : Nat), w'.heap[b]? = w.heap[b]? → TRs w ok l b o → TRs w' ok' l b o
  | [], _, _, _, _ => by rw [TRs]; trivial
  | t :: r, b, o, hb, hy => by
    rw [TRs] at *
    obtain ⟨⟨x, hx, ht⟩, hr⟩ := hy
    exact ⟨⟨x, by simpa [World.cell?, hb] using hx, TR.mono h t x ht⟩, TRs.mono h r b (o + 1) hb hr⟩
theorem TRl.mono {w w' : World} {ok ok' : Nat → Prop} (h : ∀ b, b < w.heap.size → ok b → b < w'.heap.size ∧ ok' b ∧ w'.heap[b]? = w.heap[b]?) :
    ∀ (l : List T) (xs : List Value), TRl w ok l xs → TRl w' ok' l xs
  | [], xs, hy => by rw [TRl] at *; exact hy
  | t :: r, xs, hy => by
    rw [TRl] at *
    obtain ⟨x, ys, rfl, hx, hr⟩ := hy
    exact ⟨x, ys, rfl, TR.mono h t x hx, TRl.mono h r ys hr⟩
end

/-! ### the ids of a symbolic value -/

mutual
def AV.ids : AV → List Nat
  | .own id _ _ => [id]
  | .argo _ id _ _ => [id]
  | .bp id _ => [id]
  | .agg l => idsL l
  | .tup l => idsL l
  | .fn _ l => idsL l
  | .dead id => [id]
  | _ => []
def idsL : List AV → List Nat
  | [] => []
  | v :: r => v.ids ++ idsL r
end
mutual
def AV.refs : AV → List Nat
  | .own id _ _ => [id]
  | .argo _ id _ _ => [id]
  | .bp id _ => [id]
  | .agg l => refsL l
  | .tup l => refsL l
  | .fn _ l => refsL l
  | _ => []
def refsL : List AV → List Nat
  | [] => []
  | v :: r => v.refs ++ refsL r
end
mutual
/-- the references to the ids 'S' are dead from now on -/
def scrub (S : List Nat) : AV → AV
  | .own i o n => bif S.contains i then .dead i else .own i o n
  | .argo k i o n => bif S.contains i then .dead i else .argo k i o n
  | .bp i o => bif S.contains i then .dead i else .bp i o
  | .agg l => .agg (scrubL S l)
  | .tup l => .tup (scrubL S l)
  | .fn f l => .fn f (scrubL S l)
  | v => v
def scrubL (S : List Nat) : List AV → List AV
  | [] => []
  | v :: r => scrub S v :: scrubL S r
end
def Blk.ids : Blk → List Nat
  | .sl _ _ => []
  | .box _ l => idsL l

/-- the call's own arguments; how many blocks there were when it began -/
structure Env where
  a : List Value
  base : Nat
  /-- blocks that were there, lent to the call to be written -/
  loan : Nat → Prop
abbrev noLoan : Nat → Prop := fun _ => False
/-- made by the call itself -/
def okF (vs : Env) (ok : Nat → Prop) : Nat → Prop := fun b => ok b ∧ vs.base ≤ b

abbrev Fr := Nat → AV
abbrev Hp := Nat → Option Blk

mutual
/-- 'y' is what 'v' says: 'vs': the call's own arguments; 'μ': which block an id is -/
def VR (vs : Env) (w : World) (μ : Nat → Option Nat) (ok : Nat → Prop) : AV → Value → Prop
  | .t t, y => TR w (okF vs ok) t y
  | .old t, y => TR w ok t y
  | .arg i t, y => vs.a[i]? = some y ∧ TR w ok t y
  | .argc i j t, y => (∃ xs : Array Value, vs.a[i]? = some (.agg xs) ∧ xs[j]? = some y) ∧ TR w ok t y
  | .own id off len, y => (μ id = none ∧ off = 0 ∧ len = 0 ∧ y = .slice none 0 0) ∨
      ∃ b cap e n, μ id = some b ∧ y = .slice (some ⟨b, off, none⟩) len cap ∧ w.shape? b = some (e, n) ∧ off + cap ≤ n ∧ len ≤ cap
  | .argo i id off len, y => vs.a[i]? = some y ∧ ((μ id = none ∧ off = 0 ∧ len = 0 ∧ y = .slice none 0 0) ∨
      ∃ b cap e n, μ id = some b ∧ y = .slice (some ⟨b, off, none⟩) len cap ∧ w.shape? b = some (e, n) ∧ off + cap ≤ n ∧ len ≤ cap)
  | .bp id off, y => ∃ b, μ id = some b ∧ y = .pointer (some ⟨b, off, none⟩)
  | .agg l, y => ∃ xs : Array Value, y = .agg xs ∧ VRl vs w μ ok l xs.toList
  | .tup l, y => ∃ xs : Array Value, y = .tuple xs ∧ VRl vs w μ ok l xs.toList
  | .fn f l, y => ∃ xs : Array Value, y = .func (.func f) #[] xs ∧ VRl vs w μ ok l xs.toList
  | .emp, y => ∃ a, y = .slice a 0 0
  | .dead _, _ => True
  | .junk, _ => True
def VRl (vs : Env) (w : World) (μ : Nat → Option Nat) (ok : Nat → Prop) : List AV → List Value → Prop
  | [], xs => xs = []
  | t :: r, xs => ∃ x ys, xs = x :: ys ∧ VR vs w μ ok t x ∧ VRl vs w μ ok r ys
end

theorem shape?_of_block {w w' : World} {b : Nat} (h : w'.heap[b]? = w.heap[b]?) : w'.shape? b = w.shape? b := by simp [World.shape?, h]

/-- 'w'' keeps what 'w' holds outside the blocks that the symbolic state writes -/
structure Keeps (w w' : World) (μ μ' : Nat → Option Nat) (ok ok' : Nat → Prop) (gone : Nat → Prop) : Prop where
  tree : ∀ b, b < w.heap.size → ok b → b < w'.heap.size ∧ ok' b ∧ w'.heap[b]? = w.heap[b]?
  id : ∀ i, ¬ gone i → μ' i = μ i
  shape : ∀ i b, ¬ gone i → μ i = some b → ∀ s, w.shape? b = some s → w'.shape? b = some s

theorem Keeps.treeF {vs : Env} {w w' : World} {μ μ' : Nat → Option Nat} {ok ok' : Nat → Prop} {gone : Nat → Prop} (h : Keeps w w' μ μ' ok ok' gone) :
    ∀ b, b < w.heap.size → okF vs ok b → b < w'.heap.size ∧ okF vs ok' b ∧ w'.heap[b]? = w.heap[b]? := fun b hb ⟨h1, h2⟩ => by
  obtain ⟨g1, g2, g3⟩ := h.tree b hb h1
  exact ⟨g1, ⟨g2, h2⟩, g3⟩

mutual
theorem VR.mono {vs : Env} {w w' : World} {μ μ' : Nat → Option Nat} {ok ok' : Nat → Prop} {gone : Nat → Prop} (h : Keeps w w' μ μ' ok ok' gone) :
    ∀ (v : AV) (y : Value), (∀ i ∈ v.refs, ¬ gone i) → VR vs w μ ok v y → VR vs w' μ' ok' v y
  | .t t, y, _, hy => by rw [VR] at *; exact TR.mono h.treeF t y hy
  | .old t, y, _, hy => by rw [VR] at *; exact TR.mono h.tree t y hy
  | .arg i t, y, _, hy => by rw [VR] at *; exact ⟨hy.1, TR.mono h.tree t y hy.2⟩
  | .argc i j t, y, _, hy => by rw [VR] at *; exact ⟨hy.1, TR.mono h.tree t y hy.2⟩
  | .own id off len, y, hi, hy => by
    have hg : ¬ gone id := hi id (by simp [AV.refs])
    rw [VR] at *
    rcases hy with ⟨h1, h2⟩ | ⟨b, cap, e, n, h1, h2, h3, h4⟩
    · exact .inl ⟨by rw [h.id id hg]; exact h1, h2⟩
    · exact .inr ⟨b, cap, e, n, by rw [h.id id hg]; exact h1, h2, h.shape id b hg h1 _ h3, h4⟩
  | .argo k id off len, y, hi, hy => by
    have hg : ¬ gone id := hi id (by simp [AV.refs])
    rw [VR] at *
    refine ⟨hy.1, ?_⟩
    rcases hy.2 with ⟨h1, h2⟩ | ⟨b, cap, e, n, h1, h2, h3, h4⟩
    · exact .inl ⟨by rw [h.id id hg]; exact h1, h2⟩
    · exact .inr ⟨b, cap, e, n, by rw [h.id id hg]; exact h1, h2, h.shape id b hg h1 _ h3, h4⟩
  | .bp id off, y, hi, hy => by
    have hg : ¬ gone id := hi id (by simp [AV.refs])
    rw [VR] at *
    rw [h.id id hg]; exact hy
  | .agg l, y, hi, hy => by
    rw [VR] at *
    obtain ⟨xs, rfl, hx⟩ := hy
    exact ⟨xs, rfl, VRl.mono h l _ (by simpa [AV.refs] using hi) hx⟩
  | .tup l, y, hi, hy => by
    rw [VR] at *
    obtain ⟨xs, rfl, hx⟩ := hy
    exact ⟨xs, rfl, VRl.mono h l _ (by simpa [AV.refs] using hi) hx⟩
  | .fn f l, y, hi, hy => by
    rw [VR] at *
    obtain ⟨xs, rfl, hx⟩ := hy
    exact ⟨xs, rfl, VRl.mono h l _ (by simpa [AV.refs] using hi) hx⟩
  | .emp, y, _, hy => by rw [VR] at *; exact hy
  | .dead _, y, _, _ => by rw [VR]; trivial
  | .junk, y, _, _ => by rw [VR]; trivial
theorem VRl.mono {vs : Env} {w w' : World} {μ μ' : Nat → Option Nat} {ok ok' : Nat → Prop} {gone : Nat → Prop} (h : Keeps w w' μ μ' ok ok' gone) :
    ∀ (l : List AV) (xs : List Value), (∀ i ∈ refsL l, ¬ gone i) → VRl vs w μ ok l xs → VRl vs w' μ' ok' l xs
  | [], xs, _, hy => by rw [VRl] at *; exact hy
  | t :: r, xs, hi, hy => by
    rw [VRl] at *
    obtain ⟨x, ys, rfl, hx, hr⟩ := hy
    exact ⟨x, ys, rfl, VR.mono h t x (fun i hm => hi i (by simp [refsL, hm])) hx, VRl.mono h r ys (fun i hm => hi i (by simp [refsL, hm])) hr⟩
end

theorem VRl_iff (vs : Env) (w : World) (μ : Nat → Option Nat) (ok : Nat → Prop) (l : List AV) (xs : List Value) :
    VRl vs w μ ok l xs ↔ l.length = xs.length ∧ ∀ (i : Nat) (v : AV), l[i]? = some v → ∃ x, xs[i]? = some x ∧ VR vs w μ ok v x := by
  induction l generalizing xs with
  | nil => cases xs <;> simp [VRl]
  | cons t r ih =>
    rw [VRl]
    constructor
    · rintro ⟨x, ys, rfl, hx, hr⟩
      obtain ⟨h1, h2⟩ := (ih ys).1 hr
      refine ⟨by simp [h1], fun i u hu => ?_⟩
      cases i with
      | zero => simp at hu; subst hu; exact ⟨x, rfl, hx⟩
      | succ i => simpa using h2 i u (by simpa using hu)
    · rintro ⟨h1, h2⟩
      cases xs with
      | nil => simp at h1
      | cons x ys =>
        obtain ⟨x', hx', h⟩ := h2 0 t rfl
        simp at hx'; subst hx'
        exact ⟨_, _, rfl, h, (ih ys).2 ⟨by simpa using h1, fun i u hu => by simpa using h2 (i + 1) u (by simpa using hu)⟩⟩

theorem scrubL_map (S : List Nat) : ∀ l, scrubL S l = l.map (scrub S)
  | [] => by simp [scrubL]
  | v :: r => by simp [scrubL, scrubL_map S r]

mutual
theorem scrub_refs (S : List Nat) : ∀ (v : AV), ∀ i ∈ (scrub S v).refs, i ∉ S
  | .own i o n | .argo _ i o n => by
    simp only [scrub]
    cases h : S.contains i with
    | true => simp [AV.refs]
    | false => simp only [cond_false, AV.refs, List.mem_singleton, forall_eq]; simpa using h
  | .bp i o => by
    simp only [scrub]
    cases h : S.contains i with
    | true => simp [AV.refs]
    | false => simp only [cond_false, AV.refs, List.mem_singleton, forall_eq]; simpa using h
  | .agg l => by simp only [scrub, AV.refs]; exact scrub_refsL S l
  | .tup l => by simp only [scrub, AV.refs]; exact scrub_refsL S l
  | .fn f l => by simp only [scrub, AV.refs]; exact scrub_refsL S l
  | .t _ | .old _ | .arg _ _ | .argc _ _ _ | .emp | .dead _ | .junk => by simp [scrub, AV.refs]
theorem scrub_refsL (S : List Nat) : ∀ (l : List AV), ∀ i ∈ refsL (scrubL S l), i ∉ S
  | [] => by simp [scrubL, refsL]
  | v :: r => by
    simp only [scrubL, refsL, List.mem_append]
    rintro i (h | h)
    · exact scrub_refs S v i h
    · exact scrub_refsL S r i h
end

mutual
theorem scrub_ids (S : List Nat) : ∀ (v : AV), (scrub S v).ids = v.ids
  | .own i o n | .argo _ i o n => by simp only [scrub]; cases S.contains i <;> simp [AV.ids]
  | .bp i o => by simp only [scrub]; cases S.contains i <;> simp [AV.ids]
  | .agg l => by simp only [scrub, AV.ids]; exact scrub_idsL S l
  | .tup l => by simp only [scrub, AV.ids]; exact scrub_idsL S l
  | .fn f l => by simp only [scrub, AV.ids]; exact scrub_idsL S l
  | .t _ | .old _ | .arg _ _ | .argc _ _ _ | .emp | .dead _ | .junk => by simp [scrub, AV.ids]
theorem scrub_idsL (S : List Nat) : ∀ (l : List AV), idsL (scrubL S l) = idsL l
  | [] => by simp [scrubL, idsL]
  | v :: r => by simp only [scrubL, idsL]; rw [scrub_ids S v, scrub_idsL S r]
end

mutual
theorem scrub_id {S : List Nat} : ∀ (v : AV), (∀ i ∈ v.ids, i ∉ S) → scrub S v = v
  | .own i o n, h | .argo _ i o n, h => by
    have : S.contains i = false := by simpa using h i (by simp [AV.ids])
    simp only [scrub, this, cond_false]
  | .bp i o, h => by
    have : S.contains i = false := by simpa using h i (by simp [AV.ids])
    simp only [scrub, this, cond_false]
  | .agg l, h => by simp only [scrub]; rw [scrub_idL l (by simpa [AV.ids] using h)]
  | .tup l, h => by simp only [scrub]; rw [scrub_idL l (by simpa [AV.ids] using h)]
  | .fn f l, h => by simp only [scrub]; rw [scrub_idL l (by simpa [AV.ids] using h)]
  | .t _, _ | .old _, _ | .arg _ _, _ | .argc _ _ _, _ | .emp, _ | .dead _, _ | .junk, _ => by simp [scrub]
theorem scrub_idL {S : List Nat} : ∀ (l : List AV), (∀ i ∈ idsL l, i ∉ S) → scrubL S l = l
  | [], _ => by simp [scrubL]
  | v :: r, h => by
    simp only [scrubL]
    rw [scrub_id v (fun i hi => h i (by simp [idsL, hi])), scrub_idL r (fun i hi => h i (by simp [idsL, hi]))]
end

mutual
theorem scrub_comm (S U : List Nat) : ∀ (v : AV), scrub S (scrub U v) = scrub U (scrub S v)
  | .own i o n | .argo _ i o n => by cases h1 : S.contains i <;> cases h2 : U.contains i <;> simp only [scrub, h1, h2, cond_true, cond_false]
  | .bp i o => by cases h1 : S.contains i <;> cases h2 : U.contains i <;> simp only [scrub, h1, h2, cond_true, cond_false]
  | .agg l => by simp only [scrub]; rw [scrub_commL S U l]
  | .tup l => by simp only [scrub]; rw [scrub_commL S U l]
  | .fn f l => by simp only [scrub]; rw [scrub_commL S U l]
  | .t _ | .old _ | .arg _ _ | .argc _ _ _ | .emp | .dead _ | .junk => by simp [scrub]
theorem scrub_commL (S U : List Nat) : ∀ (l : List AV), scrubL S (scrubL U l) = scrubL U (scrubL S l)
  | [] => by simp [scrubL]
  | v :: r => by simp only [scrubL]; rw [scrub_comm S U v, scrub_commL S U r]
end

mutual
theorem VR.scrub {vs : Env} {w : World} {μ : Nat → Option Nat} {ok : Nat → Prop} {S : List Nat} : ∀ (v : AV) (y : Value), VR vs w μ ok v y → VR vs w μ ok (Aw.scrub S v) y
  | .own i o n, y, h | .argo _ i o n, y, h => by
    simp only [Aw.scrub]
    cases S.contains i with
    | true => simp only [cond_true]; rw [VR]; trivial
    | false => exact h
  | .bp i o, y, h => by
    simp only [Aw.scrub]
    cases S.contains i with
    | true => simp only [cond_true]; rw [VR]; trivial
    | false => exact h
  | .agg l, y, h => by simp only [Aw.scrub]; rw [VR] at *; obtain ⟨xs, rfl, hx⟩ := h; exact ⟨xs, rfl, VRl.scrub l _ hx⟩
  | .tup l, y, h => by simp only [Aw.scrub]; rw [VR] at *; obtain ⟨xs, rfl, hx⟩ := h; exact ⟨xs, rfl, VRl.scrub l _ hx⟩
  | .fn f l, y, h => by simp only [Aw.scrub]; rw [VR] at *; obtain ⟨xs, rfl, hx⟩ := h; exact ⟨xs, rfl, VRl.scrub l _ hx⟩
  | .t _, y, h | .old _, y, h | .arg _ _, y, h | .argc _ _ _, y, h | .emp, y, h | .dead _, y, h | .junk, y, h => by simpa only [Aw.scrub] using h
theorem VRl.scrub {vs : Env} {w : World} {μ : Nat → Option Nat} {ok : Nat → Prop} {S : List Nat} : ∀ (l : List AV) (xs : List Value), VRl vs w μ ok l xs → VRl vs w μ ok (scrubL S l) xs
  | [], xs, h => by simpa only [scrubL] using h
  | v :: r, xs, h => by
    simp only [scrubL]
    rw [VRl] at *
    obtain ⟨x, ys, rfl, hx, hr⟩ := h
    exact ⟨x, ys, rfl, VR.scrub v x hx, VRl.scrub r ys hr⟩
end

end Go.Aw
