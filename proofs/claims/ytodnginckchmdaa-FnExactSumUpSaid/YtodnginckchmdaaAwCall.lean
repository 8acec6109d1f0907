/- Contracts; calls. -/
import Derived.Test.YtodnginckchmdaaAwApp
set_option linter.unusedVariables false
namespace Go.Aw
open Go.RowKit (Below)

/-- what a call hands back -/
inductive RV where
  | t (t : T)
  | arg (i : Nat)
  | argc (i j : Nat)
  | own (j n : Nat)
  | cut (j off n : Nat)
  | agg (l : List RV)
  | tup (l : List RV)

mutual
def RRel (args : List Value) (w : World) (μ : Nat → Option Nat) (ok : Nat → Prop) : RV → Value → Prop
  | .t t, y => TR w ok t y
  | .arg i, y => args[i]? = some y
  | .argc i j, y => ∃ xs : Array Value, args[i]? = some (.agg xs) ∧ xs[j]? = some y
  | .own j n, y => (μ j = none ∧ n = 0 ∧ y = .slice none 0 0) ∨ ∃ b cap e m, μ j = some b ∧ y = .slice (some ⟨b, 0, none⟩) n cap ∧ w.shape? b = some (e, m) ∧ cap ≤ m ∧ n ≤ cap
  | .cut j off n, y => (μ j = none ∧ off = 0 ∧ n = 0 ∧ y = .slice none 0 0) ∨ ∃ b cap e m, μ j = some b ∧ y = .slice (some ⟨b, off, none⟩) n cap ∧ w.shape? b = some (e, m) ∧ off + cap ≤ m ∧ n ≤ cap
  | .agg l, y => ∃ xs : Array Value, y = .agg xs ∧ RRell args w μ ok l xs.toList
  | .tup l, y => ∃ xs : Array Value, y = .tuple xs ∧ RRell args w μ ok l xs.toList
def RRell (args : List Value) (w : World) (μ : Nat → Option Nat) (ok : Nat → Prop) : List RV → List Value → Prop
  | [], xs => xs = []
  | t :: r, xs => ∃ x ys, xs = x :: ys ∧ RRel args w μ ok t x ∧ RRell args w μ ok r ys
end

def Enters (P : Program) (f : FuncId) : Prop := ∃ fn, P.funcs[f]? = some fn ∧ fn.body.isSome = true ∧ (fn.name == "runtime.NumGoroutine") = false

/-- **A contract**: called with arguments that read as 'ts' (in whatever memory) the function returns 'rv'; the slices that it makes are the blocks 'hs', its caller's own from then on; what was there before has not changed. -/
def TCall (P : Program) (f : FuncId) (ts : List T) (rv : RV) (hs : List (Nat × Blk)) : Prop :=
  Enters P f ∧ ∀ (w : World) (args : List Value), TRl w (fun _ => True) ts args → Calls P f args.toArray w fun e w' =>
    ∃ y μ, e = .returned y ∧ HC ⟨args, w.heap.size, noLoan⟩ w μ (lkH hs) w' ∧ RRel args w' μ (okF ⟨args, w.heap.size, noLoan⟩ (okOf μ (lkH hs))) rv y

/-! ### a function's body -/

/-- numbers are taken as numbers, all else keeps its name -/
def argS (v : AV) : T → AV
  | .f k c => .t (.f k c)
  | .v x => .t (.v x)
  | _ => v
theorem argS_VR {vs : Env} {w : World} {μ : Nat → Option Nat} {ok : Nat → Prop} {v : AV} {t : T} {y : Value} (h : TR w ok t y) (hv : VR vs w μ ok v y) : VR vs w μ ok (argS v t) y := by
  cases t with
  | f k c => simp only [argS]; rw [VR]; rw [TR] at *; exact h
  | v x => simp only [argS]; rw [VR]; rw [TR] at *; exact h
  | _ => exact hv

def argCs (i : Nat) : Nat → List T → List AV
  | _, [] => []
  | j, t :: r => argS (.argc i j t) t :: argCs i (j + 1) r
def argAV (i : Nat) : T → AV
  | .agg l => .agg (argCs i 0 l)
  | t => argS (.arg i t) t
def argsL : Nat → List T → List (Nat × AV)
  | _, [] => []
  | i, t :: r => (i, argAV i t) :: argsL (i + 1) r

theorem argAV_VR {w : World} {μ : Nat → Option Nat} {ok : Nat → Prop} {args : List Value} {base i : Nat} {lo : Nat → Prop} {t : T} {y : Value} (hi : args[i]? = some y) (h : TR w ok t y) : VR ⟨args, base, lo⟩ w μ ok (argAV i t) y := by
  have cs : ∀ (l : List T) (j : Nat) (xs : Array Value), y = .agg xs → TRl w ok l (xs.toList.drop j) → VRl ⟨args, base, lo⟩ w μ ok (argCs i j l) (xs.toList.drop j) := by
    intro l
    induction l with
    | nil => intro j xs _ h; rw [TRl] at h; simp only [argCs]; rw [VRl]; exact h
    | cons t r ih =>
      intro j xs hy h
      rw [TRl] at h
      obtain ⟨x, ys, hx, ht, hr⟩ := h
      have hj : xs.toList[j]? = some x := by
        have := congrArg (fun l => l[0]?) hx
        simpa using this
      have hd : xs.toList.drop (j + 1) = ys := by
        have := congrArg (List.drop 1) hx
        simpa [List.drop_drop, Nat.add_comm] using this
      simp only [argCs]
      rw [VRl]
      refine ⟨x, ys, hx, ?_, ?_⟩
      · refine argS_VR ht ?_
        rw [VR]; exact ⟨⟨xs, by rw [← hy]; exact hi, by simpa using hj⟩, ht⟩
      · rw [← hd]; exact ih (j + 1) xs hy (by rw [hd]; exact hr)
  cases t with
  | agg l =>
    rw [TR] at h
    obtain ⟨xs, hy, hl⟩ := h
    simp only [argAV]
    rw [VR]
    exact ⟨xs, hy, by simpa using cs l 0 xs hy (by simpa using hl)⟩
  | _ => simp only [argAV]; refine argS_VR h ?_; rw [VR]; exact ⟨hi, h⟩

theorem argsL_lk (ts : List T) : ∀ (i n : Nat), lkF (argsL i ts) n = if n < i then .junk else match ts[n - i]? with | some t => argAV n t | none => .junk := by
  induction ts with
  | nil => intro i n; simp [argsL, lkF]
  | cons t r ih =>
    intro i n
    simp only [argsL, lkF]
    cases hb : Nat.beq n i with
    | true =>
      have := Nat.eq_of_beq_eq_true hb
      subst this; simp
    | false =>
      have hne : n ≠ i := fun h => by subst h; simp at hb
      simp only [cond_false, ih]
      by_cases h1 : n < i
      · rw [if_pos (by omega), if_pos h1]
      · rw [if_neg (by omega), if_neg h1]
        have : n - i = (n - (i + 1)) + 1 := by omega
        rw [this]; simp

theorem start_StR {w : World} {ts : List T} {args : List Value} (h : TRl w (fun _ => True) ts args) {N : Nat} (hN : ts.length ≤ N) :
    StR ⟨args, w.heap.size, noLoan⟩ N w (fun _ => none) (lkF (argsL 0 ts)) (lkH []) { tmps := args.toArray ++ Array.replicate (N - args.toArray.size) undef, defers := [] } w := by
  obtain ⟨hlen, hall⟩ := (TRl_iff ..).1 h
  refine ⟨⟨rfl, Bel.refl _ _, fun i B hB => by simp [lkH] at hB, fun i j b hi => by simp [lkH] at hi⟩, ?_, rfl, fun n => ?_⟩
  · simp; omega
  · rw [argsL_lk]
    simp only [Nat.not_lt_zero, if_false, Nat.sub_zero]
    cases ht : ts[n]? with
    | none => simp only []; rw [VR]; trivial
    | some t =>
      obtain ⟨y, hy, hr⟩ := hall n t ht
      have hlt : n < args.length := (List.getElem?_eq_some_iff.1 hy).1
      have e : (args.toArray ++ Array.replicate (N - args.toArray.size) undef).getD n undef = y := by
        simp [Array.getD_eq_getD_getElem?, Array.getElem?_append, hlt]
        have := (List.getElem?_eq_some_iff.1 hy).2
        exact this
      simp only []
      rw [e]
      exact argAV_VR hy (TR.weak (fun b _ i hi => by simp [lkH] at hi) hr)

/-- the function's results stand as 'v' -/
def RetA (P : Program) (fn : Func) (v : AV) (ρ : Fr) (η : Hp) : Prop :=
  ∀ (vs : Env) (N : Nat) (w0 : World) (μ : Nat → Option Nat) (a : Act) (w : World), StR vs N w0 μ ρ η a w → ∃ y, (results fn a.tmps).run P w = .ok y w ∧ VR vs w μ (okOf μ η) v y

def resGet (tmps : Array Value) : ResultVar → Sem Value
  | .tmp t => pure (tmps.getD t undef)
  | .cell a t => do loadVar t (← asAddr (tmps.getD a undef))
theorem results_eq (fn : Func) (tmps : Array Value) : results fn tmps = (do
    let vs ← fn.results.mapM (resGet tmps)
    pure (if h : vs.size = 1 then vs[0] else .tuple vs)) := by
  unfold results
  have : (fun x => match x with
    | ResultVar.tmp t => pure (tmps.getD t undef)
    | ResultVar.cell a t => do loadVar t (← asAddr (tmps.getD a undef)) : ResultVar → Sem Value) = resGet tmps := by
    funext x; cases x <;> rfl
  rw [← this]
  rfl
def joinA : List AV → AV
  | [v] => v
  | l => .tup l

/-- one result -/
inductive ResA (ty : Ty) (ρ : Fr) (η : Hp) : ResultVar → AV → Prop
  | tmp {t : Tmp} : ResA ty ρ η (.tmp t) (ρ t)
  | cell {a : Tmp} {t : TypeId} {e : TE} {id : Nat} {e0 : TypeId} {l : List AV} (ha : ρ a = .bp id 0) (hη : η id = some (.box e0 l)) (ht : ty.get t = some e) (hk : e.d.known = true) (hg : e.d.agg = true) (hs : Nat.beq e.size l.length = true) : ResA ty ρ η (.cell a t) (.agg l)
  | cell1 {a : Tmp} {t : TypeId} {e : TE} {id : Nat} {e0 : TypeId} {v : AV} (ha : ρ a = .bp id 0) (hη : η id = some (.box e0 [v])) (ht : ty.get t = some e) (hk : e.d.known = true) (hg : e.d.agg = false) : ResA ty ρ η (.cell a t) v
inductive ResAl (ty : Ty) (ρ : Fr) (η : Hp) : List ResultVar → List AV → Prop
  | nil : ResAl ty ρ η [] []
  | cons {r : ResultVar} {v : AV} {rs : List ResultVar} {vs : List AV} (h : ResA ty ρ η r v) (hs : ResAl ty ρ η rs vs) : ResAl ty ρ η (r :: rs) (v :: vs)

theorem resA_run {P : Program} {ty : Ty} (hT : TyOk P ty) {vs : Env} {N : Nat} {w0 : World} {μ : Nat → Option Nat} {ρ : Fr} {η : Hp} {a : Act} {w : World} (hs : StR vs N w0 μ ρ η a w) {r : ResultVar} {v : AV} (h : ResA ty ρ η r v) :
    ∃ y, (resGet a.tmps r).run P w = .ok y w ∧ VR vs w μ (okOf μ η) v y := by
  cases h with
  | tmp => exact ⟨_, rfl, hs.slots _⟩
  | @cell p t e id e0 l ha hη ht hk hg hsz =>
    have hv := hs.slots p
    rw [ha, VR] at hv
    obtain ⟨b, hμ, hv⟩ := hv
    obtain ⟨b', cs, hb', _, hw, hcs⟩ := hs.hc.blk id _ hη
    rw [hb'] at hμ; cases hμ
    have hlen := ((VRl_iff ..).1 hcs).1
    have hsz := Nat.eq_of_beq_eq_true hsz
    have hr := loadVar_agg (P := P) (w := w) (b := b) (off := 0) (l := cs.toList) (hT.get ht) hk hg (by rw [hsz, hlen]) (fun j y hj => by rw [cell_of_block hw, Nat.zero_add, ← Array.getElem?_toList]; exact hj)
    refine ⟨.agg cs, ?_, by rw [VR]; exact ⟨cs, rfl, hcs⟩⟩
    simp only [resGet, hv, asAddr]
    simpa using hr
  | @cell1 p t e id e0 v ha hη ht hk hg =>
    have hv := hs.slots p
    rw [ha, VR] at hv
    obtain ⟨b, hμ, hv⟩ := hv
    obtain ⟨b', cs, hb', _, hw, hcs⟩ := hs.hc.blk id _ hη
    rw [hb'] at hμ; cases hμ
    obtain ⟨y, hy, hr⟩ := ((VRl_iff ..).1 hcs).2 0 v rfl
    have hr' := loadVar_scalar (P := P) (w := w) (b := b) (off := 0) (hT.get ht) hk hg (by rw [cell_of_block hw, ← Array.getElem?_toList]; exact hy)
    refine ⟨y, ?_, hr⟩
    simp only [resGet, hv, asAddr]
    simpa using hr'

theorem retA_of {P : Program} {ty : Ty} (hT : TyOk P ty) {fn : Func} {rs : List ResultVar} (hf : fn.results.toList = rs) {ρ : Fr} {η : Hp} {l : List AV} (h : ResAl ty ρ η rs l) :
    RetA P fn (joinA l) ρ η := by
  intro vs N w0 μ a w hs
  have key : ∀ (rs : List ResultVar) (l : List AV), ResAl ty ρ η rs l → ∃ ys : List Value, (rs.mapM (resGet a.tmps)).run P w = .ok ys w ∧ VRl vs w μ (okOf μ η) l ys := by
    intro rs l h
    induction h with
    | nil => exact ⟨[], by simp, by rw [VRl]⟩
    | @cons r v rs vs' h _ ih =>
      obtain ⟨y, hy, hv⟩ := resA_run hT hs h
      obtain ⟨ys, hys, hvs⟩ := ih
      refine ⟨y :: ys, ?_, by rw [VRl]; exact ⟨y, ys, rfl, hv, hvs⟩⟩
      rw [List.mapM_cons]
      simp only [Sem.run_bind, hy, Result.andThen_ok, hys, Sem.run_pure]
  obtain ⟨ys, hys, hvs⟩ := key rs l h
  have hr : (fn.results.mapM (resGet a.tmps)).run P w = .ok ys.toArray w := by
    have : fn.results = rs.toArray := by rw [← hf]
    rw [this, List.mapM_toArray, Sem.run_map, hys]; rfl
  have hlen := ((VRl_iff ..).1 hvs).1
  rw [results_eq]
  simp only [Sem.run_bind, hr, Result.andThen_ok]
  match l, ys, hvs, hlen with
  | [], [], hvs, _ => exact ⟨.tuple #[], by simp, by simp only [joinA]; rw [VR]; exact ⟨#[], rfl, hvs⟩⟩
  | [v], [y], hvs, _ =>
    rw [VRl] at hvs
    obtain ⟨x, zs, e, hv, _⟩ := hvs
    simp only [List.cons.injEq] at e
    obtain ⟨rfl, rfl⟩ := e
    exact ⟨y, by simp, hv⟩
  | v :: v' :: l, y :: y' :: ys, hvs, _ =>
    refine ⟨.tuple (y :: y' :: ys).toArray, by simp, ?_⟩
    simp only [joinA]
    rw [VR]
    exact ⟨_, rfl, hvs⟩

/-- how the state's own results become the caller's -/
inductive RetRel (π : Nat → Option Nat) : AV → RV → Prop
  | t {t : T} : RetRel π (.t t) (.t t)
  | arg {i : Nat} {t : T} : RetRel π (.arg i t) (.arg i)
  | argc {i j : Nat} {t : T} : RetRel π (.argc i j t) (.argc i j)
  | own {id j n : Nat} (h : π j = some id) : RetRel π (.own id 0 n) (.own j n)
  | cut {id j off n : Nat} (h : π j = some id) : RetRel π (.own id off n) (.cut j off n)
  | emp {c : T} (h : c.isSl = true) (hn : c.len = 0) : RetRel π .emp (.t c)
  | nilc {j off n : Nat} (h : π j = none) (ho : off = 0) (hn : n = 0) : RetRel π (.t (.v (.slice none 0 0))) (.cut j off n)
  | nil {j n : Nat} (h : π j = none) (hn : n = 0) : RetRel π (.t (.v (.slice none 0 0))) (.own j n)
  | agg {l : List AV} {m : List RV} (h : l.length = m.length) (hs : ∀ (i : Nat) (v : AV) (r : RV), l[i]? = some v → m[i]? = some r → RetRel π v r) : RetRel π (.agg l) (.agg m)
  | tup {l : List AV} {m : List RV} (h : l.length = m.length) (hs : ∀ (i : Nat) (v : AV) (r : RV), l[i]? = some v → m[i]? = some r → RetRel π v r) : RetRel π (.tup l) (.tup m)

theorem RRell_iff (args : List Value) (w : World) (μ : Nat → Option Nat) (ok : Nat → Prop) (l : List RV) (xs : List Value) :
    RRell args w μ ok l xs ↔ l.length = xs.length ∧ ∀ (i : Nat) (v : RV), l[i]? = some v → ∃ x, xs[i]? = some x ∧ RRel args w μ ok v x := by
  induction l generalizing xs with
  | nil => cases xs <;> simp [RRell]
  | cons t r ih =>
    rw [RRell]
    constructor
    · rintro ⟨x, ys, rfl, hx, hr⟩
      obtain ⟨h1, h2⟩ := (ih ys).1 hr
      refine ⟨by simp [h1], fun i u hu => ?_⟩
      cases i with
      | zero => simp at hu; subst hu; exact ⟨x, rfl, hx⟩
      | succ i => simpa using h2 i u (by simpa using hu)
    · rintro ⟨h1, h2⟩
      cases xs with
      | nil => simp at h1
      | cons x ys =>
        obtain ⟨x', hx', h⟩ := h2 0 t rfl
        simp at hx'; subst hx'
        exact ⟨_, _, rfl, h, (ih ys).2 ⟨by simpa using h1, fun i u hu => by simpa using h2 (i + 1) u (by simpa using hu)⟩⟩

theorem retRel_RRel {vs : Env} {w : World} {μ : Nat → Option Nat} {ok ok' : Nat → Prop} {π : Nat → Option Nat} (hok : ∀ b, ok b → ok' b) {v : AV} {r : RV} (h : RetRel π v r) :
    ∀ {y : Value}, VR vs w μ ok v y → RRel vs.a w (fun j => (π j).bind μ) (okF vs ok') r y := by
  induction h with
  | t => intro y hy; rw [VR] at hy; rw [RRel]; exact TR.weak (fun b hb => ⟨hok b hb.1, hb.2⟩) hy
  | arg => intro y hy; rw [VR] at hy; rw [RRel]; exact hy.1
  | argc => intro y hy; rw [VR] at hy; rw [RRel]; exact hy.1
  | own h =>
    intro y hy
    rw [VR] at hy
    rw [RRel]
    simp only [h, Option.bind_some]
    rcases hy with ⟨h1, _, h2, h3⟩ | ⟨b, cap, e, n, h1, h2, h3, h4, h5⟩
    · exact .inl ⟨h1, h2, h3⟩
    · exact .inr ⟨b, cap, e, n, h1, h2, h3, by omega, h5⟩
  | nil h hn =>
    intro y hy
    rw [VR, TR] at hy
    rw [RRel]
    exact .inl ⟨by simp [h], hn, hy⟩
  | cut h =>
    intro y hy
    rw [VR] at hy
    rw [RRel]
    simp only [h, Option.bind_some]
    exact hy
  | emp h hn =>
    intro y hy
    rw [VR] at hy
    obtain ⟨a, rfl⟩ := hy
    rw [RRel]
    exact (TR_sl w _ _ h _).2 ⟨a, 0, 0, rfl, hn.symm, Nat.le_refl _, .inl rfl⟩
  | nilc h ho hn =>
    intro y hy
    rw [VR, TR] at hy
    rw [RRel]
    exact .inl ⟨by simp [h], ho, hn, hy⟩
  | agg h hs ih =>
    intro y hy
    rw [VR] at hy
    obtain ⟨xs, rfl, hx⟩ := hy
    obtain ⟨h1, h2⟩ := (VRl_iff ..).1 hx
    rw [RRel]
    refine ⟨xs, rfl, (RRell_iff ..).2 ⟨by rw [← h, h1], fun i r hr => ?_⟩⟩
    rename_i l m
    have hi : i < l.length := by rw [h]; exact (List.getElem?_eq_some_iff.1 hr).1
    obtain ⟨x, hx, hv⟩ := h2 i l[i] (by simp [hi])
    exact ⟨x, hx, ih i _ r (by simp [hi]) hr hv⟩
  | tup h hs ih =>
    intro y hy
    rw [VR] at hy
    obtain ⟨xs, rfl, hx⟩ := hy
    obtain ⟨h1, h2⟩ := (VRl_iff ..).1 hx
    rw [RRel]
    refine ⟨xs, rfl, (RRell_iff ..).2 ⟨by rw [← h, h1], fun i r hr => ?_⟩⟩
    rename_i l m
    have hi : i < l.length := by rw [h]; exact (List.getElem?_eq_some_iff.1 hr).1
    obtain ⟨x, hx, hv⟩ := h2 i l[i] (by simp [hi])
    exact ⟨x, hx, ih i _ r (by simp [hi]) hr hv⟩

/-- the blocks handed back -/
def wkO (π : Nat → Option Nat) (η : Hp) : List (Nat × Blk) → Prop
  | [] => True
  | (j, B) :: r => (match π j with
      | some id => η id = some B
      | none => ∃ e c, B = .sl e c ∧ c.isSl = true ∧ c.len = 0) ∧ wkO π η r
def noBox : List (Nat × Blk) → Bool
  | [] => true
  | (_, .sl _ _) :: r => noBox r
  | _ => false
def injO (π : Nat → Option Nat) (l : List (Nat × Blk)) : Prop := ∀ i j a, (lkH l i).isSome → (lkH l j).isSome → π i = some a → π j = some a → i = j

theorem wkO_lk {π : Nat → Option Nat} {η : Hp} {l : List (Nat × Blk)} (h : wkO π η l) (i : Nat) (B : Blk) (hl : lkH l i = some B) : match π i with
      | some id => η id = some B
      | none => ∃ e c, B = .sl e c ∧ c.isSl = true ∧ c.len = 0 := by
  induction l with
  | nil => simp [lkH] at hl
  | cons p r ih =>
    obtain ⟨s, v⟩ := p
    simp only [lkH] at hl
    cases hb : Nat.beq i s with
    | true => simp only [hb, cond_true, Option.some.injEq] at hl; subst hl; rw [Nat.eq_of_beq_eq_true hb]; exact h.1
    | false => simp only [hb, cond_false] at hl; exact ih h.2 hl
theorem noBox_lk {l : List (Nat × Blk)} (h : noBox l = true) (i : Nat) (B : Blk) (hl : lkH l i = some B) : ∃ e c, B = .sl e c := by
  induction l with
  | nil => simp [lkH] at hl
  | cons p r ih =>
    obtain ⟨s, v⟩ := p
    cases v with
    | box e l => simp [noBox] at h
    | sl e c =>
      simp only [lkH] at hl
      cases hb : Nat.beq i s with
      | true => simp only [hb, cond_true, Option.some.injEq] at hl; subst hl; exact ⟨e, c, rfl⟩
      | false => simp only [hb, cond_false] at hl; exact ih (by simpa [noBox] using h) hl

def RetQ (P : Program) (fn : Func) (rv : RV) (hs : List (Nat × Blk)) (e : Exit) (ρ : Fr) (η : Hp) : Prop :=
  (e = .normal ∨ e = .ret) ∧ ∃ v π, RetA P fn v ρ η ∧ RetRel π v rv ∧ wkO π η hs ∧ injO π hs

/-- **A contract out of the walk of the body.** -/
theorem tcall_of {P : Program} {f : FuncId} {fn : Func} {c : Code} {ts : List T} {rv : RV} {hs : List (Nat × Blk)} (hf : P.funcs[f]? = some fn) (hb : fn.body = some c) (hn : (fn.name == "runtime.NumGoroutine") = false)
    (hN : ts.length ≤ fn.ntmps) (hbox : noBox hs = true) (h : AWp P fn.ntmps c (RetQ P fn rv hs) (lkF (argsL 0 ts)) (lkH [])) : TCall P f ts rv hs := by
  refine ⟨⟨fn, hf, by rw [hb]; rfl, hn⟩, fun w args hargs => ?_⟩
  refine calls_of_wp hf hb (wp_mono (h _ _ _ _ _ (start_StR hargs hN)) ?_)
  rintro e a' w' ⟨ρ', η', μ', ⟨he, v, π, hR, hrel, hwk, hinj⟩, hst⟩
  obtain ⟨y, hy, hv⟩ := hR _ _ _ _ _ _ hst
  have hok : ∀ b, okOf μ' η' b → okOf (fun j => (π j).bind μ') (lkH hs) b := fun b hb i hi => by
    obtain ⟨B, hB⟩ := Option.isSome_iff_exists.1 hi
    have := wkO_lk hwk i B hB
    cases hp : π i with
    | none => simp [hp]
    | some id => rw [hp] at this; simp only [hp, Option.bind_some]; exact hb id (by rw [this]; rfl)
  have fin : a'.defers = [] ∧ ∃ v, (results fn a'.tmps).run P w' = .ok v w' ∧ ∃ y μ, (Ending.returned v) = .returned y ∧ HC ⟨args, w.heap.size, noLoan⟩ w μ (lkH hs) w' ∧ RRel args w' μ (okF ⟨args, w.heap.size, noLoan⟩ (okOf μ (lkH hs))) rv y := by
    refine ⟨hst.defers, y, hy, y, fun j => (π j).bind μ', rfl, ⟨rfl, hst.hc.below, fun i B hB => ?_, fun i j b hi hj h1 h2 => ?_⟩, ?_⟩
    · have hw := wkO_lk hwk i B hB
      obtain ⟨e0, c0, rfl⟩ := noBox_lk hbox i B hB
      cases hp : π i with
      | none =>
        rw [hp] at hw
        obtain ⟨e, c, heq, h1, h2⟩ := hw
        cases heq
        exact ⟨h1, .inl ⟨by simp [hp], h2⟩⟩
      | some id =>
        rw [hp] at hw
        obtain ⟨g0, g⟩ := hst.hc.blk id _ hw
        refine ⟨g0, ?_⟩
        simp only [hp, Option.bind_some]
        refine Or.imp (fun x => x) ?_ g
        rintro ⟨b, cs, h1, h2, h3, h4, h5⟩
        exact ⟨b, cs, h1, h2, h3, h4, TRl.mono (fun b hb hk => ⟨hb, ⟨hok b hk.1, hk.2⟩, rfl⟩) _ _ h5⟩
    · obtain ⟨B, hB⟩ := Option.isSome_iff_exists.1 hi
      obtain ⟨B', hB'⟩ := Option.isSome_iff_exists.1 hj
      have hwi := wkO_lk hwk i B hB
      have hwj := wkO_lk hwk j B' hB'
      cases hpi : π i with
      | none => simp [hpi] at h1
      | some a =>
        cases hpj : π j with
        | none => simp [hpj] at h2
        | some a' =>
          rw [hpi] at hwi; rw [hpj] at hwj
          simp only [hpi, Option.bind_some] at h1
          simp only [hpj, Option.bind_some] at h2
          have := hst.hc.inj a a' b (by rw [hwi]; rfl) (by rw [hwj]; rfl) h1 h2
          subst this
          exact hinj i j a hi hj hpi hpj
    · exact retRel_RRel hok hrel hv
  rcases he with rfl | rfl <;> exact fin

end Go.Aw
