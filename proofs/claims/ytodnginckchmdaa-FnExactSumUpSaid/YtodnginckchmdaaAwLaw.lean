/- From a contract to a given statement: arguments opened, the end shut. -/
import Derived.Test.YtodnginckchmdaaAwMore
import Derived.ProofKit
import Derived.Lib.SmallJoins
import Derived.Laws.Cover2
import Derived.Deep.Slices
set_option linter.unusedVariables false
namespace Go.Aw
open Go.RowKit (Below)
open Go.ChangeShapes Go.WideShapes Go.ChangeAt Go.RowKit Go.Deep Go.Joins

theorem carryAll {H : Type} {enc : TypeId × Value → H} {P : Program} (hl : laidOutB P = true) {W W' : World} (hb : Below W.heap.size W W') : ∀ (ts : List TypeId) (vs : List Value) (ds : List (DataW H)) (ps : List MemPlace),
    (ts.all fun t => P.readableRec t && decide (t < P.types.size)) = true → (∀ x ∈ ps, x.block < W.heap.size) → DataW.TrodAll enc P W 0 (fun _ => true) true ts vs ds ps →
    DataW.TrodAll enc P W' 0 (fun b => decide (b < W.heap.size)) true ts vs ds ps := by
  intro ts
  induction ts with
  | nil => intro vs ds ps _ _ h; cases vs <;> cases ds <;> first | exact h | exact h.elim
  | cons t ts ih =>
    intro vs ds ps hts hp h
    cases vs with
    | nil => cases ds <;> exact h.elim
    | cons v vs =>
      cases ds with
      | nil => exact h.elim
      | cons d ds =>
        simp only [List.all_cons, Bool.and_eq_true, decide_eq_true_eq] at hts
        obtain ⟨p, q, h1, h2, rfl⟩ := h
        exact ⟨p, q, Below.trod hl hts.1.1 hts.1.2 h1 hb (fun x hx => hp x (by simp [hx])), ih vs ds q hts.2 (fun x hx => hp x (by simp [hx])) h2, rfl⟩

theorem law_post {H : Type} {enc : TypeId × Value → H} {P : Program} {f : Func} {s : ChangeSpec} {W W' : World} {args : Array Value} {ds : List (DataW H)} {before : List MemPlace} {tb : TypeId} (hl : laidOutB P = true)
    (hps : (f.params.toList.all fun t => P.readableRec t && decide (t < P.types.size)) = true) (hres : f.resultTypes = #[tb]) (htb : P.underlying tb = some .bool) (hvars : s.vars = [])
    (hr : (s.fn H (ds ++ [])).results = [.lit (.bool true)]) (ha : (s.fn H (ds ++ [])).args = ds) (hv : (s.fn H (ds ++ [])).vars = [])
    (hW : DataW.Whole enc P f.params.toList s.vars false W args.toList ds [] before) (hB : Below W.heap.size W W') : s.post enc P f false true false false W args (.bool true) W' := by
  have hlt : ∀ x ∈ before, x.block < W.heap.size := fun x hx => by simpa using hW.lt x hx
  have hW' := hW
  obtain ⟨p, q, hA, hV, rfl, _, _⟩ := hW'
  have hq : q = [] := by rw [hvars] at hV; exact hV
  subst hq
  simp only [List.append_nil] at *
  refine ⟨ds, [], p, [], p, [], hW, ?_, ?_, ?_, ?_, fun h => by cases h⟩
  · rw [List.append_nil, hr, hres]
    exact trodAll_mk1 ⟨1, by simp [DataW.trod, Value.cells, htb]⟩
  · rw [List.append_nil, ha]; exact carryAll hl hB _ _ _ _ hps hlt hA
  · rw [List.append_nil, hv, hvars]; exact rfl
  · exact hB.frame _

/-! ### arguments opened -/
section
variable {H : Type} {enc : TypeId × Value → H} {P : Program} {w : World} {base : Nat} {spare : Nat → Bool} {held : Bool} {r : Reach} {b0 : Nat}
theorem F32_of {b : Nat} (h : (Lit.float .f32 b).wf = true) : FR .f32 b (canon .f32 b) ∧ F32 (canon .f32 b) := by
  have h1 := lt_of_wf h
  have h2 := FR_of h1
  exact ⟨h2, h2.canon, h2.lt⟩
theorem trod_f32 {n : Nat} {t : TypeId} {v : Value} {y : DataW H × List MemPlace} (ht : P.underlying t = some (.float .f32)) (h : DataW.trod enc P w base spare held n t [v] = some y) : ∃ b, v = .float .f32 b ∧ (Lit.float .f32 b).wf = true := by
  cases n with
  | zero => simp [DataW.trod] at h
  | succ n =>
    cases v <;> simp only [DataW.trod, ht] at h <;> first | cases h | skip
    rename_i k b
    cases k with
    | f32 => exact ⟨b, rfl, by by_cases hw : (Lit.float .f32 b).wf = true
                               · exact hw
                               · simp [hw] at h⟩
    | f64 => simp at h
theorem open_F32 {t : TypeId} {v : Value} {d : DataW H} {p : List MemPlace} (ht : P.underlying t = some (.float .f32)) (hd : DataW.Trod enc P w base spare held t v d p) (hv : Value.okWide P w r b0 t v) :
    ∃ c, F32 c ∧ ∀ ok, TR w ok (.f .f32 c) v := by
  obtain ⟨b, rfl, _, _, hw⟩ := open_float ht hv hd
  obtain ⟨h1, h2⟩ := F32_of hw
  exact ⟨_, h2, fun ok => by rw [TR]; exact ⟨b, rfl, h1⟩⟩
theorem open_F4 {t tf : TypeId} {f0 f1 f2 f3 : Field} {v : Value} {d : DataW H} {p : List MemPlace} (hs : P.underlying t = some (.struct #[f0, f1, f2, f3])) (hone : oneCellFields P #[f0, f1, f2, f3] = true) (hC : P.cellsOf t = 4)
    (h0 : f0.type = tf) (h1 : f1.type = tf) (h2 : f2.type = tf) (h3 : f3.type = tf) (ht : P.underlying tf = some (.float .f32)) (hv : Value.okWide P w r b0 t v) (h : DataW.Trod enc P w base spare held t v d p) :
    ∃ a b c e, (F32 a ∧ F32 b ∧ F32 c ∧ F32 e) ∧ ∀ ok, TR w ok (.agg [.f .f32 a, .f .f32 b, .f .f32 c, .f .f32 e]) v := by
  obtain ⟨v0, v1, v2, v3, y0, y1, y2, y3, n, rfl, _, _, k0, k1, k2, k3⟩ := open_agg4 hs hone hC hv h
  rw [h0] at k0; rw [h1] at k1; rw [h2] at k2; rw [h3] at k3
  obtain ⟨x0, rfl, w0⟩ := trod_f32 ht k0
  obtain ⟨x1, rfl, w1⟩ := trod_f32 ht k1
  obtain ⟨x2, rfl, w2⟩ := trod_f32 ht k2
  obtain ⟨x3, rfl, w3⟩ := trod_f32 ht k3
  refine ⟨_, _, _, _, ⟨(F32_of w0).2, (F32_of w1).2, (F32_of w2).2, (F32_of w3).2⟩, fun ok => ?_⟩
  rw [TR]
  refine ⟨_, rfl, ?_⟩
  simp only [TRl, TR]
  exact ⟨_, _, rfl, ⟨_, rfl, (F32_of w0).1⟩, _, _, rfl, ⟨_, rfl, (F32_of w1).1⟩, _, _, rfl, ⟨_, rfl, (F32_of w2).1⟩, _, _, rfl, ⟨_, rfl, (F32_of w3).1⟩, rfl⟩
theorem trod_fl {n : Nat} {t tf : TypeId} {v : Value} {y : DataW H × List MemPlace} (ht : P.underlying t = some (.slice tf)) (hf : P.underlying tf = some (.float .f32)) (hc : P.cellsOf tf = 1)
    (hlt : ∀ x ∈ y.2, x.block < w.heap.size) (h : DataW.trod enc P w base (fun _ => true) held n t [v] = some y) :
    ∃ l : List Nat, (l.length ≤ 9223372036854775807 ∧ ∀ c ∈ l, F32 c) ∧ TRf w (fun _ => True) l v := by
  rcases open_slice1 ht hc h with ⟨h0, _⟩ | ⟨a, len, cap, m, k, V, D, Pl, h0, _, hl, hm, hmm, hx, hel⟩
  · simp at h0; subst h0
    exact ⟨[], ⟨by simp, by simp⟩, none, 0, 0, rfl, rfl, Nat.le_refl _, .inl rfl⟩
  · simp at h0; subst h0
    simp only [if_true] at hmm
    subst hmm
    have hV : ∀ i, i < m → ∃ x, V i = .float .f32 x ∧ (Lit.float .f32 x).wf = true := fun i hi => trod_f32 hf (hel i hi).2
    let bits : Nat → Nat := fun i => match V i with | .float _ x => x | _ => 0
    refine ⟨(List.range len).map fun i => canon .f32 (bits i), ⟨by simp; unfold maxLen at hm; omega, fun c hcm => ?_⟩, some a, len, m, rfl, by simp, hl, ?_⟩
    · simp only [List.mem_map, List.mem_range] at hcm
      obtain ⟨i, hi, rfl⟩ := hcm
      obtain ⟨x, hx1, hx2⟩ := hV i (by omega)
      have : bits i = x := by simp only [bits, hx1]
      rw [this]; exact (F32_of hx2).2
    · by_cases h0 : len = 0
      · exact .inl h0
      · right
        obtain ⟨b, off, sp⟩ := a
        have hs := World.cell?_spot (hel 0 (by omega)).1
        have hs' : sp = none := by simpa [Addr.add] using hs
        subst hs'
        refine ⟨b, off, rfl, ?_, trivial, fun i hi => ?_⟩
        · refine hlt (.cell b off) ?_
          rw [hx]
          exact List.mem_append_left _ (MemPlace.mem_row.2 ⟨0, by omega, by simp⟩)
        · obtain ⟨x, hx1, hx2⟩ := hV i (by omega)
          refine ⟨x, by have := (hel i (by omega)).1; rw [hx1] at this; have e : (⟨b, off, none⟩ : Addr).add i = ⟨b, off + i, none⟩ := by { unfold Addr.add; by_cases h0 : i = 0 <;> simp [h0] }; rw [e] at this; exact this, ?_⟩
          have hb : bits i = x := by simp only [bits, hx1]
          have : ((List.range len).map fun i => canon .f32 (bits i)).getD i 0 = canon .f32 x := by
            simp [List.getD_eq_getElem?_getD, hi, hb]
          rw [this]; exact (F32_of hx2).1
theorem open_FL {t tf : TypeId} {v : Value} {d : DataW H} {p : List MemPlace} (ht : P.underlying t = some (.slice tf)) (hf : P.underlying tf = some (.float .f32)) (hc : P.cellsOf tf = 1)
    (hlt : ∀ x ∈ p, x.block < w.heap.size) (h : DataW.Trod enc P w base (fun _ => true) held t v d p) (hv : Value.okWide P w r b0 t v) :
    ∃ l : List Nat, (l.length ≤ 9223372036854775807 ∧ ∀ c ∈ l, F32 c) ∧ ∀ ok, (∀ b, ok b) → TR w ok (.fl l) v := by
  obtain ⟨fuel, hfu⟩ := h
  obtain ⟨a0, len, cap, rfl⟩ := okWide_slice ht hv
  obtain ⟨l, h1, h2⟩ := trod_fl ht hf hc hlt hfu
  exact ⟨l, h1, fun ok hok => by rw [TR]; exact TRf.mono (fun b hb _ => ⟨hb, hok b, rfl⟩) h2⟩
theorem open_I64 {t : TypeId} {v : Value} {d : DataW H} {p : List MemPlace} (ht : P.underlying t = some (.int .i64)) (hd : DataW.Trod enc P w base spare held t v d p) (hv : Value.okWide P w r b0 t v) :
    ∃ n : Int, (-9223372036854775808 ≤ n ∧ n ≤ 9223372036854775807) ∧ ∀ ok, TR w ok (.v (.int .i64 n)) v := by
  obtain ⟨n, rfl, _, _, hw⟩ := open_int ht hv hd
  refine ⟨n, ?_, fun ok => by rw [TR]⟩
  simp [Lit.wf, IntKind.min, IntKind.max, IntKind.signed, IntKind.bits] at hw
  omega
theorem open_B {t : TypeId} {v : Value} {d : DataW H} {p : List MemPlace} (ht : P.underlying t = some .bool) (hd : DataW.Trod enc P w base spare held t v d p) (hv : Value.okWide P w r b0 t v) :
    ∃ b : Bool, True ∧ ∀ ok, TR w ok (.v (.bool b)) v := by
  obtain ⟨b, rfl, _⟩ := open_bool ht hv hd
  exact ⟨b, trivial, fun ok => by rw [TR]⟩
end
/-- the arguments as data -/
theorem TRl_1 {w : World} {ok : Nat → Prop} {t : T} {v : Value} (h : TR w ok t v) : TRl w ok [t] [v] := by
  simp only [TRl]; exact ⟨_, _, rfl, h, rfl⟩
theorem TRl_cons {w : World} {ok : Nat → Prop} {t : T} {v : Value} {ts : List T} {vs : List Value} (h : TR w ok t v) (hs : TRl w ok ts vs) : TRl w ok (t :: ts) (v :: vs) := by
  simp only [TRl]; exact ⟨_, _, rfl, h, hs⟩
theorem TRl_nil {w : World} {ok : Nat → Prop} : TRl w ok [] [] := by simp only [TRl]

theorem law_calls {P : Program} {f : FuncId} {ts : List T} {W : World} {args : Array Value} (hc : TCall P f ts (.t (.v (.bool true))) []) (ha : TRl W (fun _ => True) ts args.toList) :
    Calls P f args W fun e w' => e = .returned (.bool true) ∧ Below W.heap.size W w' := by
  refine (hc.2 W args.toList ha).mono fun e w' h => ?_
  obtain ⟨y, μ, rfl, hh, hr⟩ := h
  rw [RRel, TR] at hr
  subst hr
  exact ⟨rfl, hh.below.below (fun _ h => h)⟩
end Go.Aw
