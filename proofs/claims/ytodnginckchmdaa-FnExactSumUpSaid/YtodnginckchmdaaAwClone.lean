/- Slices of no capacity; what is appended to them. -/
import Derived.Test.YtodnginckchmdaaAwPi
import Derived.Test.YtodnginckchmdaaAwMore
set_option linter.unusedVariables false
namespace Go.Aw
open Go.RowKit (Below)
section
variable {P : Program} {o : Oper} {F : List Nat} {ρ : Fr} {η : Hp} {ty : Ty}

theorem cut0_run {t u : TypeId} {e eu : TE} (hT : TyOk P ty) (ht : ty.get t = some e) (hsl : e.d = .sl u) (hu : ty.get u = some eu) {a : Option Addr} {n cap : Nat} {w : World} {k k' : IntKind} :
    (Instr.sliceAt t (.slice a n cap) none (some (.int k 0)) (some (.int k' 0))).run P w = .ok (.slice a 0 0) w := by
  have hus := (hT.get ht).slice hsl
  have hsz := (hT.get hu).sizeOf (w := w)
  simp [Instr.sliceAt, Instr.slice, run_underlying hus, Instr.sliceBounds, Instr.sliceBound, asIntOf, hsz]
/-- 'x[:0:0]' -/
theorem q_cut0 {t u : TypeId} {e eu : TE} {x : Operand} {k k' : IntKind} (hT : TyOk P ty) (ho : o.op = .slice t x none (some (.const (.int k 0))) (some (.const (.int k' 0))))
    (ht : ty.get t = some e) (hsl : e.d = .sl u) (hu : ty.get u = some eu) {dd : Bool} {c : T} (hx : (evA ρ x).tr = some (dd, c)) (hc : c.isSl = true) : QRun P o F [] ρ η .emp (lkH []) := by
  refine qrun_val fun vs w0 μ η' a w g1 g2 g3 => ?_
  have hx' := VR_tr (g3 x (by simp [ho, Op.operands])) hx
  obtain ⟨a0, n, cp, hv, hn, hncp, hcell⟩ := (TR_sl w _ c hc _).1 hx'
  have hr := cut0_run (P := P) (w := w) (a := a0) (n := n) (cap := cp) (k := k) (k' := k') hT ht hsl hu
  exact ⟨.slice a0 0 0, w.drawn, by simp [execOp, ho, hv, hr, show a.eval (.const (.int k 0)) = .int k 0 from rfl, show a.eval (.const (.int k' 0)) = .int k' 0 from rfl], by rw [VR]; exact ⟨a0, rfl⟩⟩
theorem q_cut0_own {t u : TypeId} {e eu : TE} {x : Operand} {k k' : IntKind} (hT : TyOk P ty) (ho : o.op = .slice t x none (some (.const (.int k 0))) (some (.const (.int k' 0))))
    (ht : ty.get t = some e) (hsl : e.d = .sl u) (hu : ty.get u = some eu) {id off n : Nat} (hx : (evA ρ x).own? = some (id, off, n)) : QRun P o F [] ρ η .emp (lkH []) := by
  refine qrun_val fun vs w0 μ η' a w g1 g2 g3 => ?_
  have hx' := VR_own (g3 x (by simp [ho, Op.operands])) hx
  rw [VR] at hx'
  rcases hx' with ⟨_, _, _, hv⟩ | ⟨b, cp, e0, m, _, hv, _⟩
  · have hr := cut0_run (P := P) (w := w) (a := none) (n := 0) (cap := 0) (k := k) (k' := k') hT ht hsl hu
    exact ⟨.slice none 0 0, w.drawn, by simp [execOp, ho, hv, hr, show a.eval (.const (.int k 0)) = .int k 0 from rfl, show a.eval (.const (.int k' 0)) = .int k' 0 from rfl], by rw [VR]; exact ⟨none, rfl⟩⟩
  · have hr := cut0_run (P := P) (w := w) (a := some ⟨b, off, none⟩) (n := n) (cap := cp) (k := k) (k' := k') hT ht hsl hu
    exact ⟨.slice (some ⟨b, off, none⟩) 0 0, w.drawn, by simp [execOp, ho, hv, hr, show a.eval (.const (.int k 0)) = .int k 0 from rfl, show a.eval (.const (.int k' 0)) = .int k' 0 from rfl], by rw [VR]; exact ⟨_, rfl⟩⟩

theorem q_len_emp {t : TypeId} {e : TE} {u : TypeId} {x : Operand} (hT : TyOk P ty) (ho : o.op = .call { callee := .builtin .len, args := #[x], argTypes := #[t] })
    (ht : ty.get t = some e) (hd : e.d = .sl u) (hx : evA ρ x = .emp) : QRun P o F [] ρ η (.t (.v (.int .i64 0))) (lkH []) := by
  refine qrun_v fun vs w0 μ η' a w h1 h2 h3 => ?_
  have hx' := h3 x (by simp [ho, Op.operands, Call.operands])
  rw [hx, VR] at hx'
  obtain ⟨a0, hy⟩ := hx'
  have hu := (hT.get ht).slice hd
  simp [execOp, ho, resolve, invoke, builtin, Builtin.len_, hy, run_underlying hu, goInt]

/-- nothing appended -/
theorem q_app_emp0 {t u : TypeId} {e eu : TE} {tys : Array TypeId} {s x : Operand} {c2 : T} (hT : TyOk P ty) (ho : o.op = .call { callee := .builtin .append, args := #[s, x], argTypes := tys }) (htys : tys = #[t, t])
    (ht : ty.get t = some e) (hsl : e.d = .sl u) (hu : ty.get u = some eu) (hs1 : eu.size = 1) (hs : evA ρ s = .emp) (hx : Src F η (evA ρ x) c2) (hc2 : c2.isSl = true) (h0 : c2.len = 0) : QRun P o F [] ρ η .emp (lkH []) := by
  refine qrun_val fun vs w0 μ η' a w h1 h2 h3 => ?_
  subst htys
  have hs' := h3 s (by simp [ho, Op.operands, Call.operands])
  have hx' := h3 x (by simp [ho, Op.operands, Call.operands])
  obtain ⟨ax, cp, news, hxv, hl, hnews, hf⟩ := src_spec (P := P) hx hc2 h1 h2 hx'
  obtain ⟨inf, hinf, g1, g2, g3⟩ := (hT.get hu).info
  have hus := (hT.get ht).slice hsl
  rw [hs1] at g1
  rw [hs, VR] at hs'
  obtain ⟨a0, hsv⟩ := hs'
  have hf0 := hf w.drawn
  have hn0 : news = [] := List.eq_nil_of_length_eq_zero (by omega)
  subst hn0
  rw [h0] at hxv hf0
  have hr := run_app_none (P := P) w (ty' := o.type) (b := a0) (sLen := 0) (sCap := 0) hus hinf g1 hxv hf0 (Nat.le_refl _)
  rw [← hsv] at hr
  exact ⟨.slice a0 0 0, w.drawn, by simp [execOp, ho, resolve, invoke, builtin, hr, ← hsv], by rw [VR]; exact ⟨a0, rfl⟩⟩
/-- 'append(x[:0:0], y...)' -/
theorem q_app_emp {t u : TypeId} {e eu : TE} {tys : Array TypeId} {s x : Operand} {d : Nat} {c2 : T} (hT : TyOk P ty) (ho : o.op = .call { callee := .builtin .append, args := #[s, x], argTypes := tys }) (htys : tys = #[t, t]) (hd : o.dst = some d)
    (ht : ty.get t = some e) (hsl : e.d = .sl u) (hu : ty.get u = some eu) (hs1 : eu.size = 1) (hz1 : eu.z.oneCell' = true)
    (hs : evA ρ s = .emp) (hx : Src F η (evA ρ x) c2) (hc2 : c2.isSl = true) (hone : c2.elems.all oneT = true ∨ c2.flat = true ∨ ∃ l, c2 = .ffl l) (h0 : 0 < c2.len)
    (hb : c2.len * eu.bytes ≤ 140737488355328) (hb2 : c2.len ≤ 140737488355328) :
    QRun P o F [d] ρ η (.own d 0 c2.len) (lkH [(d, .sl u c2)]) := by
  intro vs w0 μ η' a w Q K h1 h2 h3 h4
  subst htys
  have hs' := h3 s (by simp [ho, Op.operands, Call.operands])
  have hx' := h3 x (by simp [ho, Op.operands, Call.operands])
  obtain ⟨ax, cp, news, hxv, hl, hnews, hf⟩ := src_spec (P := P) hx hc2 h1 h2 hx'
  have h1news := oneT_elems hnews hone
  obtain ⟨inf, hinf, g1, g2, g3⟩ := (hT.get hu).info
  have hus := (hT.get ht).slice hsl
  rw [hs1] at g1
  rw [← g2] at hb
  rw [hs, VR] at hs'
  obtain ⟨a0, hsv⟩ := hs'
  have hfo : (Builtin.firstCells 1 0 (a.eval s)).run P w.drew = .ok ([] : List Value).toArray w.drew := by
    rw [hsv]
    cases a0 with
    | none => simp [Builtin.firstCells]
    | some a => simp [Builtin.firstCells, loadCells, loadCellsFrom]
  have hr := run_app_grow (P := P) w (ty' := o.type) hus hinf g3 g1 hsv hfo hxv (hf (w.drawn + 1)) (by omega) (by simpa using hb) (by simpa using hb2)
  simp only [Nat.zero_add] at hr
  have hexec : (execOp a.eval o).run P w = (Result.ok (.slice (some ⟨w.heap.size, 0, none⟩) c2.len (grownCap w c2.len 0 u)) (w.drew.alloc (.cells (([] : List Value).toArray ++ news.toArray ++ Builtin.zeroCells eu.z.cells (grownCap w c2.len 0 u - c2.len)) u))).andThen fun v w' => .ok (.value v) w' := by
    simp [execOp, ho, resolve, invoke, builtin, hr]
  let cs := ([] : List Value).toArray ++ news.toArray ++ Builtin.zeroCells eu.z.cells (grownCap w c2.len 0 u - c2.len)
  have hbel : Below w.heap.size w (w.drew.alloc (.cells cs u)) := ((Below.refl _ _).drew).alloc (Nat.le_refl _) _
  have hnew : (w.drew.alloc (.cells cs u)).heap[w.heap.size]? = some (.cells cs u (0, 0)) := heap_alloc_new w.drew _
  have hcap2 := grownCap_ge w c2.len 0 u
  have hcsz : cs.size = grownCap w c2.len 0 u := by
    simp only [cs, Array.size_append, List.size_toArray, size_zeroCells, cells_one hz1, hl]
    simp; omega
  obtain ⟨hc, hk⟩ := HC_new (i := d) (b := w.heap.size) (B := .sl u c2) h2 hbel (Nat.le_refl _) fun hk => by
    refine ⟨hc2, .inr ⟨_, cs, by simp [updM], .inl h2.below.size, hnew, by rw [hcsz]; exact hcap2, ?_⟩⟩
    have : cs.toList.take c2.len = news := by
      simp only [cs, Array.toList_append, List.nil_append]
      rw [List.take_left' (by simp [hl])]
    rw [this]
    exact TRl.mono hk.treeF _ _ hnews
  unfold Oper.wp
  rw [hexec, Result.andThen_ok, Oper.upon_value]
  refine h4 _ _ _ hc hk ?_
  rw [VR]
  exact .inr ⟨_, _, _, _, by simp [updM], rfl, size_shape hnew, by rw [hcsz]; omega, hcap2⟩
end
end Go.Aw
