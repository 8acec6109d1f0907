/- append. -/
import Derived.Test.YtodnginckchmdaaAwSet
set_option linter.unusedVariables false
namespace Go.Aw
open Go.RowKit (Below)

def T.flat : T → Bool
  | .fl _ | .il _ | .bl _ => true
  | _ => false
theorem flat_any {w : World} {ok ok' : Nat → Prop} {c : T} (hf : c.flat = true) {xs : List Value} (h : TRl w ok c.elems xs) : TRl w ok' c.elems xs := by
  obtain ⟨h1, h2⟩ := (TRl_iff ..).1 h
  refine (TRl_iff ..).2 ⟨h1, fun i u hu => ?_⟩
  obtain ⟨z, hz, hr⟩ := h2 i u hu
  refine ⟨z, hz, ?_⟩
  cases c <;> simp only [T.flat, Bool.false_eq_true] at hf <;> simp only [T.elems, List.getElem?_map, Option.map_eq_some_iff] at hu <;> obtain ⟨v, _, rfl⟩ := hu <;> rw [TR] at * <;> exact hr

def T.app : T → T → T
  | .fl a, .fl b => .fl (a ++ b)
  | .il a, .il b => .il (a ++ b)
  | .bl a, .bl b => .bl (a ++ b)
  | .tl a, .tl b => .tl (a ++ b)
  | .ffl a, .ffl b => .ffl (a ++ b)
  | a, _ => a
def T.same : T → T → Bool
  | .fl _, .fl _ | .il _, .il _ | .bl _, .bl _ | .tl _, .tl _ | .ffl _, .ffl _ => true
  | _, _ => false
theorem T.app_spec {a b : T} (h : T.same a b = true) : (T.app a b).isSl = true ∧ (T.app a b).len = a.len + b.len ∧ (T.app a b).elems = a.elems ++ b.elems ∧ b.isSl = true := by
  cases a <;> cases b <;> simp_all [T.same, T.app, T.isSl, T.len, T.elems]

theorem oneT_elems {c : T} {w : World} {ok : Nat → Prop} {xs : List Value} (h : TRl w ok c.elems xs) (ho : c.elems.all oneT = true ∨ c.flat = true ∨ ∃ l, c = .ffl l) : ∀ z ∈ xs, z.oneCell' = true := by
  obtain ⟨h1, h2⟩ := (TRl_iff ..).1 h
  have hall : ∀ u ∈ c.elems, oneT u = true := by
    rcases ho with ho | ho | ⟨l, rfl⟩
    · simpa using ho
    · intro u hu
      cases c <;> simp only [T.flat, Bool.false_eq_true] at ho <;> simp only [T.elems, List.mem_map] at hu <;> obtain ⟨v, _, rfl⟩ := hu <;> rfl
    · simp [T.elems, oneT]
  intro z hz
  obtain ⟨i, hi, hz⟩ := List.getElem_of_mem hz
  obtain ⟨z', hz', hr⟩ := h2 i c.elems[i] (by rw [List.getElem?_eq_getElem (by omega)])
  rw [List.getElem?_eq_getElem hi] at hz'; cases hz'
  rw [hz] at hr
  exact oneT_one hr (hall _ (List.getElem_mem _))

section
variable {P : Program} {o : Oper} {F : List Nat} {ρ : Fr} {η : Hp} {ty : Ty}

/-- 'x' is a slice of content 'c': a slice of the call's own, whole, or data -/
def Src (F : List Nat) (η : Hp) (x : AV) (c : T) : Prop :=
  (∃ id e, x = .own id 0 c.len ∧ η id = some (.sl e c) ∧ F.contains id = true) ∨ (∃ dd, x.tr = some (dd, c) ∧ (!dd || c.flat) = true)

theorem src_spec {vs : Env} {w0 w : World} {μ : Nat → Option Nat} {η' : Hp} {x : AV} {c : T} {y : Value} (hs : Src F η x c) (hc : c.isSl = true) (hF : ∀ i ∈ F, η' i = η i) (hh : HC vs w0 μ η' w) (hv : VR vs w μ (okOf μ η') x y) :
    ∃ ax cp news, y = .slice ax c.len cp ∧ news.length = c.len ∧ TRl w (okF vs (okOf μ η')) c.elems news ∧ (∀ n, (Builtin.firstCells 1 c.len y).run P { w with drawn := n } = .ok news.toArray { w with drawn := n }) := by
  rcases hs with ⟨id, e, rfl, hη, hf⟩ | ⟨dd, htr, hdd⟩
  · have hη' := (hF id (by simpa using hf)).trans hη
    obtain ⟨_, hB⟩ := hh.blk id _ hη'
    rw [VR] at hv
    rcases hB with ⟨hn, h0⟩ | ⟨b, cs, hb, _, hw, hlen, hcs⟩
    · rcases hv with ⟨_, _, _, rfl⟩ | ⟨b, _, _, _, hb, _⟩
      · refine ⟨none, 0, [], by rw [h0], by simp [h0], ?_, fun n => ?_⟩
        · have : c.elems = [] := List.eq_nil_of_length_eq_zero (by rw [T.len_elems, h0])
          rw [this, TRl]
        · rw [h0]
          simp [Builtin.firstCells]
      · rw [hn] at hb; cases hb
    · rcases hv with ⟨hn, _⟩ | ⟨b', cap, e1, n1, hb', rfl, _⟩
      · rw [hn] at hb; cases hb
      · rw [hb] at hb'; cases hb'
        refine ⟨_, cap, cs.toList.take c.len, rfl, by simp; omega, hcs, fun n => ?_⟩
        have hrun := run_firstCells_some (P := P) { w with drawn := n } 1 c.len ⟨b, 0, none⟩ c.len cap (cs.toList.take c.len) (by simp; omega) (fun j v hj => by
          rw [add1, Nat.zero_add]
          rw [List.getElem?_take] at hj
          split at hj
          · have := cell_of_block (w := { w with drawn := n }) hw j
            rw [this]; simpa using hj
          · cases hj)
        exact hrun
  · have ht := VR_tr hv htr
    obtain ⟨a, n, cp, rfl, hn, _, hcell⟩ := (TR_sl w _ c hc _).1 ht
    subst hn
    rcases hcell with h0 | ⟨b, off, rfl, hb, hok, hcs⟩
    · refine ⟨a, cp, [], rfl, by simp [h0], ?_, fun n => ?_⟩
      · have : c.elems = [] := List.eq_nil_of_length_eq_zero (by rw [T.len_elems, h0])
        rw [this, TRl]
      · rw [h0]
        cases a with
        | none => simp [Builtin.firstCells]
        | some a => simp [Builtin.firstCells, loadCells, loadCellsFrom]
    · have hall : ∀ (l : List T) (o : Nat), TRs w (okB vs (okOf μ η') dd) l b o → ∃ ys : List Value, TRl w (okB vs (okOf μ η') dd) l ys ∧ ∀ j z, ys[j]? = some z → w.cell? ⟨b, o + j, none⟩ = some z := by
        intro l
        induction l with
        | nil => intro o _; exact ⟨[], by rw [TRl], by simp⟩
        | cons t r ih =>
          intro o h
          rw [TRs] at h
          obtain ⟨⟨x, hx, hr⟩, hrest⟩ := h
          obtain ⟨ys, h1, h2⟩ := ih (o + 1) hrest
          refine ⟨x :: ys, by rw [TRl]; exact ⟨x, ys, rfl, hr, h1⟩, fun j z hj => ?_⟩
          cases j with
          | zero => simp at hj; subst hj; simpa using hx
          | succ j => have := h2 j z (by simpa using hj); simpa [Nat.add_assoc, Nat.add_comm 1 j] using this
      obtain ⟨ys, h1, h2⟩ := hall _ _ hcs
      have hlen : ys.length = c.len := by rw [← ((TRl_iff ..).1 h1).1, T.len_elems]
      refine ⟨_, cp, ys, rfl, hlen, ?_, fun n => ?_⟩
      · cases dd with
        | false => exact h1
        | true => exact flat_any (by simpa using hdd) h1
      · exact run_firstCells_some (P := P) { w with drawn := n } 1 c.len ⟨b, off, none⟩ c.len cp ys (by simp [hlen]) (fun j v hj => by rw [add1]; exact h2 j v hj)

theorem run_app_room (w : World) {t ty' e : TypeId} {i : TypeInfo} (ht : P.underlying t = some (.slice e)) (hi : P.info? e = some i) (h1 : i.size = 1)
    {g sLen sCap : Nat} {cur : Array Value} (hg : w.heap[g]? = some (.cells cur e (0, 0))) {x : Value} {ax : Option Addr} {m cp : Nat} (hx : x = .slice ax m cp) {news : List Value} (hl : news.length = m)
    (hf : (Builtin.firstCells 1 m x).run P w = .ok news.toArray w) (hone : ∀ u ∈ news, u.oneCell' = true) (hroom : sLen + m ≤ sCap) (hfit : sLen + m ≤ cur.size) :
    (Builtin.append_ #[t, t] ty' #[.slice (some ⟨g, 0, none⟩) sLen sCap, x]).run P w =
      .ok (.slice (some ⟨g, 0, none⟩) (sLen + m) sCap) (w.setRow g (cur.toList.take sLen ++ news ++ cur.toList.drop (sLen + m)).toArray) := by
  have hst := run_storeCells_at P g sLen e news 0 cur w hg (by rw [hl]; simpa using hfit) hone
  simp only [Nat.add_zero, hl] at hst
  subst hx
  simp [Builtin.append_, run_underlying ht, sizeOf, typeInfo, hi, h1, Builtin.lenOf, hroom, hf, add1, hst]

theorem run_app_none (w : World) {t ty' e : TypeId} {i : TypeInfo} (ht : P.underlying t = some (.slice e)) (hi : P.info? e = some i) (h1 : i.size = 1)
    {b : Option Addr} {sLen sCap : Nat} {x : Value} {ax : Option Addr} {cp : Nat} (hx : x = .slice ax 0 cp)
    (hf : (Builtin.firstCells 1 0 x).run P w = .ok #[] w) (hroom : sLen ≤ sCap) :
    (Builtin.append_ #[t, t] ty' #[.slice b sLen sCap, x]).run P w = .ok (.slice b sLen sCap) w := by
  subst hx
  cases b <;> simp [Builtin.append_, run_underlying ht, sizeOf, typeInfo, hi, h1, Builtin.lenOf, hroom, hf, storeCells]

theorem run_app_grow (w : World) {t ty' e : TypeId} {i : TypeInfo} {z : Value} (ht : P.underlying t = some (.slice e)) (hi : P.info? e = some i) (hz : i.zero = some z) (h1 : i.size = 1)
    {s : Value} {b : Option Addr} {sLen sCap : Nat} (hs : s = .slice b sLen sCap) {olds : List Value} (hfo : (Builtin.firstCells 1 sLen s).run P w.drew = .ok olds.toArray w.drew)
    {x : Value} {ax : Option Addr} {m cp : Nat} (hx : x = .slice ax m cp) {news : List Value}
    (hf : (Builtin.firstCells 1 m x).run P w.drew = .ok news.toArray w.drew)
    (hg : sCap < sLen + m) (hb : (sLen + m) * i.bytes ≤ 140737488355328) (h63 : sLen + m ≤ 140737488355328) :
    (Builtin.append_ #[t, t] ty' #[s, x]).run P w =
      .ok (.slice (some ⟨w.heap.size, 0, none⟩) (sLen + m) (grownCap w (sLen + m) sCap e))
        (w.drew.alloc (.cells (olds.toArray ++ news.toArray ++ Builtin.zeroCells z.cells (grownCap w (sLen + m) sCap e - (sLen + m))) e)) := by
  have hn : ¬ (sLen + m ≤ sCap) := by omega
  have h63' : ¬ (9223372036854775807 < ((sLen : Int) + (m : Int))) := by omega
  have h48 := growslice_fits hg hb
  have h48' : ¬ (281474976710656 < Builtin.nextslicecap (sLen + m) sCap * i.bytes) := by omega
  subst hs; subst hx
  simp [Builtin.append_, run_underlying ht, sizeOf, typeInfo, zeroValue, hi, hz, h1, Builtin.lenOf, hn, h63', h48', Question.forced, hf, hfo, newRow, grownCap]
  congr 2
  apply Array.ext'
  simp [List.append_assoc]

/-- 's = append(s, x...)', s of the call's own -/
theorem q_append {t u : TypeId} {e eu : TE} {tys : Array TypeId} {s x : Operand} {id : Nat} {e0 : TypeId} {n : Nat} {c c2 : T} (hT : TyOk P ty) (ho : o.op = .call { callee := .builtin .append, args := #[s, x], argTypes := tys }) (htys : tys = #[t, t])
    (ht : ty.get t = some e) (hsl : e.d = .sl u) (hu : ty.get u = some eu) (hs1 : eu.size = 1) (hz1 : eu.z.oneCell' = true)
    (hs : evA ρ s = .own id 0 n) (hη : η id = some (.sl u c)) (hF : F.contains id = true) (hn : c.len = n) (hx : Src F η (evA ρ x) c2) (hsame : T.same c c2 = true) (hone : c2.elems.all oneT = true ∨ c2.flat = true ∨ ∃ l, c2 = .ffl l)
    (hb : (c.len + c2.len) * eu.bytes ≤ 140737488355328) (hb2 : c.len + c2.len ≤ 140737488355328) :
    QRun P o F [id] ρ η (.own id 0 (T.app c c2).len) (lkH [(id, .sl u (T.app c c2))]) := by
  intro vs w0 μ η' a w Q K h1 h2 h3 h4
  subst htys
  have hs' := h3 s (by simp [ho, Op.operands, Call.operands])
  have hx' := h3 x (by simp [ho, Op.operands, Call.operands])
  obtain ⟨p1, p2, p3, p4⟩ := T.app_spec hsame
  obtain ⟨ax, cp, news, hxv, hl, hnews, hf⟩ := src_spec (P := P) hx p4 h1 h2 hx'
  have hη' := (h1 id (by simpa using hF)).trans hη
  have h1news := oneT_elems hnews hone
  obtain ⟨inf, hinf, g1, g2, g3⟩ := (hT.get hu).info
  have hus := (hT.get ht).slice hsl
  rw [hs1] at g1
  rw [← g2] at hb
  rw [hs, VR] at hs'
  have hexec : ∀ r, (Builtin.append_ #[t, t] o.type #[a.eval s, a.eval x]).run P w = r → (execOp a.eval o).run P w = r.andThen fun v w' => .ok (.value v) w' := fun r hr => by
    simp [execOp, ho, resolve, invoke, builtin, hr]
  have hBlk := h2.blk id _ hη'
  obtain ⟨hsl0, hB⟩ := hBlk
  -- the two ways
  have grow : ∀ (sv : Value) (b : Option Addr) (cap : Nat) (olds : List Value), a.eval s = .slice b c.len cap → cap < c.len + c2.len → olds.length = c.len → TRl w (okF vs (okOf μ η')) c.elems olds →
      (Builtin.firstCells 1 c.len (a.eval s)).run P w.drew = .ok olds.toArray w.drew → o.wp P a w K Q := by
    intro sv b cap olds hsv hcap hol holds hfo
    have hr := run_app_grow (P := P) w (ty' := o.type) hus hinf g3 g1 hsv hfo hxv (hf (w.drawn + 1)) hcap hb hb2
    let cs := olds.toArray ++ news.toArray ++ Builtin.zeroCells eu.z.cells (grownCap w (c.len + c2.len) cap u - (c.len + c2.len))
    have hbel : Below w.heap.size w (w.drew.alloc (.cells cs u)) := ((Below.refl _ _).drew).alloc (Nat.le_refl _) _
    have hnew : (w.drew.alloc (.cells cs u)).heap[w.heap.size]? = some (.cells cs u (0, 0)) := heap_alloc_new w.drew _
    have hcap2 := grownCap_ge w (c.len + c2.len) cap u
    have hcsz : cs.size = grownCap w (c.len + c2.len) cap u := by
      simp only [cs, Array.size_append, List.size_toArray, size_zeroCells, cells_one hz1, hol, hl]
      simp; omega
    obtain ⟨hc, hk⟩ := HC_new (i := id) (b := w.heap.size) (B := .sl u (T.app c c2)) h2 hbel (Nat.le_refl _) fun hk => by
      refine ⟨p1, .inr ⟨_, cs, by simp [updM], .inl h2.below.size, hnew, by rw [p2, hcsz]; exact hcap2, ?_⟩⟩
      have : cs.toList.take (T.app c c2).len = olds ++ news := by
        simp only [cs, Array.toList_append, p2]
        rw [List.take_left' (by simp [hol, hl])]
      rw [this, p3]
      obtain ⟨q1, q2⟩ := (TRl_iff ..).1 (TRl.mono hk.treeF _ _ holds)
      obtain ⟨q3, q4⟩ := (TRl_iff ..).1 (TRl.mono hk.treeF _ _ hnews)
      refine (TRl_iff ..).2 ⟨by simp [q1, q3], fun j v hj => ?_⟩
      rcases Nat.lt_or_ge j c.elems.length with h | h
      · rw [List.getElem?_append_left h] at hj
        rw [List.getElem?_append_left (by omega)]; exact q2 j v hj
      · rw [List.getElem?_append_right h] at hj
        rw [List.getElem?_append_right (by omega), ← q1]; exact q4 _ v hj
    unfold Oper.wp
    rw [hexec _ hr, Result.andThen_ok, Oper.upon_value]
    refine h4 _ _ _ hc hk ?_
    rw [VR]
    exact .inr ⟨_, _, _, _, by simp [updM], by rw [p2], size_shape hnew, by rw [hcsz]; omega, by rw [p2]; exact hcap2⟩
  rcases hB with ⟨hnil, h0⟩ | ⟨b, cs, hb', hbase, hw, hlen, hcs⟩
  · rcases hs' with ⟨_, _, _, hsv⟩ | ⟨b, _, _, _, hbb, _⟩
    · by_cases hm : c2.len = 0
      · have hf0 := hf w.drawn
        have hn0 : news = [] := List.eq_nil_of_length_eq_zero (by omega)
        subst hn0
        rw [hm] at hxv hf0
        have hr := run_app_none (P := P) w (ty' := o.type) (b := none) (sLen := 0) (sCap := 0) hus hinf g1 hxv hf0 (Nat.le_refl _)
        rw [← hsv] at hr
        have e : ∀ i, hpS [id] (lkH [(id, .sl u (T.app c c2))]) η' i = if i = id then some (.sl u (T.app c c2)) else (η' i).map (scrubB [id]) := fun i => by
          by_cases hi : i = id
          · subst hi; simp [hpS, lkH]
          · have hbq : Nat.beq i id = false := by
              cases h : Nat.beq i id with
              | true => exact absurd (Nat.eq_of_beq_eq_true h) hi
              | false => rfl
            simp [hpS, lkH, hbq, hi]
        have hdom : ∀ j, (hpS [id] (lkH [(id, .sl u (T.app c c2))]) η' j).isSome ↔ (η' j).isSome := fun j => by
          rw [e]; split
          · rename_i hj; subst hj; rw [hη']; simp
          · rw [Option.isSome_map]
        have hk : Keeps w w μ μ (okOf μ η') (okOf μ (hpS [id] (lkH [(id, .sl u (T.app c c2))]) η')) (· ∈ [id]) :=
          ⟨fun b hb hk => ⟨hb, fun j hj => hk j ((hdom j).1 hj), rfl⟩, fun _ _ => rfl, fun _ _ _ _ _ hs => hs⟩
        have hc := HC_step h2 hk h2.below (fun _ _ _ _ _ _ _ => rfl) (fun j B hj => by
          have := lkH_mem hj
          simp at this; obtain ⟨rfl, rfl⟩ := this
          exact ⟨p1, .inl ⟨hnil, by rw [p2]; omega⟩⟩) (fun i j b hi hj => h2.inj i j b ((hdom i).1 hi) ((hdom j).1 hj))
        unfold Oper.wp
        rw [hexec _ hr, Result.andThen_ok, Oper.upon_value]
        refine h4 _ _ _ hc hk ?_
        rw [VR]
        exact .inl ⟨hnil, rfl, by rw [p2]; omega, hsv⟩
      · refine grow (a.eval s) none 0 [] (by rw [hsv, h0]) (by omega) (by simp [h0]) ?_ ?_
        · have : c.elems = [] := List.eq_nil_of_length_eq_zero (by rw [T.len_elems, h0])
          rw [this, TRl]
        · rw [hsv, h0]
          simp [Builtin.firstCells]
    · rw [hnil] at hbb; cases hbb
  · rcases hs' with ⟨hnil, _⟩ | ⟨b1, cap, e1, n1, hb1, hsv, hshape, hcap, hncap⟩
    · rw [hnil] at hb'; cases hb'
    · rw [hb'] at hb1; cases hb1
      rw [size_shape hw] at hshape
      simp only [Option.some.injEq, Prod.mk.injEq] at hshape
      obtain ⟨_, rfl⟩ := hshape
      subst hn
      by_cases hroom : c.len + c2.len ≤ cap
      · have hr := run_app_room (P := P) w (ty' := o.type) hus hinf g1 hw hxv hl (hf w.drawn) h1news hroom (by omega)
        have hw' := setRow_heap w b cs (cs.toList.take c.len ++ news ++ cs.toList.drop (c.len + c2.len)).toArray u (0, 0) hw
        have hsz' : (cs.toList.take c.len ++ news ++ cs.toList.drop (c.len + c2.len)).toArray.size = cs.size := by simp [hl]; omega
        obtain ⟨hc, hk⟩ := HC_mod (i := id) (b := b) (B := .sl u (T.app c c2)) (S := [id]) (w' := w.setRow b (cs.toList.take c.len ++ news ++ cs.toList.drop (c.len + c2.len)).toArray) h2 (by simp) hη' hb' rfl rfl rfl (setRow_size _ _ _)
          (fun k hk => setRow_other w b k _ hk) (by rw [size_shape hw', size_shape hw, hsz']) fun hk => by
            refine ⟨p1, .inr ⟨b, _, hb', hbase, hw', by rw [p2, hsz']; omega, ?_⟩⟩
            have : ((cs.toList.take c.len ++ news ++ cs.toList.drop (c.len + c2.len)).toArray.toList.take (T.app c c2).len) = cs.toList.take c.len ++ news := by
              rw [p2]; exact List.take_left' (by simp [hl]; omega)
            rw [this, p3]
            obtain ⟨q1, q2⟩ := (TRl_iff ..).1 (TRl.mono hk.treeF _ _ hcs)
            obtain ⟨q3, q4⟩ := (TRl_iff ..).1 (TRl.mono hk.treeF _ _ hnews)
            refine (TRl_iff ..).2 ⟨by simp only [List.length_append, q1, q3], fun j v hj => ?_⟩
            rcases Nat.lt_or_ge j c.elems.length with h | h
            · rw [List.getElem?_append_left h] at hj
              rw [List.getElem?_append_left (by omega)]; exact q2 j v hj
            · rw [List.getElem?_append_right h] at hj
              rw [List.getElem?_append_right (by omega), ← q1]; exact q4 _ v hj
        unfold Oper.wp
        rw [hsv] at hexec
        rw [hexec _ hr, Result.andThen_ok, Oper.upon_value]
        refine h4 _ _ _ hc hk ?_
        rw [VR]
        exact .inr ⟨b, cap, u, cs.size, hb', by rw [p2], by rw [size_shape hw', hsz'], hcap, by rw [p2]; exact hroom⟩
      · refine grow (a.eval s) (some ⟨b, 0, none⟩) cap (cs.toList.take c.len) hsv (by omega) (by simp; omega) hcs ?_
        rw [hsv]
        exact run_firstCells_some (P := P) w.drew 1 c.len ⟨b, 0, none⟩ c.len cap (cs.toList.take c.len) (by simp; omega) (fun j v hj => by
          rw [add1, Nat.zero_add]
          rw [List.getElem?_take] at hj
          split at hj
          · have := cell_of_block (w := w.drew) hw j
            rw [this]; simpa using hj
          · cases hj)

end
end Go.Aw
