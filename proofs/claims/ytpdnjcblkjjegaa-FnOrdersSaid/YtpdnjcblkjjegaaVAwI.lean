/- Calls that change a box of their caller, or make one. No condition. -/
import Derived.Test.YtpdnjcblkjjegaaVAwC
import Derived.Test.YtpdnjcblkjjegaaVAwG
set_option linter.unusedVariables false
namespace Go.Aw
open Go.RowKit (Below)

def cB (cs : List Value) : List AV := cs.map fun x => AV.t (.v x)
theorem cB_VRl {vs : Env} {w : World} {μ : Nat → Option Nat} {ok : Nat → Prop} : ∀ (cs : List Value) {xs : List Value}, VRl vs w μ ok (cB cs) xs ↔ xs = cs
  | [], xs => by simp only [cB, List.map_nil]; rw [VRl]
  | c :: cs, xs => by
    have ih := fun ys => cB_VRl (vs := vs) (w := w) (μ := μ) (ok := ok) cs (xs := ys)
    simp only [cB, List.map_cons] at *
    rw [VRl]
    constructor
    · rintro ⟨x, ys, rfl, h1, h2⟩
      rw [VR, TR] at h1
      rw [h1, (ih ys).1 h2]
    · rintro rfl
      exact ⟨c, cs, rfl, by rw [VR, TR], (ih cs).2 rfl⟩

/-- **A contract of a function with a pointer to a box**: cell 0 of the box, which reads as 't', is kept, 'cs' become 'cs''; no other memory changes. -/
def PBox (P : Program) (f : FuncId) (rest : List Value) (y : Value) (t : T) (cs cs' : List Value) : Prop :=
  Enters P f ∧ ∀ (w : World) (b : Nat) (y0 : Value) (e : TypeId), w.heap[b]? = some (.cells (y0 :: cs).toArray e (0, 0)) → TR w (fun k => k ≠ b) t y0 →
    Calls P f (.pointer (some ⟨b, 0, none⟩) :: rest).toArray w fun ex w' => ex = .returned y ∧ w'.os = w.os ∧ w'.tape = w.tape ∧ w'.output = w.output ∧ w'.heap.size = w.heap.size ∧
      (∀ c, c ≠ b → w'.heap[c]? = w.heap[c]?) ∧ w'.heap[b]? = some (.cells (y0 :: cs').toArray e (0, 0))

section
variable {P : Program} {o : Oper} {F : List Nat} {ρ : Fr} {η : Hp}
theorem q_cbox {f : FuncId} {args : Array Operand} {tys : Array TypeId} {cx : Operand} {rest : List Value} {y : Value} {t : T} {cs cs' : List Value} {id : Nat} {e0 : TypeId} {c0 : AV} {dd : Bool} {l : List AV} (hc : PBox P f rest y t cs cs')
    (ho : o.op = .call { callee := .value cx, args := args, argTypes := tys }) (hcx : evA ρ cx = .fn f []) (ha : args.toList.map (evA ρ) = .bp id 0 :: cB rest) (hη : η id = some (.box e0 (c0 :: l))) (hF : F.contains id = true) (hl : l = cB cs) (h0 : c0.tr = some (dd, t))
    (hn : cs'.length = cs.length) : QRun P o F [] ρ η (.t (.v y)) (lkH [(id, .box e0 (c0 :: cB cs'))]) := by
  subst hl
  intro vs w0 μ η' a w Q K h1 h2 h3 h4
  obtain ⟨⟨fn, hfn, hbody, hname⟩, hcall⟩ := hc
  have hcv := h3 cx (by simp [ho, Op.operands, Call.operands])
  rw [hcx, VR] at hcv
  obtain ⟨xs, hcv, hxs⟩ := hcv
  rw [VRl] at hxs
  have hargs : VRl vs w μ (okOf μ η') (args.toList.map (evA ρ)) (args.toList.map a.eval) := by
    refine (VRl_iff ..).2 ⟨by simp, fun i v hv => ?_⟩
    simp only [List.getElem?_map, Option.map_eq_some_iff] at hv
    obtain ⟨x, hx, rfl⟩ := hv
    exact ⟨a.eval x, by simp only [List.getElem?_map, hx, Option.map_some], h3 x (by simp [ho, Op.operands, Call.operands]; exact .inr (by simpa using List.mem_of_getElem? hx))⟩
  rw [ha, VRl] at hargs
  obtain ⟨p, ys, hys, hp, hr⟩ := hargs
  rw [VR] at hp
  obtain ⟨b, hμ, rfl⟩ := hp
  rw [cB_VRl] at hr
  subst hr
  have hη' : η' id = some (.box e0 (c0 :: cB cs)) := (h1 id (by simpa using hF)).trans hη
  obtain ⟨b', cells, hb', hbase, hw, hcs⟩ := h2.blk id _ hη'
  rw [hb'] at hμ; cases hμ
  rw [VRl] at hcs
  obtain ⟨y0, zs, hz, hy0, hzs⟩ := hcs
  rw [cB_VRl] at hzs
  subst hzs
  have hcells : cells = (y0 :: zs).toArray := by rw [← hz]
  subst hcells
  have ht : TR w (fun k => k ≠ b) t y0 := TR.weak (fun k hk he => hk id (by rw [hη']; rfl) (by rw [hb', he])) (VR_tree hy0 h0)
  have hcs := hcall w b y0 e0 hw ht
  have hrun : (execOp a.eval o).run P w = .ok (.enter f (.pointer (some ⟨b, 0, none⟩) :: ys).toArray) w := by
    have e : (.pointer (some ⟨b, 0, none⟩) :: ys).toArray = args.map a.eval ++ xs := by
      apply Array.ext'
      rw [Array.toList_append, hxs, List.append_nil, Array.toList_map, hys]
    rw [e]
    simp [execOp, ho, resolve, Deferred.ofValue, hcv, invoke, invoke_run hfn hbody hname]
  unfold Oper.wp
  rw [hrun, Oper.upon_enter]
  refine hcs.mono ?_
  rintro ex w' ⟨rfl, g1, g2, g3, g4, g5, g6⟩
  simp only []
  obtain ⟨hc', hk⟩ := HC_mod (i := id) (b := b) (B := .box e0 (c0 :: cB cs')) (S := []) (w' := w') h2 (by simp) hη' hb' g1 g2 g3 g4 g5
    (by rw [size_shp g6, size_shp hw]; simp [hn]) fun hk => by
      refine ⟨b, _, hb', hbase, g6, ?_⟩
      rw [VRl]
      refine ⟨y0, cs', rfl, ?_, (cB_VRl cs').2 rfl⟩
      exact VR.mono hk _ _ (by cases c0 <;> simp [AV.tr] at h0 <;> simp [AV.refs]) hy0
  exact h4 y μ w' hc' hk (by rw [VR, TR])
end
end Go.Aw

set_option linter.unusedVariables false
namespace Go.Aw
open Go.RowKit (Below)

/-- **A contract of a function that makes a box out of its argument**: cell 0 is the argument, the others are 'cs'. -/
def PNew (P : Program) (f : FuncId) (e : TypeId) (cs : List Value) : Prop :=
  Enters P f ∧ ∀ (w : World) (ad : Option Addr) (n c : Nat), Calls P f #[.slice ad n c] w fun ex w' => ∃ b, ex = .returned (.pointer (some ⟨b, 0, none⟩)) ∧ w.heap.size ≤ b ∧ Below w.heap.size w w' ∧ w'.heap[b]? = some (.cells (.slice ad n c :: cs).toArray e (0, 0))

theorem nf_tup {v : AV} {l : List AV} (h : v = .tup l) : v = .tup l := h
section
variable {P : Program} {o : Oper} {F : List Nat} {ρ : Fr} {η : Hp}
theorem q_from {f : FuncId} {x : Operand} {tys : Array TypeId} {e : TypeId} {cs : List Value} {d : Nat} {dd : Bool} {t : T} (hc : PNew P f e cs)
    (ho : o.op = .call { callee := .value (.func f), args := #[x], argTypes := tys }) (hd : o.dst = some d) (hx : (evA ρ x).tr = some (dd, t)) (h1' : t.isSl = true) :
    QRun P o F [d] ρ η (.bp d 0) (lkH [(d, .box e (.old t :: cB cs))]) := by
  intro vs w0 μ η' a w Q K h1 h2 h3 h4
  obtain ⟨⟨fn, hfn, hbody, hname⟩, hcall⟩ := hc
  have hv := VR_tree (h3 x (by simp [ho, Op.operands, Call.operands])) hx
  obtain ⟨ad, n, c, hy, _, _, _⟩ := (TR_sl w _ t h1' _).1 hv
  have hcs := hcall w ad n c
  rw [← hy] at hcs
  have hrun : (execOp a.eval o).run P w = .ok (.enter f #[a.eval x]) w := by
    simp [execOp, ho, resolve, Deferred.ofValue, invoke, Act.eval, invoke_run hfn hbody hname]
  unfold Oper.wp
  rw [hrun, Oper.upon_enter]
  refine hcs.mono ?_
  rintro ex w' ⟨b, rfl, hb, hbel, hw⟩
  simp only []
  obtain ⟨hc', hk⟩ := HC_new (i := d) (b := b) (B := .box e (.old t :: cB cs)) h2 hbel hb fun hk => by
    refine ⟨b, _, by simp [updM], .inl (Nat.le_trans h2.below.size hb), hw, ?_⟩
    rw [VRl]
    exact ⟨_, _, rfl, by rw [VR]; exact TR.mono hk.tree _ _ hv, (cB_VRl cs).2 rfl⟩
  exact h4 _ _ w' hc' hk (by rw [VR]; exact ⟨b, by simp [updM], rfl⟩)

theorem q_dev {f : FuncId} {args : Array Operand} {tys : Array TypeId} {cx : Operand} {rest : List Value} {rv : RV} {hs : List (Nat × Blk)} {d id : Nat} {e0 : TypeId} {c0 : AV} {dd : Bool} {t : T} {cs : List Value} {l : List AV}
    (hc : TMut P f (.bp 0 0 :: cB rest) [(0, .box e0 (.old t :: cB cs))] rv [] hs) (ho : o.op = .call { callee := .value cx, args := args, argTypes := tys }) (hd : o.dst = some d) (hcx : evA ρ cx = .fn f [])
    (ha : args.toList.map (evA ρ) = .bp id 0 :: cB rest) (hη : η id = some (.box e0 (c0 :: l))) (hF : F.contains id = true) (hl : l = cB cs) (h0 : c0.tr = some (dd, t)) (hbox : noBox hs = true) (hown : ownsB hs rv = true)
    (hdis : (cids d hs).contains id = false) : QRun P o F (id :: cids d hs) ρ η (resV d (scrubL (id :: cids d hs) (args.toList.map (evA ρ))) rv) (lkH (cblk d hs)) := by
  subst hl
  intro vs w0 μ η' a w Q K h1 h2 h3 h4
  obtain ⟨⟨fn, hfn, hbody, hname⟩, hcall⟩ := hc
  have hcv := h3 cx (by simp [ho, Op.operands, Call.operands])
  rw [hcx, VR] at hcv
  obtain ⟨xs, hcv, hxs⟩ := hcv
  rw [VRl] at hxs
  have hargs : VRl vs w μ (okOf μ η') (args.toList.map (evA ρ)) (args.toList.map a.eval) := by
    refine (VRl_iff ..).2 ⟨by simp, fun i v hv => ?_⟩
    simp only [List.getElem?_map, Option.map_eq_some_iff] at hv
    obtain ⟨x, hx, rfl⟩ := hv
    exact ⟨a.eval x, by simp only [List.getElem?_map, hx, Option.map_some], h3 x (by simp [ho, Op.operands, Call.operands]; exact .inr (by simpa using List.mem_of_getElem? hx))⟩
  have hargs0 := hargs
  rw [ha, VRl] at hargs
  obtain ⟨p, ys, hys, hp, hr⟩ := hargs
  rw [VR] at hp
  obtain ⟨b, hμ, rfl⟩ := hp
  rw [cB_VRl] at hr
  subst hr
  have hη' : η' id = some (.box e0 (c0 :: cB cs)) := (h1 id (by simpa using hF)).trans hη
  obtain ⟨b', cells, hb', hbase, hw, hcs⟩ := h2.blk id _ hη'
  rw [hb'] at hμ; cases hμ
  rw [VRl] at hcs
  obtain ⟨y0, zs, hz, hy0, hzs⟩ := hcs
  rw [cB_VRl] at hzs
  subst hzs
  have hcells : cells = (y0 :: zs).toArray := by rw [← hz]
  subst hcells
  have ht : TR w (fun k => k ≠ b) t y0 := TR.weak (fun k hk he => hk id (by rw [hη']; rfl) (by rw [hb', he])) (VR_tree hy0 h0)
  -- the callee's beginning
  obtain ⟨H0, hH0⟩ : ∃ H0, H0 = [(0, Blk.box e0 (.old t :: cB zs))] := ⟨_, rfl⟩
  rw [← hH0] at hcall
  obtain ⟨μ0, hμ0⟩ : ∃ μ0 : Nat → Option Nat, μ0 = fun j => if j = 0 then some b else none := ⟨_, rfl⟩
  have hlk : ∀ j B, lkH H0 j = some B → j = 0 ∧ B = Blk.box e0 (.old t :: cB zs) := fun j B h => by
    have := lkH_mem h
    rw [hH0] at this
    simpa using this
  have hlk0 : (lkH H0 0).isSome := by rw [hH0]; rfl
  have hμ00 : μ0 0 = some b := by rw [hμ0]; rfl
  have hlent : ∀ c, lentB μ0 H0 c ↔ c = b := fun c => by
    constructor
    · rintro ⟨j, hj, hb⟩
      obtain ⟨B, hB⟩ := Option.isSome_iff_exists.1 hj
      rw [(hlk j B hB).1, hμ00] at hb
      cases hb; rfl
    · rintro rfl; exact ⟨0, hlk0, hμ00⟩
  obtain ⟨a0s, has⟩ : ∃ a0s : List Value, a0s = .pointer (some ⟨b, 0, none⟩) :: ys := ⟨_, rfl⟩
  have hok0 : ∀ k, k ≠ b → okOf μ0 (lkH H0) k := fun k hk j hj h => by
    obtain ⟨B, hB⟩ := Option.isSome_iff_exists.1 hj
    rw [(hlk j B hB).1, hμ00] at h
    cases h; exact hk rfl
  have hc0 : HC ⟨a0s, w.heap.size, lentB μ0 H0⟩ w μ0 (lkH H0) w := by
    refine ⟨rfl, Bel.refl _ _, fun j B hB => ?_, fun i j c hi hj _ _ => ?_⟩
    · obtain ⟨rfl, rfl⟩ := hlk j B hB
      refine ⟨b, _, hμ00, .inr ((hlent b).2 rfl), hw, ?_⟩
      rw [VRl]
      exact ⟨_, _, rfl, by rw [VR]; exact TR.weak (fun k hk => hok0 k hk) ht, (cB_VRl zs).2 rfl⟩
    · obtain ⟨B, hB⟩ := Option.isSome_iff_exists.1 hi
      obtain ⟨B', hB'⟩ := Option.isSome_iff_exists.1 hj
      rw [(hlk i B hB).1, (hlk j B' hB').1]
  have hVR : VRl ⟨a0s, w.heap.size, lentB μ0 H0⟩ w μ0 (okOf μ0 (lkH H0)) (.bp 0 0 :: cB ys) a0s := by
    rw [has, VRl]
    exact ⟨_, _, rfl, by rw [VR]; exact ⟨b, hμ00, rfl⟩, (cB_VRl ys).2 rfl⟩
  have hcs := hcall w a0s μ0 hc0 hVR
  have hrun : (execOp a.eval o).run P w = .ok (.enter f a0s.toArray) w := by
    have e : a0s.toArray = args.map a.eval ++ xs := by
      apply Array.ext'
      rw [Array.toList_append, hxs, List.append_nil, Array.toList_map, hys, has]
    rw [e]
    simp [execOp, ho, resolve, Deferred.ofValue, hcv, invoke, invoke_run hfn hbody hname]
  unfold Oper.wp
  rw [hrun, Oper.upon_enter]
  refine hcs.mono ?_
  rintro ex w' ⟨y, μr, rfl, hcr, _, hrr⟩
  simp only [List.nil_append] at hcr hrr ⊢
  have hbel := hcr.below
  have hblt : b < w.heap.size := (Array.getElem?_eq_some_iff.1 hw).1
  have hkeep : ∀ c, c < w.heap.size → c ≠ b → w'.heap[c]? = w.heap[c]? := fun c hc hcb => hbel.block c hc fun h => hcb ((hlent c).1 h)
  let C := cids d hs
  let S := id :: C
  have hidC : id ∉ C := fun h => by
    have : (cids d hs).contains id = true := by simpa using h
    rw [this] at hdis; cases hdis
  let μ' : Nat → Option Nat := fun i => if i ∈ C then μr ((i - d) / 1000) else μ i
  have hcid : ∀ j, (cid d j - d) / 1000 = j := fun j => by unfold cid; omega
  have hin : ∀ j, (lkH hs j).isSome → cid d j ∈ C := fun j hj => by
    obtain ⟨B, hB⟩ := Option.isSome_iff_exists.1 hj
    exact mem_cids.2 ⟨j, B, lkH_mem hB, rfl⟩
  have hμn : ∀ j, (lkH hs j).isSome → μ' (cid d j) = μr j := fun j hj => by simp only [μ', if_pos (hin j hj), hcid]
  have hge : ∀ j c, (lkH hs j).isSome → μr j = some c → w.heap.size ≤ c ∨ c = b := fun j c hj hm => by
    obtain ⟨B, hB⟩ := Option.isSome_iff_exists.1 hj
    exact (blk_lt (hcr.blk j B hB) hm).1.imp (fun h => h) (hlent c).1
  have hold : ∀ i c, (η' i).isSome → μ i = some c → c < w.heap.size := fun i c hi hm => by
    obtain ⟨B, hB⟩ := Option.isSome_iff_exists.1 hi
    exact (blk_lt (h2.blk i B hB) hm).2
  have hnb : ∀ i c, (η' i).isSome → i ≠ id → μ i = some c → c ≠ b := fun i c hi hne hm h => by
    subst h
    exact hne (h2.inj i id c hi (by rw [hη']; rfl) hm hb')
  let η2 := hpS S (lkH (cblk d hs)) η'
  have e2 : ∀ i, i ∉ C → i ≠ id → η2 i = (η' i).map (scrubB S) := fun i hi hne => hpS_off (lkH_cblk_none hi) (by simp only [S, List.mem_cons, not_or]; exact ⟨hne, hi⟩)
  have e3 : η2 id = none := by
    simp only [η2, hpS, lkH_cblk_none hidC]
    simp [S]
  have hdom : ∀ i, i ∉ C → (η2 i).isSome → i ≠ id ∧ (η' i).isSome := fun i hi h => by
    by_cases hne : i = id
    · subst hne; rw [e3] at h; cases h
    · rw [e2 i hi hne, Option.isSome_map] at h; exact ⟨hne, h⟩
  have hk : Keeps w w' μ μ' (okOf μ η') (okOf μ' η2) (· ∈ S) := by
    refine ⟨fun c hc hok => ?_, fun i hi => ?_, fun i c hi hm s hs => hbel.sh c s hs⟩
    · have hcb : c ≠ b := fun h => hok id (by rw [hη']; rfl) (by rw [hb', h])
      refine ⟨Nat.lt_of_lt_of_le hc hbel.size, fun i hi => ?_, hkeep c hc hcb⟩
      by_cases hiC : i ∈ C
      · obtain ⟨j, B, hj, rfl⟩ := mem_cids.1 hiC
        have hjs := lkH_some hj
        rw [hμn j hjs]
        intro h
        rcases hge j c hjs h with h | h
        · omega
        · exact hcb h
      · have h5 := hdom i hiC hi
        simp only [μ', if_neg hiC]; exact hok i h5.2
    · simp only [S, List.mem_cons, not_or] at hi
      simp only [μ', if_neg hi.2]
  have hok2 : ∀ c, okF ⟨a0s, w.heap.size, lentB μ0 H0⟩ (okOf μr (lkH hs)) c → okF vs (okOf μ' η2) c := fun c ⟨hb1, hb2⟩ => by
    refine ⟨fun i hi => ?_, ?_⟩
    · by_cases hiC : i ∈ C
      · obtain ⟨j, B, hj, rfl⟩ := mem_cids.1 hiC
        have hjs := lkH_some hj
        rw [hμn j hjs]; exact hb1 j hjs
      · have h5 := hdom i hiC hi
        simp only [μ', if_neg hiC]
        intro h
        have h6 := hold i c h5.2 h
        have h7 := hnb i c h5.2 h5.1 h
        rcases hb2 with h8 | h8
        · have h9 : w.heap.size ≤ c := h8
          omega
        · exact h7 ((hlent c).1 h8)
    · rcases hb2 with h8 | h8
      · exact .inl (by rw [h2.base]; exact Nat.le_trans h2.below.size h8)
      · rw [(hlent c).1 h8, h2.base]; exact hbase
  have hBel : Bel vs w0 w' := by
    refine ⟨hbel.os.trans h2.below.os, hbel.tape.trans h2.below.tape, hbel.output.trans h2.below.output, Nat.le_trans h2.below.size hbel.size, fun k hk hl => ?_, fun k s hs => hbel.shape k s (h2.below.shape k s hs)⟩
    refine (hkeep k (Nat.lt_of_lt_of_le hk h2.below.size) fun hkb => ?_).trans (h2.below.block k hk hl)
    subst hkb
    rcases hbase with h | h
    · omega
    · exact hl h
  have hHC : HC vs w0 μ' η2 w' := by
    refine HC_step h2 hk hBel (fun i B hi hiS _ c hm => ?_) (fun i B hi => ?_) (fun i j c hi hj hm1 hm2 => ?_)
    · simp only [S, List.mem_cons, not_or] at hiS
      exact hkeep c (hold i c (by rw [hi]; rfl) hm) (hnb i c (by rw [hi]; rfl) hiS.1 hm)
    · have hiC : i ∈ C := Classical.byContradiction fun h => by rw [lkH_cblk_none h] at hi; cases hi
      obtain ⟨j, B0, hj, rfl⟩ := mem_cids.1 hiC
      rw [lkH_cblk] at hi
      have hjs : (lkH hs j).isSome := by rw [hi]; rfl
      obtain ⟨e1, c1, rfl⟩ := noBox_lk hbox j B hi
      obtain ⟨q1, q2⟩ := hcr.blk j _ hi
      refine ⟨q1, ?_⟩
      rw [hμn j hjs]
      refine Or.imp (fun x => x) ?_ q2
      rintro ⟨c, cs', r1, r2, r3, r4, r5⟩
      refine ⟨c, cs', r1, ?_, r3, r4, TRl.mono (fun c hc hk => ⟨hc, hok2 c hk, rfl⟩) _ _ r5⟩
      rcases r2 with h | h
      · exact .inl (Nat.le_trans h2.below.size h)
      · rw [(hlent c).1 h]; exact hbase
    · by_cases hiC : i ∈ C
      · obtain ⟨k, B, hkm, rfl⟩ := mem_cids.1 hiC
        have hks := lkH_some hkm
        rw [hμn k hks] at hm1
        by_cases hjC : j ∈ C
        · obtain ⟨l, B', hlm, rfl⟩ := mem_cids.1 hjC
          have hls := lkH_some hlm
          rw [hμn l hls] at hm2
          rw [hcr.inj k l c hks hls hm1 hm2]
        · have h5 := hdom j hjC hj
          simp only [μ', if_neg hjC] at hm2
          have h6 := hold j c h5.2 hm2
          have h7 := hnb j c h5.2 h5.1 hm2
          rcases hge k c hks hm1 with h | h
          · omega
          · exact absurd h h7
      · have h5 := hdom i hiC hi
        simp only [μ', if_neg hiC] at hm1
        have h6 := hold i c h5.2 hm1
        have h7 := hnb i c h5.2 h5.1 hm1
        by_cases hjC : j ∈ C
        · obtain ⟨l, B', hlm, rfl⟩ := mem_cids.1 hjC
          have hls := lkH_some hlm
          rw [hμn l hls] at hm2
          rcases hge l c hls hm2 with h | h
          · omega
          · exact absurd h h7
        · have h8 := hdom j hjC hj
          simp only [μ', if_neg hjC] at hm2
          exact h2.inj i j c h5.2 h8.2 hm1 hm2
  refine h4 y μ' w' hHC hk ?_
  have havs : VRl vs w' μ' (okOf μ' η2) (scrubL S (args.toList.map (evA ρ))) a0s := by
    have := VRl.mono hk _ _ (scrub_refsL S _) (VRl.scrub _ _ hargs0)
    rw [hys] at this
    rw [has]; exact this
  exact resV_VR (S := S) havs hok2 (fun j n hj => hμn j hj) rv hown y hrr
end

/-! ### contracts in other words -/
/-- a slice that a call has made, as data -/
theorem tcall_fl {P : Program} {f : FuncId} {ts : List T} {n : Nat} {e : TypeId} {l : List Nat} (h : TCall P f ts (.own 0 n) [(0, .sl e (.fl l))]) (hn : n = l.length) : TCall P f ts (.t (.fl l)) [] := by
  have h2 := tcall_gf h hn
  refine ⟨h2.1, fun w args ha => (h2.2 w args ha).mono ?_⟩
  rintro e' w' ⟨y, μ, rfl, hc, hr⟩
  refine ⟨y, μ, rfl, hc, ?_⟩
  rw [RRel] at hr ⊢
  rw [TR]
  exact gf_fl hr
end Go.Aw

set_option linter.unusedVariables false
namespace Go.Aw
open Go.RowKit (Below)

section
variable {P : Program} {o : Oper} {F : List Nat} {ρ : Fr} {η : Hp}
end
end Go.Aw

