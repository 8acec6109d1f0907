import Derived.Test.YtpdnjcblkjjegaaVT190
import Derived.Test.YtpdnjcblkjjegaaVT1n
import Derived.Test.YtpdnjcblkjjegaaVAwN
set_option linter.unusedVariables false
set_option linter.unusedSimpArgs false
set_option maxRecDepth 20000
set_option maxHeartbeats 8000000
namespace Go.Proofs.Ytpdnjcblkjjegaa
open Go.Aw

abbrev wayRR (v : List Int × Bool) : RV := .tup [.own 0 v.1.length, .t (.v (.bool v.2))]
abbrev wayHH (v : List Int × Bool) : List (Nat × Blk) := [(0, .sl 2 (.il v.1))]
/-! ### rows of whole numbers in blocks -/
theorem NI_good (R : List (List Int)) : GoodN [] (NI R) := fun v hv j hj => by
  obtain ⟨t, _, rfl⟩ := List.mem_map.1 hv
  simp [AV.ids] at hj
theorem ownI_good (i n : Nat) : GoodN [i] [.own i 0 n] := fun v hv j hj => by
  simp only [List.mem_singleton] at hv
  subst hv
  simp only [AV.ids, List.mem_singleton] at hj
  subst hj; exact .inr (by simp)
theorem NI_ren (π : Nat → Nat) (R : List (List Int)) {k : Nat} {v : AV} (hv : (NI R)[k]? = some v) : v = ren π v := by
  obtain ⟨r, _, rfl⟩ := List.mem_map.1 (List.mem_of_getElem? hv); rfl
theorem NI_sameP {π : Nat → Nat} {η η' : Hp} {R : List (List Int)} {i : Nat} {e : TypeId} (h1 : η (π i) = some (.nest e (NI R) [] noRem)) : BTo π η η' i (.nest e (NI R) [] noRem) :=
  .inl ⟨_, _, h1, NI_good R, rfl, fun k v hv => ⟨v, hv, .inl (NI_ren π R hv)⟩⟩
theorem NI_bto {π : Nat → Nat} {η η' : Hp} {R : List (List Int)} {r : List Int} {i len id : Nat} {e ef : TypeId} {vis : List Nat} (h1 : η (π i) = some (.nest e (NI R ++ [.own id 0 len]) vis noRem)) (hv : vis = [id]) (h2 : η id = some (.sl ef (.il r))) (hl : len = r.length)
    (h3 : ∀ j, (η' j).isSome → π j ≠ id) : BTo π η η' i (.nest e (NI (R ++ [r])) [] noRem) := by
  subst hv; subst hl
  refine .inl ⟨_, _, h1, good_app (NI_good R) (ownI_good id _), by rw [NI_len, List.length_append, List.length_append, NI_len]; rfl, fun k v hv => ?_⟩
  have e1 : NI (R ++ [r]) = NI R ++ [.t (.il r)] := by unfold NI; rw [List.map_append]; rfl
  rw [e1] at hv
  rcases Nat.lt_or_ge k (NI R).length with hk | hk
  · rw [List.getElem?_append_left hk] at hv ⊢
    exact ⟨v, hv, .inl (NI_ren π R hv)⟩
  · rw [List.getElem?_append_right hk] at hv ⊢
    have h0 : k - (NI R).length = 0 := by
      cases hn : k - (NI R).length with
      | zero => rfl
      | succ n => rw [hn] at hv; simp at hv
    rw [h0] at hv ⊢
    simp only [List.getElem?_cons_zero, Option.some.injEq] at hv ⊢
    subst hv
    exact ⟨_, rfl, .inr ⟨.il r, id, ef, rfl, rfl, h2, h3⟩⟩
/-- an empty slice of slices, as rows -/
theorem NI_nil {π : Nat → Nat} {η η' : Hp} {i : Nat} {e : TypeId} {c : T} (h1 : η (π i) = some (.sl e c)) (h2 : c.elems = []) : BTo π η η' i (.nest e (NI []) [] noRem) :=
  .inr ⟨c, h1, by rw [h2]; rfl⟩
def domN (l : List (Nat × Blk)) : List Nat := l.map (·.1)
theorem domN_lk {l : List (Nat × Blk)} {i : Nat} (h : (ovH (lkH l) noFam i).isSome) : i ∈ domN l := by
  rcases Nat.lt_or_ge i bigN with hi | hi
  · rw [ovH_lt hi] at h
    induction l with
    | nil => simp [lkH] at h
    | cons p r ih =>
      obtain ⟨s, v⟩ := p
      simp only [lkH] at h
      cases hb : Nat.beq i s with
      | true => rw [Nat.eq_of_beq_eq_true hb]; exact List.mem_cons_self
      | false => simp only [hb, cond_false] at h; exact List.mem_cons_of_mem _ (ih h)
  · rw [ovH_ge hi] at h; cases h
def injN (π : Nat → Nat) (d : List Nat) : Bool := d.all fun i => d.all fun j => !(Nat.beq (π i) (π j)) || Nat.beq i j
theorem injN_ok {π : Nat → Nat} {l : List (Nat × Blk)} (h : injN π (domN l) = true) (i j : Nat) (hi : (ovH (lkH l) noFam i).isSome) (hj : (ovH (lkH l) noFam j).isSome) (e : π i = π j) : i = j := by
  have := List.all_eq_true.1 (List.all_eq_true.1 h i (domN_lk hi)) j (domN_lk hj)
  rw [e, Nat.beq_refl] at this
  exact Nat.eq_of_beq_eq_true (by simpa using this)
def awayN (π : Nat → Nat) (d : List Nat) (id : Nat) : Bool := d.all fun j => !(Nat.beq (π j) id)
theorem awayN_ok {π : Nat → Nat} {l : List (Nat × Blk)} {id : Nat} (h : awayN π (domN l) id = true) (j : Nat) (hj : (ovH (lkH l) noFam j).isSome) : π j ≠ id := fun e => by
  have := List.all_eq_true.1 h j (domN_lk hj)
  rw [e, Nat.beq_refl] at this; cases this
theorem take_snoc0 {l : List Int} {i : Nat} {x : Int} (h : i < l.length) (hx : l.getD i 0 = x) : l.take i ++ [x] = l.take (i + 1) := by
  rw [List.take_succ_eq_append_getElem h, ← hx, List.getD_eq_getElem?_getD, List.getElem?_eq_getElem h]; rfl
section
variable {N : Nat} {ops : Array Oper} {K : Fr → Hp → Prop} {o : Oper} {l : List Oper} {α α' : List (Nat × AV)} {H H' ch : List (Nat × Blk)} {fm : Hp} {v v' : AV} {d : Nat} {S : List Nat} {pre : List (List Nat × List Nat)}
theorem ky_rs (hq : QRun Try.prog o (opF o (lkF α) (lkH H)) S (lkF α) (lkH H) v (lkH ch)) (hg : guardA ops (lkF α) o = some true := by exact rfl) (hd : o.dst = some d := by exact rfl) (hN : Nat.blt d N = true := by exact rfl)
    (hv : v = v' := by first | exact nf_f rfl | exact nf_b rfl | exact nf_i rfl | exact nf_bp rfl | exact nf_own rfl | exact nf_argo rfl | exact nf_arg rfl | exact nf_argc rfl | exact nf_fl rfl | exact nf_ofl rfl | exact nf_oref rfl | exact nf_tref rfl | exact nf_s rfl | exact nf_t rfl | exact nf_old rfl | exact nf_junk rfl | exact nf_dead rfl | (simp only [resV, resVl, scrubL, scrub, List.map, List.drop, List.take, mkT, zA, cellsA, cid, cids, relab, sg, List.getD, List.append, List.cons_append, List.nil_append, Nat.reduceMul, Nat.reduceAdd, Array.toList, T.get, cond_true, cond_false]; rfl) | rfl) (hα : scrubF S α = α' := by first | (simp only [scrubF, scrubHL, scrub, scrubL, scrubB, cblk, cids, cid, relab, sg, List.contains_cons, List.contains_nil, Nat.reduceBEq, Bool.or_false, Bool.or_true, cond_true, cond_false, List.cons_append, List.nil_append, Nat.reduceMul, Nat.reduceAdd, List.set, List.take, List.drop, List.length, List.append_nil]; rfl) | rfl) (hH : ch ++ scrubHL S H = H' := by first | (simp (disch := decide) only [scrub_nest, scrubF, scrubHL, scrub, scrubL, scrubB_sl, scrubB_box, cblk, cids, cid, relab, sg, List.contains_cons, List.contains_nil, Nat.reduceBEq, Bool.or_false, Bool.or_true, cond_true, cond_false, List.cons_append, List.nil_append, Nat.reduceMul, Nat.reduceAdd, List.set, List.take, List.drop, List.length, List.append_nil]; rfl) | rfl)
    (hf : footB (opF o (lkF α) (lkH H)) (chC S (fst' ch)) S (o.op.operands.toList.map (evA (lkF α))) (lkH H) v' ch = true := by kernel_rfl)
    (hf0 : FamOk fm := by assumption) (hs0 : smL (opF o (lkF α) (lkH H)) = true := by kernel_rfl) (hS0 : smL S = true := by exact rfl) (hc0 : smC ch = true := by exact rfl) (h : LexD Try.prog N ops true K ((opF o (lkF α) (lkH H), chC S (fst' ch)) :: pre) l (lkF ((d, v') :: α')) (ovH (lkH H') fm)) : LexD Try.prog N ops true K pre (o :: l) (lkF α) (ovH (lkH H) fm) := ndx_s hf0 hg hd hN hq hs0 hS0 hc0 hv hα hH hf h
end
section
variable {P : Program} {N : Nat} {Q : Exit → Fr → Hp → Prop} {ρ : Fr} {η : Hp}
/-- the loop's states again, with other names -/
theorem famN_p {X : Type} {Inv : X → Prop} {α : X → List (Nat × AV)} {H : X → List (Nat × Blk)} (π : Nat → Nat) (x : X) (hI : Inv x) (hF : wkF π ρ (α x)) (hB : wkB π η (ovH (lkH (H x)) noFam) (H x)) (hi : injN π (domN (H x)) = true) : FamN Inv α (fun x => ovH (lkH (H x)) noFam) x ρ η :=
  ⟨hI, π, hF, wkB_ov hB (fun i B _ h => by cases h), injN_ok hi⟩
end
end Go.Proofs.Ytpdnjcblkjjegaa

