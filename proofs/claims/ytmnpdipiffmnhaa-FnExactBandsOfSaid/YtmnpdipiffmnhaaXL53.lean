/- laws.FnExactBandsOf returns true whatever its arguments are, and they read as they did. No condition. -/
import Derived.Test.YtmnpdipiffmnhaaXT176
import Derived.Test.YtmnpdipiffmnhaaZAwD
import Derived.Test.YtmnpdipiffmnhaaRows
set_option linter.unusedVariables false
set_option linter.unusedSimpArgs false
set_option maxRecDepth 100000
set_option maxHeartbeats 4000000
namespace Go.Proofs.Ytmnpdipiffmnhaa
open Go.ChangeShapes Go.WideShapes Go.ChangeAt Go.RowKit Go.Aw

section
variable {H : Type} {enc : TypeId × Value → H} {P : Program} {w : World} {base : Nat} {spare : Nat → Bool} {held : Bool}
theorem trodAll_seven {t0 t1 t2 t3 t4 t5 t6 : TypeId} {args : Array Value} {ds : List (DataW H)} {ps : List MemPlace} (h : DataW.TrodAll enc P w base spare held [t0, t1, t2, t3, t4, t5, t6] args.toList ds ps) :
    ∃ v0 v1 v2 v3 v4 v5 v6 d0 d1 d2 d3 d4 d5 d6 p0 p1 p2 p3 p4 p5 p6, args = #[v0, v1, v2, v3, v4, v5, v6] ∧ ds = [d0, d1, d2, d3, d4, d5, d6] ∧ ps = p0 ++ p1 ++ p2 ++ p3 ++ p4 ++ p5 ++ p6 ∧ DataW.Trod enc P w base spare held t0 v0 d0 p0 ∧ DataW.Trod enc P w base spare held t1 v1 d1 p1 ∧ DataW.Trod enc P w base spare held t2 v2 d2 p2 ∧ DataW.Trod enc P w base spare held t3 v3 d3 p3 ∧ DataW.Trod enc P w base spare held t4 v4 d4 p4 ∧ DataW.Trod enc P w base spare held t5 v5 d5 p5 ∧ DataW.Trod enc P w base spare held t6 v6 d6 p6 := by
  obtain ⟨v0, vs0, d0, ds0, p0, q0, hargs, rfl, rfl, k0, hr0⟩ := trodAll_cons h
  obtain ⟨v1, vs1, d1, ds1, p1, q1, rfl, rfl, rfl, k1, hr1⟩ := trodAll_cons hr0
  obtain ⟨v2, vs2, d2, ds2, p2, q2, rfl, rfl, rfl, k2, hr2⟩ := trodAll_cons hr1
  obtain ⟨v3, vs3, d3, ds3, p3, q3, rfl, rfl, rfl, k3, hr3⟩ := trodAll_cons hr2
  obtain ⟨v4, vs4, d4, ds4, p4, q4, rfl, rfl, rfl, k4, hr4⟩ := trodAll_cons hr3
  obtain ⟨v5, vs5, d5, ds5, p5, q5, rfl, rfl, rfl, k5, hr5⟩ := trodAll_cons hr4
  obtain ⟨v6, vs6, d6, ds6, p6, q6, rfl, rfl, rfl, k6, hr6⟩ := trodAll_cons hr5
  obtain ⟨rfl, rfl, rfl⟩ := trodAll_nil hr6
  exact ⟨v0, v1, v2, v3, v4, v5, v6, d0, d1, d2, d3, d4, d5, d6, p0, p1, p2, p3, p4, p5, p6, by cases args; simp_all, rfl, by simp, k0, k1, k2, k3, k4, k5, k6⟩
end
theorem ownK : ownKnob Try.prog.godebug = none := by kernel_rfl
theorem laidK : laidOutB Try.prog = true := by kernel_rfl

theorem fnExactBandsOf_lifted (os : Os) (started : os.Started) (H : Type) (enc : TypeId × Value → H) :
    ReturnsInHanded {} Try.checked os 7 .any (Rows.fnExactBandsOfSpec.pre6 enc Try.prog Try.f7 Rows.fnExactBandsOfRow.domain false) (Rows.fnExactBandsOfSpec.post enc Try.prog Try.f7 false true false false) := by
  refine returnsInHanded_of_change (C := Try.checked) ownK started (by kernel_rfl) Try.func7
    (ChangeSpec.witness6 (enc := enc) (C := Try.checked) false ⟨#[], #[.agg #[.float .f32 0, .float .f32 0, .slice none 0 0, .int .i64 0], .agg #[.float .f32 0, .float .f32 0, .float .f32 0, .float .f32 0], .slice none 0 0, .int .i64 0, .int .i64 0, .int .i64 0, .float .f32 0], []⟩ 8 (by kernel_rfl) (by kernel_rfl) (by kernel_rfl) (by kernel_rfl)) ?_
  intro W base args ds gs before hval0 hW hcnd _
  have hval : ∀ (j : Nat) t v, Try.f7.params[j]? = some t → args[j]? = some v → Value.okWide Try.prog W .any base t v := hval0
  have hW' := hW
  obtain ⟨p, q, hA0, hV, rfl, hfz, hnd⟩ := hW
  have hA : DataW.TrodAll enc Try.prog W 0 (fun _ => true) true Try.f7.params.toList args.toList ds p := hA0
  rw [Try.params7] at hA hval
  obtain ⟨v0, v1, v2, v3, v4, v5, v6, d0, d1, d2, d3, d4, d5, d6, p0, p1, p2, p3, p4, p5, p6, rfl, rfl, rfl, k0, k1, k2, k3, k4, k5, k6⟩ := trodAll_seven hA
  obtain ⟨rfl, rfl⟩ := trodVars_none hV
  have hlt := fun x hx => hW'.lt x hx
  simp only [List.append_nil, List.size_toArray] at hlt
  obtain ⟨x0a, x0b, x0c, x0d, h0, t0⟩ := open_St Try.underlying65 (by kernel_rfl) (by kernel_rfl) rfl rfl rfl rfl Try.underlying24 Try.underlying30 Try.underlying2 (by kernel_rfl) (fun x hx => hlt x (by simp [hx])) (hval 0 65 v0 rfl rfl) k0
  obtain ⟨x1a, x1b, x1c, x1d, h1, t1⟩ := open_F4 Try.underlying67 (by kernel_rfl) (by kernel_rfl) rfl rfl rfl rfl Try.underlying30 (hval 1 67 v1 rfl rfl) k1
  obtain ⟨x2, h2, t2⟩ := open_FL Try.underlying24 Try.underlying30 (by kernel_rfl) (fun x hx => hlt x (by simp [hx])) k2 (hval 2 24 v2 rfl rfl)
  obtain ⟨x3, h3, t3⟩ := open_I64 Try.underlying2 k3 (hval 3 2 v3 rfl rfl)
  obtain ⟨x4, h4, t4⟩ := open_I64 Try.underlying2 k4 (hval 4 2 v4 rfl rfl)
  obtain ⟨x5, h5, t5⟩ := open_I64 Try.underlying2 k5 (hval 5 2 v5 rfl rfl)
  obtain ⟨x6, h6, t6⟩ := open_F32 Try.underlying30 k6 (hval 6 30 v6 rfl rfl)
  
  refine (law_calls (lawBands_c ⟨x0a, x0b, x0c, x0d⟩ ⟨x1a, x1b, x1c, x1d⟩ x2 x3 x4 x5 x6 h0.2.2.1.1 h2.1 h6) (TRl_cons (t0 _ (fun _ => trivial)) (TRl_cons (t1 _) (TRl_cons (t2 _ (fun _ => trivial)) (TRl_cons (t3 _) (TRl_cons (t4 _) (TRl_cons (t5 _) (TRl_cons (t6 _) TRl_nil)))))))).mono fun e W' ⟨he, hw⟩ => ?_
  subst he
  exact ⟨_, rfl, law_post laidK (by kernel_rfl) (by kernel_rfl) Try.underlying4 rfl rfl rfl rfl hW' hw⟩

theorem fnExactBandsOf_holds : Rows.FnExactBandsOfSaid :=
  OpenClaim.holds_of_wide 7 Try.f7 rfl rfl rfl rfl rfl rfl rfl ⟨rfl, rfl, rfl, rfl, rfl⟩ rfl rfl rfl rfl rfl (by kernel_rfl) Try.func7 (by kernel_rfl)
    (of_decide_eq_true (by kernel_rfl)) (by unfold Func.isWrapper; first | (rw [if_pos (by decide +kernel)]; kernel_rfl) | (rw [if_neg (by decide +kernel)]; exact ⟨rfl, rfl⟩))
    (fun os started H enc _ => fnExactBandsOf_lifted os started H enc)
end Go.Proofs.Ytmnpdipiffmnhaa

