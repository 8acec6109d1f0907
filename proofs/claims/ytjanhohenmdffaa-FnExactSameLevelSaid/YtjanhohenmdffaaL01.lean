/- laws.FnExactSameLevel returns true whatever the two levels are, and they read as they did. No condition. -/
import Derived.Test.YtjanhohenmdffaaT5
import Derived.Test.YtjanhohenmdffaaAwLaw
import Derived.Test.YtjanhohenmdffaaRows
set_option linter.unusedVariables false
set_option linter.unusedSimpArgs false
set_option maxRecDepth 100000
set_option maxHeartbeats 4000000
namespace Go.Proofs.Ytjanhohenmdffaa
open Go.ChangeShapes Go.WideShapes Go.ChangeAt Go.RowKit Go.Aw

theorem ownK : ownKnob Try.prog.godebug = none := by kernel_rfl
theorem laidK : laidOutB Try.prog = true := by kernel_rfl

theorem fnExactSameLevel_lifted (os : Os) (started : os.Started) (H : Type) (enc : TypeId × Value → H) :
    ReturnsInHanded {} Try.checked os 3 .any (Rows.fnExactSameLevelSpec.pre6 enc Try.prog Try.f3 Rows.fnExactSameLevelRow.domain false) (Rows.fnExactSameLevelSpec.post enc Try.prog Try.f3 false true false false) := by
  refine returnsInHanded_of_change (C := Try.checked) ownK started (by kernel_rfl) Try.func3
    (ChangeSpec.witness6 (enc := enc) (C := Try.checked) false ⟨#[], #[.agg #[.float .f32 0, .float .f32 0, .float .f32 0, .float .f32 0], .agg #[.float .f32 0, .float .f32 0, .float .f32 0, .float .f32 0]], []⟩ 8 (by kernel_rfl) (by kernel_rfl) (by kernel_rfl) (by kernel_rfl)) ?_
  intro W base args ds gs before hval0 hW hcnd _
  have hval : ∀ (j : Nat) t v, Try.f3.params[j]? = some t → args[j]? = some v → Value.okWide Try.prog W .any base t v := hval0
  have hW' := hW
  obtain ⟨p, q, hA0, hV, rfl, hfz, hnd⟩ := hW
  have hA : DataW.TrodAll enc Try.prog W 0 (fun _ => true) true Try.f3.params.toList args.toList ds p := hA0
  rw [Try.params3] at hA hval
  obtain ⟨v0, v1, d0, d1, p0, p1, rfl, rfl, rfl, h0, h1⟩ := trodAll_two hA
  obtain ⟨rfl, rfl⟩ := trodVars_none hV
  obtain ⟨a, b, c, d, ⟨a1, b1, c1, d1⟩, t0⟩ := open_F4 Try.underlying24 (by kernel_rfl) (by kernel_rfl) rfl rfl rfl rfl Try.underlying22 (hval 0 24 v0 rfl rfl) h0
  obtain ⟨a', b', c', d', ⟨a1', b1', c1', d1'⟩, t1⟩ := open_F4 Try.underlying24 (by kernel_rfl) (by kernel_rfl) rfl rfl rfl rfl Try.underlying22 (hval 1 24 v1 rfl rfl) h1
  have he : and4 (fun x y => sameN x y) a b c d a' b' c' d' = and4 (fun x y => bits x == bits y) a b c d a' b' c' d' := by
    simp only [and4]
    rw [sameN_eq a1.1 a1.2 a1'.1 a1'.2, sameN_eq b1.1 b1.2 b1'.1 b1'.2, sameN_eq c1.1 c1.2 c1'.1 c1'.2, sameN_eq d1.1 d1.2 d1'.1 d1'.2]
  refine (law_calls (law_c a b c d a' b' c' d' he) (TRl_cons (t0 _) (TRl_1 (t1 _)))).mono fun e W' ⟨he, hw⟩ => ?_
  subst he
  exact ⟨_, rfl, law_post laidK (by kernel_rfl) (by kernel_rfl) Try.underlying4 rfl rfl rfl rfl hW' hw⟩

theorem fnExactSameLevel_holds : Rows.FnExactSameLevelSaid :=
  OpenClaim.holds_of_wide 3 Try.f3 rfl rfl rfl rfl rfl rfl rfl ⟨rfl, rfl, rfl, rfl, rfl⟩ rfl rfl rfl rfl rfl (by kernel_rfl) Try.func3 (by kernel_rfl)
    (of_decide_eq_true (by kernel_rfl)) (by unfold Func.isWrapper; first | (rw [if_pos (by decide +kernel)]; kernel_rfl) | (rw [if_neg (by decide +kernel)]; exact ⟨rfl, rfl⟩))
    (fun os started H enc _ => fnExactSameLevel_lifted os started H enc)
end Go.Proofs.Ytjanhohenmdffaa
