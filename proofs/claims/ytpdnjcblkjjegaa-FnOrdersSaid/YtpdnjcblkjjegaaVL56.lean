/- laws.FnOrders returns true whatever its arguments are, and they read as they did. No condition. -/
import Derived.Test.YtpdnjcblkjjegaaVT224
import Derived.Test.YtpdnjcblkjjegaaVAwD
import Derived.Test.YtpdnjcblkjjegaaVAwG
import Derived.Test.YtpdnjcblkjjegaaRows
set_option linter.unusedVariables false
set_option linter.unusedSimpArgs false
set_option maxRecDepth 100000
set_option maxHeartbeats 4000000
namespace Go.Proofs.Ytpdnjcblkjjegaa
open Go.ChangeShapes Go.WideShapes Go.ChangeAt Go.RowKit Go.Aw

theorem ownK : ownKnob Try.prog.godebug = none := by kernel_rfl
theorem laidK : laidOutB Try.prog = true := by kernel_rfl

theorem fnOrders_lifted (os : Os) (started : os.Started) (H : Type) (enc : TypeId × Value → H) :
    ReturnsInHanded {} Try.checked os 4 .any (Rows.fnOrdersSpec.pre6 enc Try.prog Try.f4 Rows.fnOrdersRow.domain false) (Rows.fnOrdersSpec.post enc Try.prog Try.f4 false true false false) := by
  refine returnsInHanded_of_change (C := Try.checked) ownK started (by kernel_rfl) Try.func4
    (ChangeSpec.witness6 (enc := enc) (C := Try.checked) false ⟨#[], #[.slice none 0 0, .slice none 0 0], []⟩ 8 (by kernel_rfl) (by kernel_rfl) (by kernel_rfl) (by kernel_rfl)) ?_
  intro W base args ds gs before hval0 hW hcnd _
  have hval : ∀ (j : Nat) t v, Try.f4.params[j]? = some t → args[j]? = some v → Value.okWide Try.prog W .any base t v := hval0
  have hW' := hW
  obtain ⟨p, q, hA0, hV, rfl, hfz, hnd⟩ := hW
  have hA : DataW.TrodAll enc Try.prog W 0 (fun _ => true) true Try.f4.params.toList args.toList ds p := hA0
  rw [Try.params4] at hA hval
  obtain ⟨v0, v1, d0, d1, p0, p1, rfl, rfl, rfl, k0, k1⟩ := trodAll_two hA
  obtain ⟨rfl, rfl⟩ := trodVars_none hV
  have hlt := fun x hx => hW'.lt x hx
  simp only [List.append_nil, List.size_toArray] at hlt
  obtain ⟨x0, h0, t0⟩ := open_U8 Try.underlying22 Try.underlying5 (by kernel_rfl) (fun x hx => hlt x (by simp [hx])) k0 (hval 0 22 v0 rfl rfl)
  obtain ⟨x1, h1, t1⟩ := open_U8 Try.underlying22 Try.underlying5 (by kernel_rfl) (fun x hx => hlt x (by simp [hx])) k1 (hval 1 22 v1 rfl rfl)

  refine (law_calls (lawFnOrders_c x0 x1 h0.1 h1.1 h0.2 h1.2) (TRl_cons (t0 _ (fun _ => trivial)) (TRl_cons (t1 _ (fun _ => trivial)) TRl_nil))).mono fun e W' ⟨he, hw⟩ => ?_
  subst he
  exact ⟨_, rfl, law_post laidK (by kernel_rfl) (by kernel_rfl) Try.underlying4 rfl rfl rfl rfl hW' hw⟩

theorem fnOrders_holds : Rows.FnOrdersSaid :=
  OpenClaim.holds_of_wide 4 Try.f4 rfl rfl rfl rfl rfl rfl rfl ⟨rfl, rfl, rfl, rfl, rfl⟩ rfl rfl rfl rfl rfl (by kernel_rfl) Try.func4 (by kernel_rfl)
    (of_decide_eq_true (by kernel_rfl)) (by unfold Func.isWrapper; first | (rw [if_pos (by decide +kernel)]; kernel_rfl) | (rw [if_neg (by decide +kernel)]; exact ⟨rfl, rfl⟩))
    (fun os started H enc _ => fnOrders_lifted os started H enc)
end Go.Proofs.Ytpdnjcblkjjegaa

