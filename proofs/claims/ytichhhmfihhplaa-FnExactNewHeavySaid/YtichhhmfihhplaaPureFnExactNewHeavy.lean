/- FnExactNewHeavy: the program's NewHeavy makes a count with nothing in it as the reference does: for all numbers. -/
import Derived.Test.YtichhhmfihhplaaPFnExactNewHeavyx2
import Derived.Test.YtichhhmfihhplaaKit
namespace Go.Proofs.Ytichhhmfihhplaa.Pure
open Go.RowKit Go.Proofs.Ytichhhmfihhplaa.PFnExactNewHeavy Go.Proofs.YtichhhmfihhplaaW.PrintWords Go.Proofs.YtichhhmfihhplaaW.PrintLast Go.Proofs.Ytichhhmfihhplaa.Kit
set_option linter.unusedVariables false
set_option linter.unusedSimpArgs false

theorem l01In_eq (a b c : Int) : spec_l01In.f a b c = some (decide (b ≤ a ∧ a ≤ c)) := by
  unfold spec_l01In.f
  by_cases h : b ≤ a <;> simp [h]
theorem within_eq (a b c : Int) : impl_within.f a b c = some (decide (b ≤ a ∧ a ≤ c)) := by
  unfold impl_within.f
  by_cases h : b ≤ a <;> simp [h]

theorem FnExactNewHeavy : laws_FnExactNewHeavy.Pure := by
  intro a _
  refine ⟨8, ?_⟩
  by_cases h : 1 ≤ a ∧ a ≤ 16
  · have e1 : spec_NewHeavy.f a = some (a, [], 0, 0, true) := by simp [spec_NewHeavy.f, l01In_eq, h]
    have e2 : impl_NewHeavy.f a = some (a, [], 0, 0, true) := by simp [impl_NewHeavy.f, within_eq, h]
    simp [laws_FnExactNewHeavy.f, laws_FnExactNewHeavy.j0, laws_FnExactNewHeavy.j1, e1, e2, laws_eqHeavy.f, laws_eqSlotS.f, laws_eqSlotS.l0, laws_markHeavy.f, laws_markSlotS.f, laws_markSlotS.l0, laws_heldHeavy.f, laws_heldSlotS.f, laws_heldSlotS.l0]
  · have e1 : spec_NewHeavy.f a = some (0, [], 0, 0, false) := by simp [spec_NewHeavy.f, l01In_eq, h]
    have e2 : impl_NewHeavy.f a = some (0, [], 0, 0, false) := by simp [impl_NewHeavy.f, within_eq, h]
    simp [laws_FnExactNewHeavy.f, laws_FnExactNewHeavy.j0, laws_FnExactNewHeavy.j1, e1, e2, laws_eqHeavy.f, laws_eqSlotS.f, laws_eqSlotS.l0, laws_markHeavy.f, laws_markSlotS.f, laws_markSlotS.l0, laws_heldHeavy.f, laws_heldSlotS.f, laws_heldSlotS.l0]
end Go.Proofs.Ytichhhmfihhplaa.Pure
