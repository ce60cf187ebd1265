/- FnExactIsTime holds: for every integer the program's IsTime and the reference's agree. No conditions. -/
import Derived.Test.YtbipfecekifnkaaPFnExactIsTimex1
import Derived.OpenShut
namespace Go.Proofs.Ytbipfecekifnkaa.Pure
open Go.RowKit Go.Proofs.Ytbipfecekifnkaa.PFnExactIsTime Go.Proofs.YtbipfecekifnkaaW.PrintWords Go.Proofs.YtbipfecekifnkaaW.PrintLast
set_option linter.unusedVariables false
set_option linter.unusedSimpArgs false

theorem FnExactIsTime : laws_FnExactIsTime.Pure := by
  intro a0 _
  have e : spec_IsTime.f a0 = impl_IsTime.f a0 := rfl
  have s : ∃ r, impl_IsTime.f a0 = some r := by
    unfold impl_IsTime.f impl_InRange.f
    split <;> exact ⟨_, rfl⟩
  obtain ⟨r, hr⟩ := s
  unfold laws_FnExactIsTime.f
  rw [e, hr]
  simp

end Go.Proofs.Ytbipfecekifnkaa.Pure
