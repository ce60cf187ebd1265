/- FnExactIsValidKey holds: for every integer the program's IsValidKey and the reference's agree. No conditions. -/
import Derived.Test.YtbipfecekifnkaaPFnExactIsValidKeyx1
import Derived.OpenShut
namespace Go.Proofs.Ytbipfecekifnkaa.Pure
open Go.RowKit Go.Proofs.Ytbipfecekifnkaa.PFnExactIsValidKey Go.Proofs.YtbipfecekifnkaaW.PrintWords Go.Proofs.YtbipfecekifnkaaW.PrintLast
set_option linter.unusedVariables false
set_option linter.unusedSimpArgs false

theorem FnExactIsValidKey : laws_FnExactIsValidKey.Pure := by
  intro a0 _
  have e : spec_IsValidKey.f a0 = impl_IsValidKey.f a0 := rfl
  have s : ∃ r, impl_IsValidKey.f a0 = some r := by
    unfold impl_IsValidKey.f impl_InRange.f
    split <;> exact ⟨_, rfl⟩
  obtain ⟨r, hr⟩ := s
  unfold laws_FnExactIsValidKey.f
  rw [e, hr]
  simp

end Go.Proofs.Ytbipfecekifnkaa.Pure
