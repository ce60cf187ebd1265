/- FnExactIsName holds: for every integer the program's IsName and the reference's agree. No conditions. -/
import Derived.Test.YtbipfecekifnkaaPFnExactIsNamex1
import Derived.OpenShut
namespace Go.Proofs.Ytbipfecekifnkaa.Pure
open Go.RowKit Go.Proofs.Ytbipfecekifnkaa.PFnExactIsName Go.Proofs.YtbipfecekifnkaaW.PrintWords Go.Proofs.YtbipfecekifnkaaW.PrintLast
set_option linter.unusedVariables false
set_option linter.unusedSimpArgs false

theorem FnExactIsName : laws_FnExactIsName.Pure := by
  intro a0 _
  have e : spec_IsName.f a0 = impl_IsName.f a0 := rfl
  have s : ∃ r, impl_IsName.f a0 = some r := by
    unfold impl_IsName.f impl_InRange.f
    split <;> exact ⟨_, rfl⟩
  obtain ⟨r, hr⟩ := s
  unfold laws_FnExactIsName.f
  rw [e, hr]
  simp

end Go.Proofs.Ytbipfecekifnkaa.Pure
