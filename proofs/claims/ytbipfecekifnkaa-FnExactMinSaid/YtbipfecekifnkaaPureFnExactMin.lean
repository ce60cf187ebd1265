/- FnExactMin holds: for all two integers the program's Min and the reference's agree. No conditions. -/
import Derived.Test.YtbipfecekifnkaaPFnExactMinx1
import Derived.OpenShut
namespace Go.Proofs.Ytbipfecekifnkaa.Pure
open Go.RowKit Go.Proofs.Ytbipfecekifnkaa.PFnExactMin Go.Proofs.YtbipfecekifnkaaW.PrintWords Go.Proofs.YtbipfecekifnkaaW.PrintLast
set_option linter.unusedVariables false
set_option linter.unusedSimpArgs false

theorem FnExactMin : laws_FnExactMin.Pure := by
  intro a0 a1 _ _
  have e : spec_Min.f a0 a1 = impl_Min.f a0 a1 := by
    unfold spec_Min.f impl_Min.f mn
    split <;> congr 1 <;> omega
  have s : ∃ r, impl_Min.f a0 a1 = some r := ⟨_, rfl⟩
  obtain ⟨r, hr⟩ := s
  unfold laws_FnExactMin.f
  rw [e, hr]
  simp

end Go.Proofs.Ytbipfecekifnkaa.Pure
