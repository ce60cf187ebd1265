/- FnExactMax holds: for all two integers the program's Max and the reference's agree. No conditions. -/
import Derived.Test.YtbipfecekifnkaaPFnExactMaxx1
import Derived.OpenShut
namespace Go.Proofs.Ytbipfecekifnkaa.Pure
open Go.RowKit Go.Proofs.Ytbipfecekifnkaa.PFnExactMax Go.Proofs.YtbipfecekifnkaaW.PrintWords Go.Proofs.YtbipfecekifnkaaW.PrintLast
set_option linter.unusedVariables false
set_option linter.unusedSimpArgs false

theorem FnExactMax : laws_FnExactMax.Pure := by
  intro a0 a1 _ _
  have e : spec_Max.f a0 a1 = impl_Max.f a0 a1 := by
    unfold spec_Max.f impl_Max.f mx
    split <;> congr 1 <;> omega
  have s : ∃ r, impl_Max.f a0 a1 = some r := ⟨_, rfl⟩
  obtain ⟨r, hr⟩ := s
  unfold laws_FnExactMax.f
  rw [e, hr]
  simp

end Go.Proofs.Ytbipfecekifnkaa.Pure
