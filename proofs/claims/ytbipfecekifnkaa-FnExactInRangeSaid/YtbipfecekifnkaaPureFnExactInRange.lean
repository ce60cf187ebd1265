/- FnExactInRange holds: for all three integers the program's InRange and the reference's agree. No conditions. -/
import Derived.Test.YtbipfecekifnkaaPFnExactInRangex1
import Derived.OpenShut
namespace Go.Proofs.Ytbipfecekifnkaa.Pure
open Go.RowKit Go.Proofs.Ytbipfecekifnkaa.PFnExactInRange Go.Proofs.YtbipfecekifnkaaW.PrintWords Go.Proofs.YtbipfecekifnkaaW.PrintLast
set_option linter.unusedVariables false
set_option linter.unusedSimpArgs false

theorem FnExactInRange : laws_FnExactInRange.Pure := by
  intro a0 a1 a2 _ _ _
  unfold laws_FnExactInRange.f spec_InRange.f impl_InRange.f
  by_cases h : a1 ≤ a0 <;> simp [h]

end Go.Proofs.Ytbipfecekifnkaa.Pure
