/- FnExactMakeName holds: for all two integers the program's MakeName and the reference's agree. No conditions. -/
import Derived.Test.YtobpbnbjdpdflaaPFnExactMakeNamex1
import Derived.OpenShut
namespace Go.Proofs.Ytobpbnbjdpdflaa.Pure
open Go.RowKit Go.Proofs.Ytobpbnbjdpdflaa.PFnExactMakeName Go.Proofs.YtobpbnbjdpdflaaW.PrintWords Go.Proofs.YtobpbnbjdpdflaaW.PrintLast
set_option linter.unusedVariables false
set_option linter.unusedSimpArgs false

theorem FnExactMakeName : laws_FnExactMakeName.Pure := by
  intro a0 a1 _ _
  unfold laws_FnExactMakeName.f spec_MakeName.f impl_MakeName.f spec_l1In.f impl_InRange.f
  by_cases h1 : 1 ≤ a0 <;> by_cases h2 : a0 ≤ 4 <;> by_cases h3 : 0 ≤ a1 <;> by_cases h4 : a1 ≤ 9 <;> simp [h1, h2, h3, h4]

end Go.Proofs.Ytobpbnbjdpdflaa.Pure
