/- FnExactHasKind holds: for all two integers the program's HasKind and the reference's agree. No conditions. -/
import Derived.Test.YtbipfecekifnkaaPFnExactHasKindx1
import Derived.OpenShut
namespace Go.Proofs.Ytbipfecekifnkaa.Pure
open Go.RowKit Go.Proofs.Ytbipfecekifnkaa.PFnExactHasKind Go.Proofs.YtbipfecekifnkaaW.PrintWords Go.Proofs.YtbipfecekifnkaaW.PrintLast
set_option linter.unusedVariables false
set_option linter.unusedSimpArgs false

theorem FnExactHasKind : laws_FnExactHasKind.Pure := by
  intro a0 a1 _ _
  unfold laws_FnExactHasKind.f spec_HasKind.f impl_HasKind.f spec_IsName.f impl_IsName.f impl_KindOf.f impl_IsName.f spec_l1In.f impl_InRange.f
  by_cases h1 : 10 ≤ a0 <;> by_cases h2 : a0 ≤ 49 <;> simp [h1, h2]

end Go.Proofs.Ytbipfecekifnkaa.Pure
