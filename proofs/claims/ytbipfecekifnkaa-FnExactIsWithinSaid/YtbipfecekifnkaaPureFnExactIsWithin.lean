/- FnExactIsWithin holds: for all three integers the program's IsWithin and the reference's agree. No conditions. -/
import Derived.Test.YtbipfecekifnkaaPFnExactIsWithinx1
import Derived.OpenShut
namespace Go.Proofs.Ytbipfecekifnkaa.Pure
open Go.RowKit Go.Proofs.Ytbipfecekifnkaa.PFnExactIsWithin Go.Proofs.YtbipfecekifnkaaW.PrintWords Go.Proofs.YtbipfecekifnkaaW.PrintLast
set_option linter.unusedVariables false
set_option linter.unusedSimpArgs false

theorem FnExactIsWithin : laws_FnExactIsWithin.Pure := by
  intro a0 a1 a2 _ _ _
  unfold laws_FnExactIsWithin.f spec_IsWithin.f impl_IsWithin.f spec_IsTime.f impl_IsTime.f spec_l1In.f impl_InRange.f
  by_cases h1 : 0 ≤ a0 <;> by_cases h2 : a0 ≤ 10000 <;> by_cases h3 : 0 ≤ a1 <;> by_cases h4 : a1 ≤ 10000 <;> by_cases h5 : 0 ≤ a2 <;> by_cases h6 : a2 ≤ 10000 <;> by_cases h7 : a0 ≤ a2 <;> simp [h1, h2, h3, h4, h5, h6, h7]

end Go.Proofs.Ytbipfecekifnkaa.Pure
