/- FnExactCeilDiv holds: for all two integers the program's CeilDiv and the reference's agree. No conditions. -/
import Derived.Test.YtbipfecekifnkaaPFnExactCeilDivx1
import Derived.OpenShut
namespace Go.Proofs.Ytbipfecekifnkaa.Pure
open Go.RowKit Go.Proofs.Ytbipfecekifnkaa.PFnExactCeilDiv Go.Proofs.YtbipfecekifnkaaW.PrintWords Go.Proofs.YtbipfecekifnkaaW.PrintLast
set_option linter.unusedVariables false
set_option linter.unusedSimpArgs false

theorem FnExactCeilDiv : laws_FnExactCeilDiv.Pure := by
  intro a0 a1 _ _
  unfold laws_FnExactCeilDiv.f spec_CeilDiv.f impl_CeilDiv.f spec_l1In.f impl_InRange.f
  by_cases h1 : 0 ≤ a0 <;> by_cases h2 : a0 ≤ 1000000000000 <;> by_cases h3 : 1 ≤ a1 <;> by_cases h4 : a1 ≤ 1000000000000 <;> simp [h1, h2, h3, h4]
  have h5 : a1 ≠ 0 := by omega
  simp [h5]

end Go.Proofs.Ytbipfecekifnkaa.Pure
