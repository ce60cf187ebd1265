/- FnExactConstants holds: every constant has the value that the reference names. No conditions. -/
import Derived.Test.YtbipfecekifnkaaPFnExactConstantsx1
import Derived.OpenShut
namespace Go.Proofs.Ytbipfecekifnkaa.Pure
open Go.RowKit Go.Proofs.Ytbipfecekifnkaa.PFnExactConstants Go.Proofs.YtbipfecekifnkaaW.PrintWords Go.Proofs.YtbipfecekifnkaaW.PrintLast
set_option linter.unusedVariables false
set_option linter.unusedSimpArgs false

theorem FnExactConstants : laws_FnExactConstants.Pure := rfl

end Go.Proofs.Ytbipfecekifnkaa.Pure
