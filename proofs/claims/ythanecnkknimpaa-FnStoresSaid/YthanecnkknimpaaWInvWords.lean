/- Words of the kit's print, those that this claim's texts reach, its remarks struck: laid by a program of this session. Conditions: none beyond each theorem's own. -/
import Derived.Test.YthanecnkknimpaaWInv
import Derived.Test.YthanecnkknimpaaWFootNe
namespace Go.Proofs.YthanecnkknimpaaW.PrintWords
open Go.RowKit
end Go.Proofs.YthanecnkknimpaaW.PrintWords
namespace Go.Proofs.YthanecnkknimpaaW.PrintLast
section
variable {ops : Array Oper} {a : Act} {o og : Oper} {g : Nat} {t : Tmp} {u : Bool}
end
end Go.Proofs.YthanecnkknimpaaW.PrintLast
