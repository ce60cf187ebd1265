/- Words of the kit's print, those that this claim's texts reach, its remarks struck: laid by a program of this session. Conditions: none beyond each theorem's own. -/
import Derived.Test.YthanecnkknimpaaDoorWInv
import Derived.Test.YthanecnkknimpaaDoorWFootNe
namespace Go.Proofs.YthanecnkknimpaaDoorW.PrintWords
open Go.RowKit
end Go.Proofs.YthanecnkknimpaaDoorW.PrintWords
namespace Go.Proofs.YthanecnkknimpaaDoorW.PrintLast
section
variable {ops : Array Oper} {a : Act} {o og : Oper} {g : Nat} {t : Tmp} {u : Bool}
end
end Go.Proofs.YthanecnkknimpaaDoorW.PrintLast
