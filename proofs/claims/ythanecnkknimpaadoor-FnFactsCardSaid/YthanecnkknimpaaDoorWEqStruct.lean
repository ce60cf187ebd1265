/- Words of the kit's print, those that this claim's texts reach, its remarks struck: laid by a program of this session. Conditions: none beyond each theorem's own. -/
import Derived.Test.YthanecnkknimpaaDoorWWords
import Derived.Laws.StructEq
namespace Go.Proofs.YthanecnkknimpaaDoorW.PrintWords
open Go.RowKit
section
variable {P : Program} {d : Nat} {xs ys : Array Value} {f : Field} {fs : List Field} {a b : Value} {r s : Bool} {w : World}
end
end Go.Proofs.YthanecnkknimpaaDoorW.PrintWords
