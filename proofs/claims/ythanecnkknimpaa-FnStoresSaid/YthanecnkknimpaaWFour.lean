/- Words of the kit's print, those that this claim's texts reach, its remarks struck: laid by a program of this session. Conditions: none beyond each theorem's own. -/
import Derived.Test.YthanecnkknimpaaWTab
namespace Go.Proofs.YthanecnkknimpaaW.PrintLast
section
variable {P : Program} {ops : Array Oper} {Q : Exit → Act → World → Prop} {md : Region.Mode} {S : World → Prop} {ds : List Nat} {T : Bool × List (List Nat × List Nat)}
end
end Go.Proofs.YthanecnkknimpaaW.PrintLast
