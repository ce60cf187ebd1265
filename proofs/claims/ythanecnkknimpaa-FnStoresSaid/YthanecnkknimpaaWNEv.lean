/- Words of the kit's print, those that this claim's texts reach, its remarks struck: laid by a program of this session. Conditions: none beyond each theorem's own. -/
import Derived.Test.YthanecnkknimpaaWN
namespace Go.Proofs.YthanecnkknimpaaW.PrintWords
open Go.RowKit
namespace Kd
section
variable {α : Type} {d : Kd α} {e base n cap g : Nat} {ok ok' okp : Nat → Prop} {w w1 W : World} {v v1 : Value} {xs ys : List α}
end
section
variable {P : Program} {ops : Array Oper} {rest : List Oper} {o : Oper} {a : Act} {Q : Exit → Act → World → Prop} {Kc : Act → World → Prop} {α : Type}
end
end Kd
end Go.Proofs.YthanecnkknimpaaW.PrintWords
