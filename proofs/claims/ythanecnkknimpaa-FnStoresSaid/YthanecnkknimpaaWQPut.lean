/- Words of the kit's print, those that this claim's texts reach, its remarks struck: laid by a program of this session. Conditions: none beyond each theorem's own. -/
import Derived.Test.YthanecnkknimpaaWWords
import Derived.Test.YthanecnkknimpaaWLast
namespace Go.Proofs.YthanecnkknimpaaW.PrintWords
open Go.RowKit
namespace Kd
section
variable {α : Type} {d : Kd α} {e base g o n cap : Nat} {ok okp : Nat → Prop} {w W : World} {v : Value} {xs : List α}
end
section
variable {α : Type} {enc : α → Value} {h1 : ∀ x, (enc x).oneCell' = true} {e base g o n cap : Nat} {ok : Nat → Prop} {W : World} {xs : List α}
end
end Kd
end Go.Proofs.YthanecnkknimpaaW.PrintWords
