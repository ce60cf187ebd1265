/- What this law reaches, as plain Lean functions, and the proofs that the machine's calls answer what they answer; laid by a program of this session over the kit's print, some functions by hand. Conditions: none beyond each theorem's own. -/
import Derived.Test.YtbipfecekifnkaaProg
import Derived.Below
import Derived.Deep.Draws
import Derived.Deep.AppendLies
import Derived.Maps.AppendAt
import Derived.OwnWalk
import Derived.Laws.BytesArg
import Derived.Laws.MakeOwn
import Derived.Laws.OwnMore
import Derived.Deep.OwnRows
import Derived.Tactics
import Derived.Lib.ConvBytes
import Derived.Laws.Slices
import Derived.WalkKit
import Derived.KernelRfl
import Derived.RowKit3
import Derived.Deep.LoopGhost
import Derived.Deep.QuietTactic
import Derived.BigQuiet
import Derived.WideLaws
import Derived.Deep.DeepCutAuto
import Derived.Deep.CutBlock
import Derived.Deep.RegionHeld3
import Derived.Laws.Rows
import Derived.Lib.AppendStr
import Derived.ArgAppend
import Derived.Laws.IdiomCopy
import Derived.OrdersHeld
import Derived.Laws.BitsLemmas
import Derived.RowKit
import Derived.Test.YtbipfecekifnkaaWWords
import Derived.Test.YtbipfecekifnkaaWLast
import Derived.Test.YtbipfecekifnkaaWTab
import Derived.Test.YtbipfecekifnkaaWFour
import Derived.Test.YtbipfecekifnkaaWQPut
import Derived.Test.YtbipfecekifnkaaWApart
import Derived.Test.YtbipfecekifnkaaWArr
import Derived.Test.YtbipfecekifnkaaWZeros
import Derived.Test.YtbipfecekifnkaaWFoot
import Derived.Test.YtbipfecekifnkaaWKept
import Derived.Test.YtbipfecekifnkaaWShare
import Derived.Test.YtbipfecekifnkaaWN
import Derived.Test.YtbipfecekifnkaaWFootNe
import Derived.Test.YtbipfecekifnkaaWAt
import Derived.Test.YtbipfecekifnkaaWEqStruct
import Derived.Test.YtbipfecekifnkaaWRepsOne
import Derived.Test.YtbipfecekifnkaaWInv
import Derived.Test.YtbipfecekifnkaaWInvWords
import Derived.Test.YtbipfecekifnkaaWGuard
import Derived.Test.YtbipfecekifnkaaWNEv
import Derived.Test.YtbipfecekifnkaaWMore
namespace Go.Proofs.Ytbipfecekifnkaa.PFnExactFactName
open Go.RowKit Go.Proofs.YtbipfecekifnkaaW.PrintWords Go.Proofs.YtbipfecekifnkaaW.PrintLast Go.Proofs.YtbipfecekifnkaaW.PrintMore
attribute [local go_sem] max2_int min2_int max_two min_two max_three min_three max_four min_four   -- for this text's walks alone
set_option linter.unusedVariables false
set_option linter.unusedSimpArgs false



def errW : Option Int → Value
  | none => .nilIface
  | some c => .iface 0 (.int .i64 c)
theorem errW_none : errW none = .nilIface := rfl
theorem errW_some (c : Int) : errW (some c) = .iface 0 (.int .i64 c) := rfl

theorem info9 : (Try.prog.info? 9).map (fun i => (i.zero, i.size, i.bytes)) = some (some (.string ⟨#[]⟩), 1, 16) := by kernel_rfl
-- the values' own types

end Go.Proofs.Ytbipfecekifnkaa.PFnExactFactName
