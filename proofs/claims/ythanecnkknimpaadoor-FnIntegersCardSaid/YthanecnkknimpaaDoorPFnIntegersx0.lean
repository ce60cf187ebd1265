/- What this law reaches, as plain Lean functions, and the proofs that the machine's calls answer what they answer; laid by a program of this session over the kit's print, some functions by hand. Conditions: none beyond each theorem's own. -/
import Derived.Test.YthanecnkknimpaaDoorProg
import Derived.Below
import Derived.Deep.Draws
import Derived.Deep.AppendLies
import Derived.Maps.AppendAt
import Derived.OwnWalk
import Derived.Laws.BytesArg
import Derived.Laws.MakeOwn
import Derived.Laws.OwnMore
import Derived.Deep.OwnRows
import Derived.Tactics
import Derived.Lib.ConvBytes
import Derived.Laws.Slices
import Derived.WalkKit
import Derived.KernelRfl
import Derived.RowKit3
import Derived.Deep.LoopGhost
import Derived.Deep.QuietTactic
import Derived.BigQuiet
import Derived.WideLaws
import Derived.Deep.DeepCutAuto
import Derived.Deep.CutBlock
import Derived.Deep.RegionHeld3
import Derived.Laws.Rows
import Derived.Lib.AppendStr
import Derived.ArgAppend
import Derived.Laws.IdiomCopy
import Derived.OrdersHeld
import Derived.Laws.BitsLemmas
import Derived.RowKit
import Derived.Shelf.Strconv.Itoa3
import Derived.Lib.AppendIntMem
import Derived.Shelf.Strconv.AtoiAll
import Derived.Lib.AtoiAllCases
import Derived.Lib.AtoiErrMem
import Derived.Test.YthanecnkknimpaaDoorWWords
import Derived.Test.YthanecnkknimpaaDoorWLast
import Derived.Test.YthanecnkknimpaaDoorWTab
import Derived.Test.YthanecnkknimpaaDoorWFour
import Derived.Test.YthanecnkknimpaaDoorWQPut
import Derived.Test.YthanecnkknimpaaDoorWApart
import Derived.Test.YthanecnkknimpaaDoorWArr
import Derived.Test.YthanecnkknimpaaDoorWZeros
import Derived.Test.YthanecnkknimpaaDoorWFoot
import Derived.Test.YthanecnkknimpaaDoorWKept
import Derived.Test.YthanecnkknimpaaDoorWShare
import Derived.Test.YthanecnkknimpaaDoorWN
import Derived.Test.YthanecnkknimpaaDoorWFootNe
import Derived.Test.YthanecnkknimpaaDoorWAt
import Derived.Test.YthanecnkknimpaaDoorWEqStruct
import Derived.Test.YthanecnkknimpaaDoorWRepsOne
import Derived.Test.YthanecnkknimpaaDoorWInv
import Derived.Test.YthanecnkknimpaaDoorWInvWords
import Derived.Test.YthanecnkknimpaaDoorWGuard
import Derived.Test.YthanecnkknimpaaDoorWNEv
import Derived.Test.YthanecnkknimpaaDoorWMore
namespace Go.Proofs.YthanecnkknimpaaDoor.PFnIntegers
open Go.RowKit Go.Proofs.YthanecnkknimpaaDoorW.PrintWords Go.Proofs.YthanecnkknimpaaDoorW.PrintLast Go.Proofs.YthanecnkknimpaaDoorW.PrintMore
attribute [local go_sem] max2_int min2_int max_two min_two max_three min_three max_four min_four   -- for this text's walks alone
set_option linter.unusedVariables false
set_option linter.unusedSimpArgs false



def errW : Option Int → Value
  | none => .nilIface
  | some c => .iface 0 (.int .i64 c)
theorem errW_none : errW none = .nilIface := rfl
theorem errW_some (c : Int) : errW (some c) = .iface 0 (.int .i64 c) := rfl

theorem info3 : (Tryd.prog.info? 3).map (fun i => (i.zero, i.size, i.bytes)) = some (some (.int .i64 0), 1, 8) := by kernel_rfl
theorem info5 : (Tryd.prog.info? 5).map (fun i => (i.zero, i.size, i.bytes)) = some (some (.int .u8 0), 1, 1) := by kernel_rfl
theorem info9 : (Tryd.prog.info? 9).map (fun i => (i.zero, i.size, i.bytes)) = some (some (.string ⟨#[]⟩), 1, 16) := by kernel_rfl
-- the values' own types

end Go.Proofs.YthanecnkknimpaaDoor.PFnIntegers
