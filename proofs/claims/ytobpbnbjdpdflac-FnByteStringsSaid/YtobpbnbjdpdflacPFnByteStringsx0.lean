/- What this law reaches, as plain Lean functions, and the proofs that the machine's calls answer what they answer; laid by a program of this session over the kit's print, some functions by hand. Conditions: none beyond each theorem's own. -/
import Derived.Test.YtobpbnbjdpdflacProg
import Derived.Below
import Derived.Deep.Draws
import Derived.Deep.AppendLies
import Derived.Maps.AppendAt
import Derived.OwnWalk
import Derived.Laws.BytesArg
import Derived.Laws.MakeOwn
import Derived.Laws.OwnMore
import Derived.Deep.OwnRows
import Derived.Tactics
import Derived.Lib.ConvBytes
import Derived.Laws.Slices
import Derived.WalkKit
import Derived.KernelRfl
import Derived.RowKit3
import Derived.Deep.LoopGhost
import Derived.Deep.QuietTactic
import Derived.BigQuiet
import Derived.WideLaws
import Derived.Deep.DeepCutAuto
import Derived.Deep.CutBlock
import Derived.Deep.RegionHeld3
import Derived.Laws.Rows
import Derived.Lib.AppendStr
import Derived.ArgAppend
import Derived.Laws.IdiomCopy
import Derived.OrdersHeld
import Derived.Laws.BitsLemmas
import Derived.RowKit
import Derived.Lib.SliceRun
import Derived.Test.YtobpbnbjdpdflacWWords
import Derived.Test.YtobpbnbjdpdflacWLast
import Derived.Test.YtobpbnbjdpdflacWTab
import Derived.Test.YtobpbnbjdpdflacWFour
import Derived.Test.YtobpbnbjdpdflacWQPut
import Derived.Test.YtobpbnbjdpdflacWApart
import Derived.Test.YtobpbnbjdpdflacWArr
import Derived.Test.YtobpbnbjdpdflacWZeros
import Derived.Test.YtobpbnbjdpdflacWFoot
import Derived.Test.YtobpbnbjdpdflacWKept
import Derived.Test.YtobpbnbjdpdflacWShare
import Derived.Test.YtobpbnbjdpdflacWN
import Derived.Test.YtobpbnbjdpdflacWFootNe
import Derived.Test.YtobpbnbjdpdflacWAt
import Derived.Test.YtobpbnbjdpdflacWEqStruct
import Derived.Test.YtobpbnbjdpdflacWRepsOne
import Derived.Test.YtobpbnbjdpdflacWInv
import Derived.Test.YtobpbnbjdpdflacWInvWords
import Derived.Test.YtobpbnbjdpdflacWGuard
import Derived.Test.YtobpbnbjdpdflacWNEv
import Derived.Test.YtobpbnbjdpdflacWMore
namespace Go.Proofs.Ytobpbnbjdpdflac.PFnByteStrings
open Go.RowKit Go.Proofs.YtobpbnbjdpdflacW.PrintWords Go.Proofs.YtobpbnbjdpdflacW.PrintLast Go.Proofs.YtobpbnbjdpdflacW.PrintMore
attribute [local go_sem] max2_int min2_int max_two min_two max_three min_three max_four min_four   -- for this text's walks alone
set_option linter.unusedVariables false
set_option linter.unusedSimpArgs false



def errW : Option Int → Value
  | none => .nilIface
  | some c => .iface 0 (.int .i64 c)
theorem errW_none : errW none = .nilIface := rfl
theorem errW_some (c : Int) : errW (some c) = .iface 0 (.int .i64 c) := rfl

theorem info3 : (Try.prog.info? 3).map (fun i => (i.zero, i.size, i.bytes)) = some (some (.int .i64 0), 1, 8) := by kernel_rfl
theorem info5 : (Try.prog.info? 5).map (fun i => (i.zero, i.size, i.bytes)) = some (some (.int .u8 0), 1, 1) := by kernel_rfl
-- the values' own types

end Go.Proofs.Ytobpbnbjdpdflac.PFnByteStrings
