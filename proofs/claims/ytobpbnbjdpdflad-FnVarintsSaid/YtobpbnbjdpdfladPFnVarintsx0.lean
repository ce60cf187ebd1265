/- What this law reaches, as plain Lean functions, and the proofs that the machine's calls answer what they answer; laid by a program of this session over the kit's print, some functions by hand. Conditions: none beyond each theorem's own. -/
import Derived.Test.YtobpbnbjdpdfladProg
import Derived.Below
import Derived.Deep.Draws
import Derived.Deep.AppendLies
import Derived.Maps.AppendAt
import Derived.OwnWalk
import Derived.Laws.BytesArg
import Derived.Laws.MakeOwn
import Derived.Laws.OwnMore
import Derived.Deep.OwnRows
import Derived.Tactics
import Derived.Lib.ConvBytes
import Derived.Laws.Slices
import Derived.WalkKit
import Derived.KernelRfl
import Derived.RowKit3
import Derived.Deep.LoopGhost
import Derived.Deep.QuietTactic
import Derived.BigQuiet
import Derived.WideLaws
import Derived.Deep.DeepCutAuto
import Derived.Deep.CutBlock
import Derived.Deep.RegionHeld3
import Derived.Laws.Rows
import Derived.Lib.AppendStr
import Derived.ArgAppend
import Derived.Laws.IdiomCopy
import Derived.OrdersHeld
import Derived.Laws.BitsLemmas
import Derived.RowKit
import Derived.Lib.SliceRun
import Derived.Test.YtobpbnbjdpdfladWWords
import Derived.Test.YtobpbnbjdpdfladWLast
import Derived.Test.YtobpbnbjdpdfladWTab
import Derived.Test.YtobpbnbjdpdfladWFour
import Derived.Test.YtobpbnbjdpdfladWQPut
import Derived.Test.YtobpbnbjdpdfladWApart
import Derived.Test.YtobpbnbjdpdfladWArr
import Derived.Test.YtobpbnbjdpdfladWZeros
import Derived.Test.YtobpbnbjdpdfladWFoot
import Derived.Test.YtobpbnbjdpdfladWKept
import Derived.Test.YtobpbnbjdpdfladWShare
import Derived.Test.YtobpbnbjdpdfladWN
import Derived.Test.YtobpbnbjdpdfladWFootNe
import Derived.Test.YtobpbnbjdpdfladWAt
import Derived.Test.YtobpbnbjdpdfladWEqStruct
import Derived.Test.YtobpbnbjdpdfladWRepsOne
import Derived.Test.YtobpbnbjdpdfladWInv
import Derived.Test.YtobpbnbjdpdfladWInvWords
import Derived.Test.YtobpbnbjdpdfladWGuard
import Derived.Test.YtobpbnbjdpdfladWNEv
import Derived.Test.YtobpbnbjdpdfladWMore
namespace Go.Proofs.Ytobpbnbjdpdflad.PFnVarints
open Go.RowKit Go.Proofs.YtobpbnbjdpdfladW.PrintWords Go.Proofs.YtobpbnbjdpdfladW.PrintLast Go.Proofs.YtobpbnbjdpdfladW.PrintMore
attribute [local go_sem] max2_int min2_int max_two min_two max_three min_three max_four min_four   -- for this text's walks alone
set_option linter.unusedVariables false
set_option linter.unusedSimpArgs false



def errW : Option Int → Value
  | none => .nilIface
  | some c => .iface 0 (.int .i64 c)
theorem errW_none : errW none = .nilIface := rfl
theorem errW_some (c : Int) : errW (some c) = .iface 0 (.int .i64 c) := rfl

theorem info3 : (Try.prog.info? 3).map (fun i => (i.zero, i.size, i.bytes)) = some (some (.int .i64 0), 1, 8) := by kernel_rfl
theorem info5 : (Try.prog.info? 5).map (fun i => (i.zero, i.size, i.bytes)) = some (some (.int .u8 0), 1, 1) := by kernel_rfl
-- the values' own types

end Go.Proofs.Ytobpbnbjdpdflad.PFnVarints
