-- PRINTED BY print.sh 35421559b90ae4d0a3588c463048766b98c2df88dd9212a6774a882060cdf62d: not written by this session
import Derived.Test.YtobpbnbjdpdflaaProg
import Derived.Below
import Derived.Deep.Draws
import Derived.Deep.AppendLies
import Derived.Maps.AppendAt
import Derived.OwnWalk
import Derived.Laws.BytesArg
import Derived.Laws.MakeOwn
import Derived.Laws.OwnMore
import Derived.Deep.OwnRows
import Derived.Tactics
import Derived.Lib.ConvBytes
import Derived.Laws.Slices
import Derived.WalkKit
import Derived.KernelRfl
import Derived.RowKit3
import Derived.Deep.LoopGhost
import Derived.Deep.QuietTactic
import Derived.BigQuiet
import Derived.WideLaws
import Derived.Deep.DeepCutAuto
import Derived.Deep.CutBlock
import Derived.Deep.RegionHeld3
import Derived.Laws.Rows
import Derived.Lib.AppendStr
import Derived.ArgAppend
import Derived.Laws.IdiomCopy
import Derived.OrdersHeld
import Derived.Laws.BitsLemmas
import Derived.RowKit
import Derived.Test.YtobpbnbjdpdflaaWWords
import Derived.Test.YtobpbnbjdpdflaaWLast
import Derived.Test.YtobpbnbjdpdflaaWTab
import Derived.Test.YtobpbnbjdpdflaaWFour
import Derived.Test.YtobpbnbjdpdflaaWQPut
import Derived.Test.YtobpbnbjdpdflaaWApart
import Derived.Test.YtobpbnbjdpdflaaWArr
import Derived.Test.YtobpbnbjdpdflaaWZeros
import Derived.Test.YtobpbnbjdpdflaaWFoot
import Derived.Test.YtobpbnbjdpdflaaWKept
import Derived.Test.YtobpbnbjdpdflaaWShare
import Derived.Test.YtobpbnbjdpdflaaWN
import Derived.Test.YtobpbnbjdpdflaaWFootNe
import Derived.Test.YtobpbnbjdpdflaaWAt
import Derived.Test.YtobpbnbjdpdflaaWEqStruct
import Derived.Test.YtobpbnbjdpdflaaWRepsOne
import Derived.Test.YtobpbnbjdpdflaaWInv
import Derived.Test.YtobpbnbjdpdflaaWInvWords
import Derived.Test.YtobpbnbjdpdflaaWGuard
import Derived.Test.YtobpbnbjdpdflaaWNEv
import Derived.Test.YtobpbnbjdpdflaaWMore
namespace Go.Proofs.Ytobpbnbjdpdflaa.PFnExactEqualBytes
open Go.RowKit Go.Proofs.YtobpbnbjdpdflaaW.PrintWords Go.Proofs.YtobpbnbjdpdflaaW.PrintLast Go.Proofs.YtobpbnbjdpdflaaW.PrintMore
attribute [local go_sem] max2_int min2_int max_two min_two max_three min_three max_four min_four   -- for this text's walks alone
set_option linter.unusedVariables false
set_option linter.unusedSimpArgs false



def errW : Option Int → Value
  | none => .nilIface
  | some c => .iface 0 (.int .i64 c)
theorem errW_none : errW none = .nilIface := rfl
theorem errW_some (c : Int) : errW (some c) = .iface 0 (.int .i64 c) := rfl

theorem info5 : (Try.prog.info? 5).map (fun i => (i.zero, i.size, i.bytes)) = some (some (.int .u8 0), 1, 1) := by kernel_rfl
-- the values' own types

end Go.Proofs.Ytobpbnbjdpdflaa.PFnExactEqualBytes
