/- What this law reaches, as plain Lean functions, and the proofs that the machine's calls answer what they answer; laid by a program of this session over the kit's print, some functions by hand. Conditions: none beyond each theorem's own. -/
import Derived.Test.YtiaahfdgbfhoiaaDoorProg
import Derived.Below
import Derived.Deep.Draws
import Derived.Deep.AppendLies
import Derived.Maps.AppendAt
import Derived.OwnWalk
import Derived.Laws.BytesArg
import Derived.Laws.MakeOwn
import Derived.Laws.OwnMore
import Derived.Deep.OwnRows
import Derived.Tactics
import Derived.Lib.ConvBytes
import Derived.Laws.Slices
import Derived.WalkKit
import Derived.KernelRfl
import Derived.RowKit3
import Derived.Deep.LoopGhost
import Derived.Deep.QuietTactic
import Derived.BigQuiet
import Derived.WideLaws
import Derived.Deep.DeepCutAuto
import Derived.Deep.CutBlock
import Derived.Deep.RegionHeld3
import Derived.Laws.Rows
import Derived.Lib.AppendStr
import Derived.ArgAppend
import Derived.Laws.IdiomCopy
import Derived.OrdersHeld
import Derived.Laws.BitsLemmas
import Derived.RowKit
import Derived.Shelf.Strconv.Itoa3
import Derived.Lib.AppendIntMem
import Derived.Test.YtiaahfdgbfhoiaaDoorWWords
import Derived.Test.YtiaahfdgbfhoiaaDoorWLast
import Derived.Test.YtiaahfdgbfhoiaaDoorWTab
import Derived.Test.YtiaahfdgbfhoiaaDoorWFour
import Derived.Test.YtiaahfdgbfhoiaaDoorWQPut
import Derived.Test.YtiaahfdgbfhoiaaDoorWApart
import Derived.Test.YtiaahfdgbfhoiaaDoorWArr
import Derived.Test.YtiaahfdgbfhoiaaDoorWZeros
import Derived.Test.YtiaahfdgbfhoiaaDoorWFoot
import Derived.Test.YtiaahfdgbfhoiaaDoorWKept
import Derived.Test.YtiaahfdgbfhoiaaDoorWShare
import Derived.Test.YtiaahfdgbfhoiaaDoorWN
import Derived.Test.YtiaahfdgbfhoiaaDoorWFootNe
import Derived.Test.YtiaahfdgbfhoiaaDoorWAt
import Derived.Test.YtiaahfdgbfhoiaaDoorWEqStruct
import Derived.Test.YtiaahfdgbfhoiaaDoorWRepsOne
import Derived.Test.YtiaahfdgbfhoiaaDoorWInv
import Derived.Test.YtiaahfdgbfhoiaaDoorWInvWords
import Derived.Test.YtiaahfdgbfhoiaaDoorWGuard
import Derived.Test.YtiaahfdgbfhoiaaDoorWNEv
import Derived.Test.YtiaahfdgbfhoiaaDoorWMore
namespace Go.Proofs.YtiaahfdgbfhoiaaDoor.PFnExactFormatFact
open Go.RowKit Go.Proofs.YtiaahfdgbfhoiaaDoorW.PrintWords Go.Proofs.YtiaahfdgbfhoiaaDoorW.PrintLast Go.Proofs.YtiaahfdgbfhoiaaDoorW.PrintMore
attribute [local go_sem] max2_int min2_int max_two min_two max_three min_three max_four min_four   -- for this text's walks alone
set_option linter.unusedVariables false
set_option linter.unusedSimpArgs false



def errW : Option Int → Value
  | none => .nilIface
  | some c => .iface 0 (.int .i64 c)
theorem errW_none : errW none = .nilIface := rfl
theorem errW_some (c : Int) : errW (some c) = .iface 0 (.int .i64 c) := rfl

theorem info5 : (Tryd.prog.info? 5).map (fun i => (i.zero, i.size, i.bytes)) = some (some (.int .u8 0), 1, 1) := by kernel_rfl
theorem info9 : (Tryd.prog.info? 9).map (fun i => (i.zero, i.size, i.bytes)) = some (some (.string ⟨#[]⟩), 1, 16) := by kernel_rfl
-- the values' own types

end Go.Proofs.YtiaahfdgbfhoiaaDoor.PFnExactFormatFact
