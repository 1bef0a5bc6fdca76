-- WRITTEN BY wip/xprint.py, a program of the proving session round the kit's print.py; Lean checks it.
import Derived.Test.YtohgoaiimhhckaaDoorProg
import Derived.Below
import Derived.Deep.Draws
import Derived.Deep.AppendLies
import Derived.Maps.AppendAt
import Derived.OwnWalk
import Derived.Laws.BytesArg
import Derived.Laws.MakeOwn
import Derived.Laws.OwnMore
import Derived.Deep.OwnRows
import Derived.Tactics
import Derived.Lib.ConvBytes
import Derived.Laws.Slices
import Derived.WalkKit
import Derived.KernelRfl
import Derived.RowKit3
import Derived.Deep.LoopGhost
import Derived.Deep.QuietTactic
import Derived.BigQuiet
import Derived.WideLaws
import Derived.Deep.DeepCutAuto
import Derived.Deep.CutBlock
import Derived.Deep.RegionHeld3
import Derived.Laws.Rows
import Derived.Lib.AppendStr
import Derived.ArgAppend
import Derived.Laws.IdiomCopy
import Derived.OrdersHeld
import Derived.Laws.BitsLemmas
import Derived.RowKit
import Derived.Lib.IndexLaws
import Derived.Test.YtohgoaiimhhckaaDoorShelf
import Derived.Test.YtohgoaiimhhckaaDoorXConv
import Derived.Test.YtohgoaiimhhckaaDoorXGvPax
import Derived.Test.YtohgoaiimhhckaaDoorXFmt
import Derived.Test.YtohgoaiimhhckaaDoorXLaid
import Derived.Test.YtohgoaiimhhckaaDoorWWords
import Derived.Test.YtohgoaiimhhckaaDoorWLast
import Derived.Test.YtohgoaiimhhckaaDoorWTab
import Derived.Test.YtohgoaiimhhckaaDoorWFour
import Derived.Test.YtohgoaiimhhckaaDoorWQPut
import Derived.Test.YtohgoaiimhhckaaDoorWApart
import Derived.Test.YtohgoaiimhhckaaDoorWArr
import Derived.Test.YtohgoaiimhhckaaDoorWZeros
import Derived.Test.YtohgoaiimhhckaaDoorWFoot
import Derived.Test.YtohgoaiimhhckaaDoorWKept
import Derived.Test.YtohgoaiimhhckaaDoorWShare
import Derived.Test.YtohgoaiimhhckaaDoorWN
import Derived.Test.YtohgoaiimhhckaaDoorWFootNe
import Derived.Test.YtohgoaiimhhckaaDoorWAt
import Derived.Test.YtohgoaiimhhckaaDoorWEqStruct
import Derived.Test.YtohgoaiimhhckaaDoorWRepsOne
import Derived.Test.YtohgoaiimhhckaaDoorWInv
import Derived.Test.YtohgoaiimhhckaaDoorWInvWords
import Derived.Test.YtohgoaiimhhckaaDoorWGuard
import Derived.Test.YtohgoaiimhhckaaDoorWNEv
import Derived.Test.YtohgoaiimhhckaaDoorWMore
namespace Go.Proofs.YtohgoaiimhhckaaDoor.PPaxNumbers
open Go.Proofs.YtohgoaiimhhckaaDoorX
open Go.RowKit Go.Proofs.YtohgoaiimhhckaaDoorW.PrintWords Go.Proofs.YtohgoaiimhhckaaDoorW.PrintLast Go.Proofs.YtohgoaiimhhckaaDoorW.PrintMore
attribute [local go_sem] max2_int min2_int max_two min_two max_three min_three max_four min_four   -- for this text's walks alone
set_option linter.unusedVariables false
set_option linter.unusedSimpArgs false



def errW : Option Int → Value
  | none => .nilIface
  | some c => .iface 0 (.int .i64 c)
theorem errW_none : errW none = .nilIface := rfl
theorem errW_some (c : Int) : errW (some c) = .iface 0 (.int .i64 c) := rfl

theorem info5 : (Tryd.prog.info? 5).map (fun i => (i.zero, i.size, i.bytes)) = some (some (.int .u8 0), 1, 1) := by kernel_rfl
-- the values' own types

end Go.Proofs.YtohgoaiimhhckaaDoor.PPaxNumbers
