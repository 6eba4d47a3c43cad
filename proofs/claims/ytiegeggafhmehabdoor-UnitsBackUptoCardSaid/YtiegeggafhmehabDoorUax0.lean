-- Out of the translation, by the kit's print with some functions given (wip/myprint.py)
import Derived.Test.YtiegeggafhmehabDoorProg
import Derived.Below
import Derived.Deep.Draws
import Derived.Deep.AppendLies
import Derived.Maps.AppendAt
import Derived.OwnWalk
import Derived.Laws.BytesArg
import Derived.Laws.MakeOwn
import Derived.Laws.OwnMore
import Derived.Deep.OwnRows
import Derived.Tactics
import Derived.Lib.ConvBytes
import Derived.Laws.Slices
import Derived.WalkKit
import Derived.KernelRfl
import Derived.RowKit3
import Derived.Deep.LoopGhost
import Derived.Deep.QuietTactic
import Derived.BigQuiet
import Derived.WideLaws
import Derived.Deep.DeepCutAuto
import Derived.Deep.CutBlock
import Derived.Deep.RegionHeld3
import Derived.Laws.Rows
import Derived.Lib.AppendStr
import Derived.ArgAppend
import Derived.Laws.IdiomCopy
import Derived.OrdersHeld
import Derived.Laws.BitsLemmas
import Derived.RowKit
import Derived.Test.YtiegeggafhmehabDoorTabs
import Derived.Test.YtiegeggafhmehabDoorWWords
import Derived.Test.YtiegeggafhmehabDoorWLast
import Derived.Test.YtiegeggafhmehabDoorWTab
import Derived.Test.YtiegeggafhmehabDoorWFour
import Derived.Test.YtiegeggafhmehabDoorWQPut
import Derived.Test.YtiegeggafhmehabDoorWApart
import Derived.Test.YtiegeggafhmehabDoorWArr
import Derived.Test.YtiegeggafhmehabDoorWZeros
import Derived.Test.YtiegeggafhmehabDoorWFoot
import Derived.Test.YtiegeggafhmehabDoorWKept
import Derived.Test.YtiegeggafhmehabDoorWShare
import Derived.Test.YtiegeggafhmehabDoorWN
import Derived.Test.YtiegeggafhmehabDoorWFootNe
import Derived.Test.YtiegeggafhmehabDoorWAt
import Derived.Test.YtiegeggafhmehabDoorWEqStruct
import Derived.Test.YtiegeggafhmehabDoorWRepsOne
import Derived.Test.YtiegeggafhmehabDoorWInv
import Derived.Test.YtiegeggafhmehabDoorWInvWords
import Derived.Test.YtiegeggafhmehabDoorWGuard
import Derived.Test.YtiegeggafhmehabDoorWNEv
import Derived.Test.YtiegeggafhmehabDoorWMore
namespace Go.Proofs.YtiegeggafhmehabDoor.Ua
open Go.RowKit Go.Proofs.YtiegeggafhmehabDoorW.PrintWords Go.Proofs.YtiegeggafhmehabDoorW.PrintLast Go.Proofs.YtiegeggafhmehabDoorW.PrintMore
attribute [local go_sem] max2_int min2_int max_two min_two max_three min_three max_four min_four   -- for this text's walks alone
set_option linter.unusedVariables false
set_option linter.unusedSimpArgs false



def errW : Option Int → Value
  | none => .nilIface
  | some c => .iface 0 (.int .i64 c)
theorem errW_none : errW none = .nilIface := rfl
theorem errW_some (c : Int) : errW (some c) = .iface 0 (.int .i64 c) := rfl

-- the values' own types

end Go.Proofs.YtiegeggafhmehabDoor.Ua
