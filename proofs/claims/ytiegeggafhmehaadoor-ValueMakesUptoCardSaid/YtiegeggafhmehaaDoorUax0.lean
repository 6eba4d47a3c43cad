-- Out of the translation, by the kit's print with some functions given (wip/myprint.py)
import Derived.Test.YtiegeggafhmehaaDoorProg
import Derived.Below
import Derived.Deep.Draws
import Derived.Deep.AppendLies
import Derived.Maps.AppendAt
import Derived.OwnWalk
import Derived.Laws.BytesArg
import Derived.Laws.MakeOwn
import Derived.Laws.OwnMore
import Derived.Deep.OwnRows
import Derived.Tactics
import Derived.Lib.ConvBytes
import Derived.Laws.Slices
import Derived.WalkKit
import Derived.KernelRfl
import Derived.RowKit3
import Derived.Deep.LoopGhost
import Derived.Deep.QuietTactic
import Derived.BigQuiet
import Derived.WideLaws
import Derived.Deep.DeepCutAuto
import Derived.Deep.CutBlock
import Derived.Deep.RegionHeld3
import Derived.Laws.Rows
import Derived.Lib.AppendStr
import Derived.ArgAppend
import Derived.Laws.IdiomCopy
import Derived.OrdersHeld
import Derived.Laws.BitsLemmas
import Derived.RowKit
import Derived.Test.YtiegeggafhmehaaDoorTabs
import Derived.Test.YtiegeggafhmehaaDoorWWords
import Derived.Test.YtiegeggafhmehaaDoorWLast
import Derived.Test.YtiegeggafhmehaaDoorWTab
import Derived.Test.YtiegeggafhmehaaDoorWFour
import Derived.Test.YtiegeggafhmehaaDoorWQPut
import Derived.Test.YtiegeggafhmehaaDoorWApart
import Derived.Test.YtiegeggafhmehaaDoorWArr
import Derived.Test.YtiegeggafhmehaaDoorWZeros
import Derived.Test.YtiegeggafhmehaaDoorWFoot
import Derived.Test.YtiegeggafhmehaaDoorWKept
import Derived.Test.YtiegeggafhmehaaDoorWShare
import Derived.Test.YtiegeggafhmehaaDoorWN
import Derived.Test.YtiegeggafhmehaaDoorWFootNe
import Derived.Test.YtiegeggafhmehaaDoorWAt
import Derived.Test.YtiegeggafhmehaaDoorWEqStruct
import Derived.Test.YtiegeggafhmehaaDoorWRepsOne
import Derived.Test.YtiegeggafhmehaaDoorWInv
import Derived.Test.YtiegeggafhmehaaDoorWInvWords
import Derived.Test.YtiegeggafhmehaaDoorWGuard
import Derived.Test.YtiegeggafhmehaaDoorWNEv
import Derived.Test.YtiegeggafhmehaaDoorWMore
namespace Go.Proofs.YtiegeggafhmehaaDoor.Ua
open Go.RowKit Go.Proofs.YtiegeggafhmehaaDoorW.PrintWords Go.Proofs.YtiegeggafhmehaaDoorW.PrintLast Go.Proofs.YtiegeggafhmehaaDoorW.PrintMore
attribute [local go_sem] max2_int min2_int max_two min_two max_three min_three max_four min_four   -- for this text's walks alone
set_option linter.unusedVariables false
set_option linter.unusedSimpArgs false



def errW : Option Int → Value
  | none => .nilIface
  | some c => .iface 0 (.int .i64 c)
theorem errW_none : errW none = .nilIface := rfl
theorem errW_some (c : Int) : errW (some c) = .iface 0 (.int .i64 c) := rfl

-- the values' own types

end Go.Proofs.YtiegeggafhmehaaDoor.Ua
