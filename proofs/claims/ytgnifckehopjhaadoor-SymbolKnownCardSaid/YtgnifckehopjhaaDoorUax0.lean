-- Out of the translation, by the kit's print with some functions given (wip/myprint.py)
import Derived.Test.YtgnifckehopjhaaDoorProg
import Derived.Below
import Derived.Deep.Draws
import Derived.Deep.AppendLies
import Derived.Maps.AppendAt
import Derived.OwnWalk
import Derived.Laws.BytesArg
import Derived.Laws.MakeOwn
import Derived.Laws.OwnMore
import Derived.Deep.OwnRows
import Derived.Tactics
import Derived.Lib.ConvBytes
import Derived.Laws.Slices
import Derived.WalkKit
import Derived.KernelRfl
import Derived.RowKit3
import Derived.Deep.LoopGhost
import Derived.Deep.QuietTactic
import Derived.BigQuiet
import Derived.WideLaws
import Derived.Deep.DeepCutAuto
import Derived.Deep.CutBlock
import Derived.Deep.RegionHeld3
import Derived.Laws.Rows
import Derived.Lib.AppendStr
import Derived.ArgAppend
import Derived.Laws.IdiomCopy
import Derived.OrdersHeld
import Derived.Laws.BitsLemmas
import Derived.RowKit
import Derived.Test.YtgnifckehopjhaaDoorTabs
import Derived.Test.YtgnifckehopjhaaDoorWWords
import Derived.Test.YtgnifckehopjhaaDoorWLast
import Derived.Test.YtgnifckehopjhaaDoorWTab
import Derived.Test.YtgnifckehopjhaaDoorWFour
import Derived.Test.YtgnifckehopjhaaDoorWQPut
import Derived.Test.YtgnifckehopjhaaDoorWApart
import Derived.Test.YtgnifckehopjhaaDoorWArr
import Derived.Test.YtgnifckehopjhaaDoorWZeros
import Derived.Test.YtgnifckehopjhaaDoorWFoot
import Derived.Test.YtgnifckehopjhaaDoorWKept
import Derived.Test.YtgnifckehopjhaaDoorWShare
import Derived.Test.YtgnifckehopjhaaDoorWN
import Derived.Test.YtgnifckehopjhaaDoorWFootNe
import Derived.Test.YtgnifckehopjhaaDoorWAt
import Derived.Test.YtgnifckehopjhaaDoorWEqStruct
import Derived.Test.YtgnifckehopjhaaDoorWRepsOne
import Derived.Test.YtgnifckehopjhaaDoorWInv
import Derived.Test.YtgnifckehopjhaaDoorWInvWords
import Derived.Test.YtgnifckehopjhaaDoorWGuard
import Derived.Test.YtgnifckehopjhaaDoorWNEv
import Derived.Test.YtgnifckehopjhaaDoorWMore
namespace Go.Proofs.YtgnifckehopjhaaDoor.Ua
open Go.RowKit Go.Proofs.YtgnifckehopjhaaDoorW.PrintWords Go.Proofs.YtgnifckehopjhaaDoorW.PrintLast Go.Proofs.YtgnifckehopjhaaDoorW.PrintMore
attribute [local go_sem] max2_int min2_int max_two min_two max_three min_three max_four min_four   -- for this text's walks alone
set_option linter.unusedVariables false
set_option linter.unusedSimpArgs false



def errW : Option Int → Value
  | none => .nilIface
  | some c => .iface 0 (.int .i64 c)
theorem errW_none : errW none = .nilIface := rfl
theorem errW_some (c : Int) : errW (some c) = .iface 0 (.int .i64 c) := rfl

-- the values' own types

end Go.Proofs.YtgnifckehopjhaaDoor.Ua
