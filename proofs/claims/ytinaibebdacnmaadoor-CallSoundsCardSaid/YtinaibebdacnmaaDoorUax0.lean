-- Out of the translation, by the kit's print with some functions given (wip/myprint.py)
import Derived.Test.YtinaibebdacnmaaDoorProg
import Derived.Below
import Derived.Deep.Draws
import Derived.Deep.AppendLies
import Derived.Maps.AppendAt
import Derived.OwnWalk
import Derived.Laws.BytesArg
import Derived.Laws.MakeOwn
import Derived.Laws.OwnMore
import Derived.Deep.OwnRows
import Derived.Tactics
import Derived.Lib.ConvBytes
import Derived.Laws.Slices
import Derived.WalkKit
import Derived.KernelRfl
import Derived.RowKit3
import Derived.Deep.LoopGhost
import Derived.Deep.QuietTactic
import Derived.BigQuiet
import Derived.WideLaws
import Derived.Deep.DeepCutAuto
import Derived.Deep.CutBlock
import Derived.Deep.RegionHeld3
import Derived.Laws.Rows
import Derived.Lib.AppendStr
import Derived.ArgAppend
import Derived.Laws.IdiomCopy
import Derived.OrdersHeld
import Derived.Laws.BitsLemmas
import Derived.RowKit
import Derived.Test.YtinaibebdacnmaaDoorTabs
import Derived.Test.YtinaibebdacnmaaDoorWWords
import Derived.Test.YtinaibebdacnmaaDoorWLast
import Derived.Test.YtinaibebdacnmaaDoorWTab
import Derived.Test.YtinaibebdacnmaaDoorWFour
import Derived.Test.YtinaibebdacnmaaDoorWQPut
import Derived.Test.YtinaibebdacnmaaDoorWApart
import Derived.Test.YtinaibebdacnmaaDoorWArr
import Derived.Test.YtinaibebdacnmaaDoorWZeros
import Derived.Test.YtinaibebdacnmaaDoorWFoot
import Derived.Test.YtinaibebdacnmaaDoorWKept
import Derived.Test.YtinaibebdacnmaaDoorWShare
import Derived.Test.YtinaibebdacnmaaDoorWN
import Derived.Test.YtinaibebdacnmaaDoorWFootNe
import Derived.Test.YtinaibebdacnmaaDoorWAt
import Derived.Test.YtinaibebdacnmaaDoorWEqStruct
import Derived.Test.YtinaibebdacnmaaDoorWRepsOne
import Derived.Test.YtinaibebdacnmaaDoorWInv
import Derived.Test.YtinaibebdacnmaaDoorWInvWords
import Derived.Test.YtinaibebdacnmaaDoorWGuard
import Derived.Test.YtinaibebdacnmaaDoorWNEv
import Derived.Test.YtinaibebdacnmaaDoorWMore
namespace Go.Proofs.YtinaibebdacnmaaDoor.Ua
open Go.RowKit Go.Proofs.YtinaibebdacnmaaDoorW.PrintWords Go.Proofs.YtinaibebdacnmaaDoorW.PrintLast Go.Proofs.YtinaibebdacnmaaDoorW.PrintMore
attribute [local go_sem] max2_int min2_int max_two min_two max_three min_three max_four min_four   -- for this text's walks alone
set_option linter.unusedVariables false
set_option linter.unusedSimpArgs false



def errW : Option Int → Value
  | none => .nilIface
  | some c => .iface 0 (.int .i64 c)
theorem errW_none : errW none = .nilIface := rfl
theorem errW_some (c : Int) : errW (some c) = .iface 0 (.int .i64 c) := rfl

-- the values' own types

end Go.Proofs.YtinaibebdacnmaaDoor.Ua
