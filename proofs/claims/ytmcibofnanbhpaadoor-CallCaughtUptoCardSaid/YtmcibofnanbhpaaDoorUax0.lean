-- Out of the translation, by the kit's print with some functions given (wip/myprint.py)
import Derived.Test.YtmcibofnanbhpaaDoorProg
import Derived.Below
import Derived.Deep.Draws
import Derived.Deep.AppendLies
import Derived.Maps.AppendAt
import Derived.OwnWalk
import Derived.Laws.BytesArg
import Derived.Laws.MakeOwn
import Derived.Laws.OwnMore
import Derived.Deep.OwnRows
import Derived.Tactics
import Derived.Lib.ConvBytes
import Derived.Laws.Slices
import Derived.WalkKit
import Derived.KernelRfl
import Derived.RowKit3
import Derived.Deep.LoopGhost
import Derived.Deep.QuietTactic
import Derived.BigQuiet
import Derived.WideLaws
import Derived.Deep.DeepCutAuto
import Derived.Deep.CutBlock
import Derived.Deep.RegionHeld3
import Derived.Laws.Rows
import Derived.Lib.AppendStr
import Derived.ArgAppend
import Derived.Laws.IdiomCopy
import Derived.OrdersHeld
import Derived.Laws.BitsLemmas
import Derived.RowKit
import Derived.Test.YtmcibofnanbhpaaDoorTabs
import Derived.Test.YtmcibofnanbhpaaDoorWWords
import Derived.Test.YtmcibofnanbhpaaDoorWLast
import Derived.Test.YtmcibofnanbhpaaDoorWTab
import Derived.Test.YtmcibofnanbhpaaDoorWFour
import Derived.Test.YtmcibofnanbhpaaDoorWQPut
import Derived.Test.YtmcibofnanbhpaaDoorWApart
import Derived.Test.YtmcibofnanbhpaaDoorWArr
import Derived.Test.YtmcibofnanbhpaaDoorWZeros
import Derived.Test.YtmcibofnanbhpaaDoorWFoot
import Derived.Test.YtmcibofnanbhpaaDoorWKept
import Derived.Test.YtmcibofnanbhpaaDoorWShare
import Derived.Test.YtmcibofnanbhpaaDoorWN
import Derived.Test.YtmcibofnanbhpaaDoorWFootNe
import Derived.Test.YtmcibofnanbhpaaDoorWAt
import Derived.Test.YtmcibofnanbhpaaDoorWEqStruct
import Derived.Test.YtmcibofnanbhpaaDoorWRepsOne
import Derived.Test.YtmcibofnanbhpaaDoorWInv
import Derived.Test.YtmcibofnanbhpaaDoorWInvWords
import Derived.Test.YtmcibofnanbhpaaDoorWGuard
import Derived.Test.YtmcibofnanbhpaaDoorWNEv
import Derived.Test.YtmcibofnanbhpaaDoorWMore
namespace Go.Proofs.YtmcibofnanbhpaaDoor.Ua
open Go.RowKit Go.Proofs.YtmcibofnanbhpaaDoorW.PrintWords Go.Proofs.YtmcibofnanbhpaaDoorW.PrintLast Go.Proofs.YtmcibofnanbhpaaDoorW.PrintMore
attribute [local go_sem] max2_int min2_int max_two min_two max_three min_three max_four min_four   -- for this text's walks alone
set_option linter.unusedVariables false
set_option linter.unusedSimpArgs false



def errW : Option Int → Value
  | none => .nilIface
  | some c => .iface 0 (.int .i64 c)
theorem errW_none : errW none = .nilIface := rfl
theorem errW_some (c : Int) : errW (some c) = .iface 0 (.int .i64 c) := rfl

-- the values' own types

end Go.Proofs.YtmcibofnanbhpaaDoor.Ua
