-- Out of the translation, by the kit's print with some functions given (wip/myprint.py)
import Derived.Test.YtnknfffldgkgcaaGreatDoorProg
import Derived.Below
import Derived.Deep.Draws
import Derived.Deep.AppendLies
import Derived.Maps.AppendAt
import Derived.OwnWalk
import Derived.Laws.BytesArg
import Derived.Laws.MakeOwn
import Derived.Laws.OwnMore
import Derived.Deep.OwnRows
import Derived.Tactics
import Derived.Lib.ConvBytes
import Derived.Laws.Slices
import Derived.WalkKit
import Derived.KernelRfl
import Derived.RowKit3
import Derived.Deep.LoopGhost
import Derived.Deep.QuietTactic
import Derived.BigQuiet
import Derived.WideLaws
import Derived.Deep.DeepCutAuto
import Derived.Deep.CutBlock
import Derived.Deep.RegionHeld3
import Derived.Laws.Rows
import Derived.Lib.AppendStr
import Derived.ArgAppend
import Derived.Laws.IdiomCopy
import Derived.OrdersHeld
import Derived.Laws.BitsLemmas
import Derived.RowKit
import Derived.Test.YtnknfffldgkgcaaGreatDoorTabs
import Derived.Test.YtnknfffldgkgcaaGreatDoorWWords
import Derived.Test.YtnknfffldgkgcaaGreatDoorWLast
import Derived.Test.YtnknfffldgkgcaaGreatDoorWTab
import Derived.Test.YtnknfffldgkgcaaGreatDoorWFour
import Derived.Test.YtnknfffldgkgcaaGreatDoorWQPut
import Derived.Test.YtnknfffldgkgcaaGreatDoorWApart
import Derived.Test.YtnknfffldgkgcaaGreatDoorWArr
import Derived.Test.YtnknfffldgkgcaaGreatDoorWZeros
import Derived.Test.YtnknfffldgkgcaaGreatDoorWFoot
import Derived.Test.YtnknfffldgkgcaaGreatDoorWKept
import Derived.Test.YtnknfffldgkgcaaGreatDoorWShare
import Derived.Test.YtnknfffldgkgcaaGreatDoorWN
import Derived.Test.YtnknfffldgkgcaaGreatDoorWFootNe
import Derived.Test.YtnknfffldgkgcaaGreatDoorWAt
import Derived.Test.YtnknfffldgkgcaaGreatDoorWEqStruct
import Derived.Test.YtnknfffldgkgcaaGreatDoorWRepsOne
import Derived.Test.YtnknfffldgkgcaaGreatDoorWInv
import Derived.Test.YtnknfffldgkgcaaGreatDoorWInvWords
import Derived.Test.YtnknfffldgkgcaaGreatDoorWGuard
import Derived.Test.YtnknfffldgkgcaaGreatDoorWNEv
import Derived.Test.YtnknfffldgkgcaaGreatDoorWMore
namespace Go.Proofs.YtnknfffldgkgcaaGreatDoor.Ua
open Go.RowKit Go.Proofs.YtnknfffldgkgcaaGreatDoorW.PrintWords Go.Proofs.YtnknfffldgkgcaaGreatDoorW.PrintLast Go.Proofs.YtnknfffldgkgcaaGreatDoorW.PrintMore
attribute [local go_sem] max2_int min2_int max_two min_two max_three min_three max_four min_four   -- for this text's walks alone
set_option linter.unusedVariables false
set_option linter.unusedSimpArgs false



def errW : Option Int → Value
  | none => .nilIface
  | some c => .iface 0 (.int .i64 c)
theorem errW_none : errW none = .nilIface := rfl
theorem errW_some (c : Int) : errW (some c) = .iface 0 (.int .i64 c) := rfl

-- the values' own types

end Go.Proofs.YtnknfffldgkgcaaGreatDoor.Ua
