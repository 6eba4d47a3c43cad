-- PRINTED BY print.sh 35421559b90ae4d0a3588c463048766b98c2df88dd9212a6774a882060cdf62d: not written by this session
import Derived.Test.YtmcibofnanbhpaaProg
import Derived.Below
import Derived.Deep.Draws
import Derived.Deep.AppendLies
import Derived.Maps.AppendAt
import Derived.OwnWalk
import Derived.Laws.BytesArg
import Derived.Laws.MakeOwn
import Derived.Laws.OwnMore
import Derived.Deep.OwnRows
import Derived.Tactics
import Derived.Lib.ConvBytes
import Derived.Laws.Slices
import Derived.WalkKit
import Derived.KernelRfl
import Derived.RowKit3
import Derived.Deep.LoopGhost
import Derived.Deep.QuietTactic
import Derived.BigQuiet
import Derived.WideLaws
import Derived.Deep.DeepCutAuto
import Derived.Deep.CutBlock
import Derived.Deep.RegionHeld3
import Derived.Laws.Rows
import Derived.Lib.AppendStr
import Derived.ArgAppend
import Derived.Laws.IdiomCopy
import Derived.OrdersHeld
import Derived.Laws.BitsLemmas
import Derived.RowKit
import Derived.Test.YtmcibofnanbhpaaWWords
import Derived.Test.YtmcibofnanbhpaaWLast
import Derived.Test.YtmcibofnanbhpaaWTab
import Derived.Test.YtmcibofnanbhpaaWFour
import Derived.Test.YtmcibofnanbhpaaWQPut
import Derived.Test.YtmcibofnanbhpaaWApart
import Derived.Test.YtmcibofnanbhpaaWArr
import Derived.Test.YtmcibofnanbhpaaWZeros
import Derived.Test.YtmcibofnanbhpaaWFoot
import Derived.Test.YtmcibofnanbhpaaWKept
import Derived.Test.YtmcibofnanbhpaaWShare
import Derived.Test.YtmcibofnanbhpaaWN
import Derived.Test.YtmcibofnanbhpaaWFootNe
import Derived.Test.YtmcibofnanbhpaaWAt
import Derived.Test.YtmcibofnanbhpaaWEqStruct
import Derived.Test.YtmcibofnanbhpaaWRepsOne
import Derived.Test.YtmcibofnanbhpaaWInv
import Derived.Test.YtmcibofnanbhpaaWInvWords
import Derived.Test.YtmcibofnanbhpaaWGuard
import Derived.Test.YtmcibofnanbhpaaWNEv
import Derived.Test.YtmcibofnanbhpaaWMore
namespace Go.Proofs.Ytmcibofnanbhpaa.PNumberWholes
open Go.RowKit Go.Proofs.YtmcibofnanbhpaaW.PrintWords Go.Proofs.YtmcibofnanbhpaaW.PrintLast Go.Proofs.YtmcibofnanbhpaaW.PrintMore
attribute [local go_sem] max2_int min2_int max_two min_two max_three min_three max_four min_four   -- for this text's walks alone
set_option linter.unusedVariables false
set_option linter.unusedSimpArgs false



def errW : Option Int → Value
  | none => .nilIface
  | some c => .iface 0 (.int .i64 c)
theorem errW_none : errW none = .nilIface := rfl
theorem errW_some (c : Int) : errW (some c) = .iface 0 (.int .i64 c) := rfl

theorem info3 : (Try.prog.info? 3).map (fun i => (i.zero, i.size, i.bytes)) = some (some (.int .i64 0), 1, 8) := by kernel_rfl
theorem info22 : (Try.prog.info? 22).map (fun i => (i.zero, i.size, i.bytes)) = some (some (.int .u64 0), 1, 8) := by kernel_rfl
-- the values' own types

end Go.Proofs.Ytmcibofnanbhpaa.PNumberWholes
