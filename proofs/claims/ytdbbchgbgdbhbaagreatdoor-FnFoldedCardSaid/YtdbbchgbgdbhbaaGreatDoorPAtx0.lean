/- The functions that the law goes through, each with a contract: written by a program of this session over the kit's print. No condition. -/
import Derived.Test.YtdbbchgbgdbhbaaGreatDoorProg
import Derived.Below
import Derived.Deep.Draws
import Derived.Deep.AppendLies
import Derived.Maps.AppendAt
import Derived.OwnWalk
import Derived.Laws.BytesArg
import Derived.Laws.MakeOwn
import Derived.Laws.OwnMore
import Derived.Deep.OwnRows
import Derived.Tactics
import Derived.Lib.ConvBytes
import Derived.Laws.Slices
import Derived.WalkKit
import Derived.KernelRfl
import Derived.RowKit3
import Derived.Deep.LoopGhost
import Derived.Deep.QuietTactic
import Derived.BigQuiet
import Derived.WideLaws
import Derived.Deep.DeepCutAuto
import Derived.Deep.CutBlock
import Derived.Deep.RegionHeld3
import Derived.Laws.Rows
import Derived.Lib.AppendStr
import Derived.ArgAppend
import Derived.Laws.IdiomCopy
import Derived.OrdersHeld
import Derived.Laws.BitsLemmas
import Derived.RowKit
import Derived.Test.YtdbbchgbgdbhbaaGreatDoorMySq
import Derived.Test.YtdbbchgbgdbhbaaGreatDoorWWords
import Derived.Test.YtdbbchgbgdbhbaaGreatDoorWLast
import Derived.Test.YtdbbchgbgdbhbaaGreatDoorWTab
import Derived.Test.YtdbbchgbgdbhbaaGreatDoorWFour
import Derived.Test.YtdbbchgbgdbhbaaGreatDoorWQPut
import Derived.Test.YtdbbchgbgdbhbaaGreatDoorWApart
import Derived.Test.YtdbbchgbgdbhbaaGreatDoorWArr
import Derived.Test.YtdbbchgbgdbhbaaGreatDoorWZeros
import Derived.Test.YtdbbchgbgdbhbaaGreatDoorWFoot
import Derived.Test.YtdbbchgbgdbhbaaGreatDoorWKept
import Derived.Test.YtdbbchgbgdbhbaaGreatDoorWShare
import Derived.Test.YtdbbchgbgdbhbaaGreatDoorWN
import Derived.Test.YtdbbchgbgdbhbaaGreatDoorWFootNe
import Derived.Test.YtdbbchgbgdbhbaaGreatDoorWAt
import Derived.Test.YtdbbchgbgdbhbaaGreatDoorWEqStruct
import Derived.Test.YtdbbchgbgdbhbaaGreatDoorWRepsOne
import Derived.Test.YtdbbchgbgdbhbaaGreatDoorWInv
import Derived.Test.YtdbbchgbgdbhbaaGreatDoorWInvWords
import Derived.Test.YtdbbchgbgdbhbaaGreatDoorWGuard
import Derived.Test.YtdbbchgbgdbhbaaGreatDoorWNEv
import Derived.Test.YtdbbchgbgdbhbaaGreatDoorWMore
namespace Go.Proofs.YtdbbchgbgdbhbaaGreatDoor.PAt
open Go.RowKit Go.Proofs.YtdbbchgbgdbhbaaGreatDoorW.PrintWords Go.Proofs.YtdbbchgbgdbhbaaGreatDoorW.PrintLast Go.Proofs.YtdbbchgbgdbhbaaGreatDoorW.PrintMore
attribute [local go_sem] max2_int min2_int max_two min_two max_three min_three max_four min_four   -- for this text's walks alone
set_option linter.unusedVariables false
set_option linter.unusedSimpArgs false



def errW : Option Int → Value
  | none => .nilIface
  | some c => .iface 0 (.int .i64 c)
theorem errW_none : errW none = .nilIface := rfl
theorem errW_some (c : Int) : errW (some c) = .iface 0 (.int .i64 c) := rfl

theorem info5 : (Tryz.prog.info? 5).map (fun i => (i.zero, i.size, i.bytes)) = some (some (.int .u8 0), 1, 1) := by kernel_rfl
-- the values' own types

end Go.Proofs.YtdbbchgbgdbhbaaGreatDoor.PAt
