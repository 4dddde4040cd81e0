/- The functions that the law goes through, each with a contract: written by a program of this session over the kit's print. No condition. -/
import Derived.Test.YtkbnfhgldcfceaaProg
import Derived.Below
import Derived.Deep.Draws
import Derived.Deep.AppendLies
import Derived.Maps.AppendAt
import Derived.OwnWalk
import Derived.Laws.BytesArg
import Derived.Laws.MakeOwn
import Derived.Laws.OwnMore
import Derived.Deep.OwnRows
import Derived.Tactics
import Derived.Lib.ConvBytes
import Derived.Laws.Slices
import Derived.WalkKit
import Derived.KernelRfl
import Derived.RowKit3
import Derived.Deep.LoopGhost
import Derived.Deep.QuietTactic
import Derived.BigQuiet
import Derived.WideLaws
import Derived.Deep.DeepCutAuto
import Derived.Deep.CutBlock
import Derived.Deep.RegionHeld3
import Derived.Laws.Rows
import Derived.Lib.AppendStr
import Derived.ArgAppend
import Derived.Laws.IdiomCopy
import Derived.OrdersHeld
import Derived.Laws.BitsLemmas
import Derived.RowKit
import Derived.Test.YtkbnfhgldcfceaaMySq
import Derived.Test.YtkbnfhgldcfceaaMyCount
import Derived.Test.YtkbnfhgldcfceaaWWords
import Derived.Test.YtkbnfhgldcfceaaWLast
import Derived.Test.YtkbnfhgldcfceaaWTab
import Derived.Test.YtkbnfhgldcfceaaWFour
import Derived.Test.YtkbnfhgldcfceaaWQPut
import Derived.Test.YtkbnfhgldcfceaaWApart
import Derived.Test.YtkbnfhgldcfceaaWArr
import Derived.Test.YtkbnfhgldcfceaaWZeros
import Derived.Test.YtkbnfhgldcfceaaWFoot
import Derived.Test.YtkbnfhgldcfceaaWKept
import Derived.Test.YtkbnfhgldcfceaaWShare
import Derived.Test.YtkbnfhgldcfceaaWN
import Derived.Test.YtkbnfhgldcfceaaWFootNe
import Derived.Test.YtkbnfhgldcfceaaWAt
import Derived.Test.YtkbnfhgldcfceaaWEqStruct
import Derived.Test.YtkbnfhgldcfceaaWRepsOne
import Derived.Test.YtkbnfhgldcfceaaWInv
import Derived.Test.YtkbnfhgldcfceaaWInvWords
import Derived.Test.YtkbnfhgldcfceaaWGuard
import Derived.Test.YtkbnfhgldcfceaaWNEv
import Derived.Test.YtkbnfhgldcfceaaWMore
namespace Go.Proofs.Ytkbnfhgldcfceaa.PLines
open Go.Proofs.Ytkbnfhgldcfceaa.MyCount
open Go.RowKit Go.Proofs.YtkbnfhgldcfceaaW.PrintWords Go.Proofs.YtkbnfhgldcfceaaW.PrintLast Go.Proofs.YtkbnfhgldcfceaaW.PrintMore
attribute [local go_sem] max2_int min2_int max_two min_two max_three min_three max_four min_four   -- for this text's walks alone
set_option linter.unusedVariables false
set_option linter.unusedSimpArgs false



def errW : Option Int → Value
  | none => .nilIface
  | some c => .iface 0 (.int .i64 c)
theorem errW_none : errW none = .nilIface := rfl
theorem errW_some (c : Int) : errW (some c) = .iface 0 (.int .i64 c) := rfl

-- the values' own types

end Go.Proofs.Ytkbnfhgldcfceaa.PLines
