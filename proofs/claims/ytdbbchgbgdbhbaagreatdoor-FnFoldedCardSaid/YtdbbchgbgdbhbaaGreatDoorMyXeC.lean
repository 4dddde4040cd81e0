/- The program's types and functions are as the exact run takes them. No condition. -/
import Derived.Test.YtdbbchgbgdbhbaaGreatDoorMyXeT
import Derived.Test.YtdbbchgbgdbhbaaGreatDoorMyXeF
import Derived.KernelRfl
namespace Go.Proofs.YtdbbchgbgdbhbaaGreatDoor.Xe
open Go

theorem types_chk : tysOk Tryz.prog theTys = true := by kernel_rfl
theorem fns_chk : fnsOk Tryz.prog = true := by kernel_rfl
theorem mixed : Tryz.prog.follows .mixedOrders = true := by kernel_rfl
end Go.Proofs.YtdbbchgbgdbhbaaGreatDoor.Xe
