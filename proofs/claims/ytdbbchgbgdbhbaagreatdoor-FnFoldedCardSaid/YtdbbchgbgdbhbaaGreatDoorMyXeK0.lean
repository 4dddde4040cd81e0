/- The exact run of the law, by the kernel. No condition. -/
import Derived.Test.YtdbbchgbgdbhbaaGreatDoorMyXeT
import Derived.KernelRfl
namespace Go.Proofs.YtdbbchgbgdbhbaaGreatDoor.Xe
open Go

theorem run_add : lawRun Tryz.prog 0 [43] [(.geq, ER .add, .lit 0, true)] = true := by kernel_rfl
theorem run_sub0 : lawRun Tryz.prog 1 [45] [(.geq, ER .sub, .lit 0, true)] = true := by kernel_rfl
theorem run_sub1 : lawRun Tryz.prog 1 [45] [(.geq, ER .sub, .lit 0, false), (.lss, ER .sub, .lit 0, true)] = true := by kernel_rfl
theorem run_mul : lawRun Tryz.prog 2 [42] [(.geq, ER .mul, .lit 0, true)] = true := by kernel_rfl
end Go.Proofs.YtdbbchgbgdbhbaaGreatDoor.Xe
