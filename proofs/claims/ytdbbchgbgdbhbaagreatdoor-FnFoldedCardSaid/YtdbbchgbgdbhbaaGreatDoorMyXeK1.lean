/- The exact run of the law, by the kernel. No condition. -/
import Derived.Test.YtdbbchgbgdbhbaaGreatDoorMyXeT
import Derived.KernelRfl
namespace Go.Proofs.YtdbbchgbgdbhbaaGreatDoor.Xe
open Go

theorem run_eq1 : lawRun Tryz.prog 3 [61, 61] [(.eql, EA, EB, true)] = true := by kernel_rfl
theorem run_eq0 : lawRun Tryz.prog 3 [61, 61] [(.eql, EA, EB, false)] = true := by kernel_rfl
theorem run_lt1 : lawRun Tryz.prog 4 [60] [(.lss, EA, EB, true)] = true := by kernel_rfl
theorem run_lt0 : lawRun Tryz.prog 4 [60] [(.lss, EA, EB, false)] = true := by kernel_rfl
end Go.Proofs.YtdbbchgbgdbhbaaGreatDoor.Xe
