/- The checker's word for the table's functions, part 2. No condition. -/
import Derived.Test.YtlbcaadflcjpeaaGreatDoorMyVaE
import Derived.KernelRfl
set_option linter.unusedVariables false
namespace Go.Proofs.YtlbcaadflcjpeaaGreatDoor.Va
open Go

theorem k126 : ((List.range' 126 4).all fun k => chk Tryz.prog k) = true := by kernel_rfl
theorem k130 : ((List.range' 130 1).all fun k => chk Tryz.prog k) = true := by kernel_rfl
theorem k131 : ((List.range' 131 2).all fun k => chk Tryz.prog k) = true := by kernel_rfl
theorem k133 : ((List.range' 133 1).all fun k => chk Tryz.prog k) = true := by kernel_rfl
theorem k134 : ((List.range' 134 1).all fun k => chk Tryz.prog k) = true := by kernel_rfl
theorem k135 : ((List.range' 135 2).all fun k => chk Tryz.prog k) = true := by kernel_rfl
theorem k137 : ((List.range' 137 1).all fun k => chk Tryz.prog k) = true := by kernel_rfl
theorem k138 : ((List.range' 138 1).all fun k => chk Tryz.prog k) = true := by kernel_rfl
theorem k139 : ((List.range' 139 2).all fun k => chk Tryz.prog k) = true := by kernel_rfl
theorem k141 : ((List.range' 141 1).all fun k => chk Tryz.prog k) = true := by kernel_rfl
theorem k142 : ((List.range' 142 1).all fun k => chk Tryz.prog k) = true := by kernel_rfl
theorem k143 : ((List.range' 143 2).all fun k => chk Tryz.prog k) = true := by kernel_rfl
theorem k145 : ((List.range' 145 1).all fun k => chk Tryz.prog k) = true := by kernel_rfl
theorem k146 : ((List.range' 146 1).all fun k => chk Tryz.prog k) = true := by kernel_rfl
theorem k147 : ((List.range' 147 2).all fun k => chk Tryz.prog k) = true := by kernel_rfl
theorem k149 : ((List.range' 149 1).all fun k => chk Tryz.prog k) = true := by kernel_rfl
end Go.Proofs.YtlbcaadflcjpeaaGreatDoor.Va
