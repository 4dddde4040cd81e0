/- The checker's word for the table's functions, part 1. No condition. -/
import Derived.Test.YtlbcaadflcjpeaaGreatDoorMyVaE
import Derived.KernelRfl
set_option linter.unusedVariables false
namespace Go.Proofs.YtlbcaadflcjpeaaGreatDoor.Va
open Go

theorem k82 : ((List.range' 82 1).all fun k => chk Tryz.prog k) = true := by kernel_rfl
theorem k83 : ((List.range' 83 26).all fun k => chk Tryz.prog k) = true := by kernel_rfl
theorem k109 : ((List.range' 109 1).all fun k => chk Tryz.prog k) = true := by kernel_rfl
theorem k110 : ((List.range' 110 1).all fun k => chk Tryz.prog k) = true := by kernel_rfl
theorem k111 : ((List.range' 111 3).all fun k => chk Tryz.prog k) = true := by kernel_rfl
theorem k114 : ((List.range' 114 1).all fun k => chk Tryz.prog k) = true := by kernel_rfl
theorem k115 : ((List.range' 115 3).all fun k => chk Tryz.prog k) = true := by kernel_rfl
theorem k118 : ((List.range' 118 1).all fun k => chk Tryz.prog k) = true := by kernel_rfl
theorem k119 : ((List.range' 119 7).all fun k => chk Tryz.prog k) = true := by kernel_rfl
end Go.Proofs.YtlbcaadflcjpeaaGreatDoor.Va
