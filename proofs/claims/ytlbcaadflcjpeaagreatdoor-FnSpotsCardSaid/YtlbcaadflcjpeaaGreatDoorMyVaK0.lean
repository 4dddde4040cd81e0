/- The checker's word for the table's functions, part 0. No condition. -/
import Derived.Test.YtlbcaadflcjpeaaGreatDoorMyVaE
import Derived.KernelRfl
set_option linter.unusedVariables false
namespace Go.Proofs.YtlbcaadflcjpeaaGreatDoor.Va
open Go

theorem k0 : ((List.range' 0 52).all fun k => chk Tryz.prog k) = true := by kernel_rfl
theorem k52 : ((List.range' 52 5).all fun k => chk Tryz.prog k) = true := by kernel_rfl
theorem k57 : ((List.range' 57 12).all fun k => chk Tryz.prog k) = true := by kernel_rfl
theorem k69 : ((List.range' 69 2).all fun k => chk Tryz.prog k) = true := by kernel_rfl
theorem k71 : ((List.range' 71 6).all fun k => chk Tryz.prog k) = true := by kernel_rfl
theorem k77 : ((List.range' 77 1).all fun k => chk Tryz.prog k) = true := by kernel_rfl
theorem k78 : ((List.range' 78 1).all fun k => chk Tryz.prog k) = true := by kernel_rfl
theorem k79 : ((List.range' 79 1).all fun k => chk Tryz.prog k) = true := by kernel_rfl
theorem k80 : ((List.range' 80 1).all fun k => chk Tryz.prog k) = true := by kernel_rfl
theorem k81 : ((List.range' 81 1).all fun k => chk Tryz.prog k) = true := by kernel_rfl
end Go.Proofs.YtlbcaadflcjpeaaGreatDoor.Va
