/- The checker's word for the table's functions, part 3. No condition. -/
import Derived.Test.YtlbcaadflcjpeaaGreatDoorMyVaE
import Derived.KernelRfl
set_option linter.unusedVariables false
namespace Go.Proofs.YtlbcaadflcjpeaaGreatDoor.Va
open Go

theorem k150 : ((List.range' 150 1).all fun k => chk Tryz.prog k) = true := by kernel_rfl
theorem k151 : ((List.range' 151 2).all fun k => chk Tryz.prog k) = true := by kernel_rfl
theorem k153 : ((List.range' 153 1).all fun k => chk Tryz.prog k) = true := by kernel_rfl
theorem k154 : ((List.range' 154 1).all fun k => chk Tryz.prog k) = true := by kernel_rfl
theorem k155 : ((List.range' 155 2).all fun k => chk Tryz.prog k) = true := by kernel_rfl
theorem k157 : ((List.range' 157 1).all fun k => chk Tryz.prog k) = true := by kernel_rfl
theorem k158 : ((List.range' 158 1).all fun k => chk Tryz.prog k) = true := by kernel_rfl
theorem k159 : ((List.range' 159 5).all fun k => chk Tryz.prog k) = true := by kernel_rfl
theorem k164 : ((List.range' 164 1).all fun k => chk Tryz.prog k) = true := by kernel_rfl
theorem k165 : ((List.range' 165 10).all fun k => chk Tryz.prog k) = true := by kernel_rfl
theorem k175 : ((List.range' 175 7).all fun k => chk Tryz.prog k) = true := by kernel_rfl
theorem k182 : ((List.range' 182 3).all fun k => chk Tryz.prog k) = true := by kernel_rfl
theorem k185 : ((List.range' 185 3).all fun k => chk Tryz.prog k) = true := by kernel_rfl
theorem k188 : ((List.range' 188 4).all fun k => chk Tryz.prog k) = true := by kernel_rfl
theorem k192 : ((List.range' 192 4).all fun k => chk Tryz.prog k) = true := by kernel_rfl
theorem k196 : ((List.range' 196 4).all fun k => chk Tryz.prog k) = true := by kernel_rfl
theorem k200 : ((List.range' 200 5).all fun k => chk Tryz.prog k) = true := by kernel_rfl
theorem k205 : ((List.range' 205 4).all fun k => chk Tryz.prog k) = true := by kernel_rfl
theorem k209 : ((List.range' 209 4).all fun k => chk Tryz.prog k) = true := by kernel_rfl
theorem k213 : ((List.range' 213 4).all fun k => chk Tryz.prog k) = true := by kernel_rfl
theorem k217 : ((List.range' 217 1).all fun k => chk Tryz.prog k) = true := by kernel_rfl
theorem k218 : ((List.range' 218 3).all fun k => chk Tryz.prog k) = true := by kernel_rfl
end Go.Proofs.YtlbcaadflcjpeaaGreatDoor.Va
