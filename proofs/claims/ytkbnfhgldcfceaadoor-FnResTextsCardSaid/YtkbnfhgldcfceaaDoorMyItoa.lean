/- strconv.Itoa over the shelf's contract. The library's table of tens is asked. -/
import Derived.Test.YtkbnfhgldcfceaaDoorShelf
import Derived.Test.YtkbnfhgldcfceaaDoorWMore
import Derived.Lib.SmallJoins
namespace Go.Proofs.YtkbnfhgldcfceaaDoor.MyCount
open Go Go.RowKit Go.Proofs.YtkbnfhgldcfceaaDoorW.PrintWords
theorem gPow : Tryd.prog.globalNamed "internal/strconv.uint64pow10" = some 3 := by kernel_rfl
def strconv_Itoa.f (a0 : Int) : Option ByteArray := if -9223372036854775808 ≤ a0 ∧ a0 ≤ 9223372036854775807 then some ⟨(Lib.itoa a0).toArray⟩ else none
theorem strconv_Itoa.calls (a0 : Int) (r : ByteArray) (w : World) (htab : Lib.TabIs Tryd.prog w "internal/strconv.uint64pow10" .u64 Lib.pow10Tab) (h : strconv_Itoa.f a0 = some r) :
    Calls Tryd.prog 32 #[.int .i64 a0] w fun e w' => e = .returned (.string r) ∧ Below w.heap.size w w' := by
  unfold strconv_Itoa.f at h
  split at h
  · rename_i hr
    obtain rfl := Option.some.inj h
    refine (Tryd.strconv_Itoa a0 hr.1 hr.2 w htab).mono ?_
    rintro e w' ⟨rfl, k, os, rfl⟩
    refine ⟨rfl, ?_⟩
    have hg : Below w.heap.size (w.drewN k) (Sort.grow (w.drewN k) os) := ⟨rfl, rfl, rfl, by simp [Sort.grow], fun i hi => by
      show (w.heap ++ os)[i]? = w.heap[i]?
      rw [Array.getElem?_append_left hi]⟩
    exact (pw_below_drewN (Below.refl _ _) k).trans hg
  · cases h
end Go.Proofs.YtkbnfhgldcfceaaDoor.MyCount
