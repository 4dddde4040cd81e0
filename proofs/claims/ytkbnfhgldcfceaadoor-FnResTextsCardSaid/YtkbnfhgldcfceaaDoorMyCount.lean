/- strings.Count at the one text "\n", over the shelf's contract. No condition. -/
import Derived.Test.YtkbnfhgldcfceaaDoorShelf
import Derived.Test.YtkbnfhgldcfceaaDoorWMore
namespace Go.Proofs.YtkbnfhgldcfceaaDoor.MyCount
open Go Go.RowKit Go.Proofs.YtkbnfhgldcfceaaDoorW.PrintWords
def strings_Count.f (a0 a1 : ByteArray) : Option Int := if a1 = (⟨#[10]⟩ : ByteArray) then some (Lib.countByte a0.data.toList 10) else none
theorem strings_Count.calls (a0 : ByteArray) (a1 : ByteArray) (r : Int) (w : World) (h : strings_Count.f a0 a1 = some r) :
    Calls Tryd.prog 27 #[.string a0, .string a1] w fun e w' => e = .returned (.int .i64 r) ∧ Drawn0 w w' := by
  unfold strings_Count.f at h
  split at h
  · rename_i he
    subst he
    obtain rfl := Option.some.inj h
    refine (Tryd.strings_Count_one a0 10 w).mono ?_
    rintro e w' ⟨rfl, rfl⟩
    exact ⟨rfl, Drawn0.refl _⟩
  · cases h
end Go.Proofs.YtkbnfhgldcfceaaDoor.MyCount
