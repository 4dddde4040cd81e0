/- strings.Split over the shelf's contract: a row of the call's own with the pieces. The library's variable MaxLen holds some int: that is asked. -/
import Derived.Test.YtkbnfhgldcfceaaDoorShelf
import Derived.Test.YtkbnfhgldcfceaaDoorWMore
import Derived.Lib.SplitLaws
namespace Go.Proofs.YtkbnfhgldcfceaaDoor.MyCount
open Go Go.RowKit Go.Proofs.YtkbnfhgldcfceaaDoorW.PrintWords
def strings_Split.f (a0 a1 : ByteArray) : Option (List ByteArray) := if a0.size ≤ 1048576 then (if 1 ≤ a1.size then some (Lib.splitB a1 0 (Lib.countB a0 a1) a0) else none) else none
theorem reps_str {w : World} {base : Nat} {ok : Nat → Prop} (l : List ByteArray) : Reps (Kd.string.M w base ok) 1 l (l.map Value.string) := by
  refine ⟨by simp, fun j p hj => ?_⟩
  obtain ⟨hjl, hp⟩ := List.getElem?_eq_some_iff.1 hj
  have : ((l.map Value.string).drop (j * 1)).take 1 = [Value.string p] := by
    rw [Nat.mul_one, List.drop_eq_getElem_cons (by simpa using hjl)]
    simp [hp]
  rw [this]
  exact rfl
theorem row_str {w : World} {base : Nat} {v : Value} {l : List ByteArray} (h : w.ownsRow base 9 1 v l.length (l.map Value.string)) : Kd.R Kd.string 9 w base (fun _ => True) v l := ⟨fun _ _ => trivial, _, h, reps_str l⟩
theorem strings_Split.calls (m : Int) (a0 : ByteArray) (a1 : ByteArray) (r : List ByteArray) (w : World) (hm : w.cell? ⟨0, 0, none⟩ = some (.int .i64 m)) (h : strings_Split.f a0 a1 = some r) :
    Calls Tryd.prog 18 #[.string a0, .string a1] w fun e w' => ∃ v0_ : Value, e = .returned (v0_) ∧ Kd.R Kd.string 9 w' w.heap.size (fun _ => True) v0_ r ∧ Below w.heap.size w w' := by
  unfold strings_Split.f at h
  split at h
  · rename_i hs
    split at h
    · rename_i h1
      obtain rfl := Option.some.inj h
      have hlen := Lib.splitB_all a1 h1 0 (Lib.countB a0 a1) a0 rfl
      have hle : (Lib.splitB a1 0 (Lib.countB a0 a1) a0).length ≤ 9223372036854775807 := by
        have := Lib.countB_le a1 h1 a0.size a0 (Nat.le_refl _)
        omega
      refine (Tryd.strings_Split a0 a1 m w (by omega) hm h1).mono ?_
      rintro e w' ⟨rfl, rfl⟩
      refine ⟨_, rfl, ?_, below_alloc (Below.refl _ _) _⟩
      have h2 := World.ownsRow_lit (base := w.heap.size) (e := 9) (size := 1) w ((Lib.splitB a1 0 (Lib.countB a0 a1) a0).map Value.string).toArray (Lib.splitB a1 0 (Lib.countB a0 a1) a0).length (Nat.le_refl _) (by simpa [maxLen] using hle) (by simp)
      rw [hlen] at h2
      refine row_str ?_
      rw [hlen]
      simpa using h2
    · cases h
  · cases h
end Go.Proofs.YtkbnfhgldcfceaaDoor.MyCount
