/- strings.Count at the one text "\n", strings.Split and strings.Join, over the shelf's contracts. The library's variable MaxLen holds some int: that Split asks. -/
import Derived.Test.YtlbcaadflcjpeaaGreatDoorShelf
import Derived.Test.YtlbcaadflcjpeaaGreatDoorWMore
import Derived.Lib.SplitLaws
namespace Go.Proofs.YtlbcaadflcjpeaaGreatDoor.MyCount
open Go Go.RowKit Go.Proofs.YtlbcaadflcjpeaaGreatDoorW.PrintWords
def strings_Count.f (a0 a1 : ByteArray) : Option Int := if a1 = (⟨#[10]⟩ : ByteArray) then some (Lib.countByte a0.data.toList 10) else none
theorem strings_Count.calls (a0 : ByteArray) (a1 : ByteArray) (r : Int) (w : World) (h : strings_Count.f a0 a1 = some r) :
    Calls Tryz.prog 41 #[.string a0, .string a1] w fun e w' => e = .returned (.int .i64 r) ∧ Drawn0 w w' := by
  unfold strings_Count.f at h
  split at h
  · rename_i he
    subst he
    obtain rfl := Option.some.inj h
    refine (Tryz.strings_Count_one a0 10 w).mono ?_
    rintro e w' ⟨rfl, rfl⟩
    exact ⟨rfl, Drawn0.refl _⟩
  · cases h
def strings_Split.f (a0 a1 : ByteArray) : Option (List ByteArray) := if a0.size ≤ 4294967280 then (if 1 ≤ a1.size then some (Lib.splitB a1 0 (Lib.countB a0 a1) a0) else none) else none
theorem reps_str {w : World} {base : Nat} {ok : Nat → Prop} (l : List ByteArray) : Reps (Kd.string.M w base ok) 1 l (l.map Value.string) := by
  refine ⟨by simp, fun j p hj => ?_⟩
  obtain ⟨hjl, hp⟩ := List.getElem?_eq_some_iff.1 hj
  have : ((l.map Value.string).drop (j * 1)).take 1 = [Value.string p] := by
    rw [Nat.mul_one, List.drop_eq_getElem_cons (by simpa using hjl)]
    simp [hp]
  rw [this]
  exact rfl
theorem row_str {w : World} {base : Nat} {v : Value} {l : List ByteArray} (h : w.ownsRow base 9 1 v l.length (l.map Value.string)) : Kd.R Kd.string 9 w base (fun _ => True) v l := ⟨fun _ _ => trivial, _, h, reps_str l⟩
theorem strings_Split.calls (m : Int) (a0 : ByteArray) (a1 : ByteArray) (r : List ByteArray) (w : World) (hm : w.cell? ⟨0, 0, none⟩ = some (.int .i64 m)) (h : strings_Split.f a0 a1 = some r) :
    Calls Tryz.prog 26 #[.string a0, .string a1] w fun e w' => ∃ v0_ : Value, e = .returned (v0_) ∧ Kd.R Kd.string 9 w' w.heap.size (fun _ => True) v0_ r ∧ Below w.heap.size w w' := by
  unfold strings_Split.f at h
  split at h
  · rename_i hs
    split at h
    · rename_i h1
      obtain rfl := Option.some.inj h
      have hlen := Lib.splitB_all a1 h1 0 (Lib.countB a0 a1) a0 rfl
      have hle : (Lib.splitB a1 0 (Lib.countB a0 a1) a0).length ≤ 9223372036854775807 := by
        have := Lib.countB_le a1 h1 a0.size a0 (Nat.le_refl _)
        omega
      refine (Tryz.strings_Split a0 a1 m w (by omega) hm h1).mono ?_
      rintro e w' ⟨rfl, rfl⟩
      refine ⟨_, rfl, ?_, below_alloc (Below.refl _ _) _⟩
      have h2 := World.ownsRow_lit (base := w.heap.size) (e := 9) (size := 1) w ((Lib.splitB a1 0 (Lib.countB a0 a1) a0).map Value.string).toArray (Lib.splitB a1 0 (Lib.countB a0 a1) a0).length (Nat.le_refl _) (by simpa [maxLen] using hle) (by simp)
      rw [hlen] at h2
      refine row_str ?_
      rw [hlen]
      simpa using h2
    · cases h
  · cases h

def strings_Join.f (l0 : List ByteArray) (a1 : ByteArray) : Option ByteArray := if l0.length ≤ 100000 then (if (Lib.join (l0.map (·.data.toList)) a1.data.toList).length ≤ 140737488355328 then some ⟨(Lib.join (l0.map (·.data.toList)) a1.data.toList).toArray⟩ else none) else none
theorem strings_Join.calls (A0 : Option Addr) (c0 : Nat) (l0 : List ByteArray) (a1 : ByteArray) (r : ByteArray) (w : World) (hr0 : Kd.C Kd.string w A0 l0.length l0) (hc0 : l0.length ≤ c0) (h : strings_Join.f l0 a1 = some r) :
    Calls Tryz.prog 47 #[.slice A0 l0.length c0, .string a1] w fun e w' => e = .returned (.string r) ∧ Below w.heap.size w w' := by
  unfold strings_Join.f at h
  split at h
  · rename_i h1
    split at h
    · rename_i h2
      obtain rfl := Option.some.inj h
      by_cases hl : l0 = []
      · subst hl
        refine (Tryz.strings_Join_none A0 c0 a1 w).mono ?_
        rintro e w' ⟨rfl, rfl⟩
        exact ⟨rfl, Below.refl _ _⟩
      · have h0 : 0 < l0.length := List.length_pos_iff.2 hl
        obtain ⟨ad, rfl, hc⟩ := hr0.2.2 h0
        have hcell : ∀ (j : Nat) x, l0[j]? = some x → w.cell? (ad.add j) = some (.string x) := fun j x hx => by
          obtain ⟨c, hcl, hk, hcc⟩ := hc j x hx
          have hk : c = [.string x] := hk
          have h1 : w.cell? (ad.add (j * 1 + 0)) = some (.string x) := hcc 0 (.string x) (by rw [hk]; rfl)
          simpa using h1
        obtain ⟨x0, hx0⟩ : ∃ x, l0[0]? = some x := ⟨_, List.getElem?_eq_getElem h0⟩
        have hf := hcell 0 x0 hx0
        obtain ⟨b, o, sp⟩ := ad
        have hsp : sp = none := by
          cases sp with
          | none => rfl
          | some k =>
            exfalso
            simp only [World.cell?, Addr.add] at hf
            split at hf <;> simp_all
        subst hsp
        have hadd : ∀ j, (⟨b, o, none⟩ : Addr).add j = ⟨b, o + j, none⟩ := fun j => by
          unfold Addr.add
          split <;> simp_all
        have hb : b < w.heap.size := World.block_lt_of_cell? w (⟨b, o, none⟩ : Addr) (by rw [hadd] at hf; simpa using hf)
        exact Tryz.strings_Join b o c0 l0 a1 w (fun j x hx => by rw [← hadd]; exact hcell j x hx) hb (by omega) hc0 h2
    · cases h
  · cases h
end Go.Proofs.YtlbcaadflcjpeaaGreatDoor.MyCount
