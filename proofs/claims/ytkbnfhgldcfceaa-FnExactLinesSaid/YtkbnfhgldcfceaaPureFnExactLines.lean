/- FnExactLines in plain Lean: the loop's count of line ends is the library's. No condition. -/
import Derived.Test.YtkbnfhgldcfceaaPLinesx1
namespace Go.Proofs.Ytkbnfhgldcfceaa.Pure
open Go Go.RowKit Go.Proofs.Ytkbnfhgldcfceaa.PLines Go.Proofs.Ytkbnfhgldcfceaa.MyCount Go.Proofs.YtkbnfhgldcfceaaW.PrintWords Go.Proofs.YtkbnfhgldcfceaaW.PrintLast
set_option linter.unusedSimpArgs false
set_option linter.unusedVariables false
theorem wrap_id {x : Int} (h0 : -9223372036854775808 ≤ x) (h1 : x ≤ 9223372036854775807) : wrap64 x = x := by unfold wrap64; omega
theorem size_len (s : ByteArray) : s.size = s.data.toList.length := rfl
theorem bt_get (s : ByteArray) (i : Nat) (h : i < s.size) : bt s (i : Int) = ((s.data.toList[i]'(by rw [← size_len]; exact h)).toNat : Int) := by
  unfold bt
  rw [dif_pos (by simpa using h)]
  rfl
theorem ten (b : UInt8) : ((b.toNat : Int) = 10) ↔ b = 10 := by
  constructor
  · intro h
    apply UInt8.toNat_inj.1
    show b.toNat = 10
    omega
  · rintro rfl
    rfl
/-- How many lines. -/
def lines (s : ByteArray) : Int := (s.data.toList.count 10 : Int) + (if h : 0 < s.size then (if s.data.toList[s.size - 1]'(by rw [← size_len]; omega) = 10 then 0 else 1) else 0)
theorem count_le (s : ByteArray) : s.data.toList.count 10 ≤ s.size := by rw [size_len]; exact List.count_le_length
theorem loop (s : ByteArray) (hs : s.size ≤ 1048576) : ∀ (d k i : Nat), i + d = s.size → d < k → spec_Lines.l0 k s ((s.data.toList.take i).count 10 : Int) (i : Int) = some (lines s) := by
  intro d
  induction d with
  | zero =>
    intro k i hi hk
    obtain ⟨k, rfl⟩ : ∃ m, k = m + 1 := ⟨k - 1, by omega⟩
    simp only [spec_Lines.l0]
    rw [if_neg (by omega), List.take_of_length_le (by rw [← size_len]; omega)]
    unfold lines
    by_cases h0 : 0 < s.size
    · have e : wrap64 ((s.size : Int) - 1) = ((s.size - 1 : Nat) : Int) := by rw [wrap_id (by omega) (by omega)]; omega
      have hc := count_le s
      rw [if_pos (by omega), e, if_pos (by omega), if_pos (by omega), bt_get s _ (by omega), dif_pos h0]
      by_cases h1 : s.data.toList[s.size - 1]'(by rw [← size_len]; omega) = 10
      · rw [if_pos ((ten _).2 h1), if_pos h1, Int.add_zero]
      · rw [if_neg (fun h => h1 ((ten _).1 h)), if_neg h1, wrap_id (by omega) (by omega)]
    · rw [if_neg (by omega), dif_neg h0, Int.add_zero]
  | succ d ih =>
    intro k i hi hk
    obtain ⟨k, rfl⟩ : ∃ m, k = m + 1 := ⟨k - 1, by omega⟩
    have hb : i < s.size := by omega
    have hl : i < s.data.toList.length := by rw [← size_len]; exact hb
    have e : wrap64 ((i : Int) + 1) = ((i + 1 : Nat) : Int) := by rw [wrap_id (by omega) (by omega)]; omega
    have hc : (s.data.toList.take i).count 10 ≤ i := Nat.le_trans List.count_le_length (by simp; omega)
    have ht : s.data.toList.take (i + 1) = s.data.toList.take i ++ [s.data.toList[i]] := by rw [List.take_succ_eq_append_getElem hl]
    simp only [spec_Lines.l0]
    rw [if_pos (by omega), if_pos (by omega), bt_get s i hb, e]
    have := ih k (i + 1) (by omega) (by omega)
    rw [ht, List.count_append, List.count_singleton] at this
    by_cases h1 : s.data.toList[i] = 10
    · rw [if_pos ((ten _).2 h1), wrap_id (by omega) (by omega)]
      rw [if_pos (by simp [h1])] at this
      simpa using this
    · rw [if_neg (fun h => h1 ((ten _).1 h))]
      rw [if_neg (by simpa using h1)] at this
      simpa using this
theorem impl_eq (s : ByteArray) (hs : s.size ≤ 1048576) : impl_Lines.f s = some (lines s) := by
  have hc := count_le s
  simp only [impl_Lines.f, strings_Count.f, if_true, Option.bind_some, ByteArray.toList_eq]
  unfold lines
  have hcb : Lib.countByte s.data.toList 10 = s.data.toList.count 10 := rfl
  rw [hcb]
  by_cases h0 : 0 < s.size
  · rw [if_neg (by intro h; rw [size_len, h] at h0; simp at h0), dif_pos h0]
    have e : wrap64 ((s.size : Int) - 1) = ((s.size - 1 : Nat) : Int) := by rw [wrap_id (by omega) (by omega)]; omega
    have hx : (s.extract (s.size - 1) s.size).data.toList = [s.data.toList[s.size - 1]'(by rw [← size_len]; omega)] := by
      rw [ByteArray.data_extract, Array.toList_extract]
      apply List.ext_getElem
      · simp [List.extract, ← size_len]; omega
      · intro i h1 h2
        simp at h2
        subst h2
        simp [List.extract]
    have e1 : ((⟨#[10]⟩ : ByteArray).size : Int) = 1 := rfl
    have e2 : (⟨#[10]⟩ : ByteArray).data.toList = [10] := rfl
    simp only [strings_HasSuffix.f, stringslite_HasSuffix.f, e1, ByteArray.toList_eq, e2, e, Int.toNat_natCast, hx]
    rw [if_pos (by omega), if_pos (by omega), if_pos (by omega)]
    simp only [Option.bind_some]
    by_cases h1 : s.data.toList[s.size - 1]'(by rw [← size_len]; omega) = 10
    · rw [if_pos (by simp [h1]), if_pos h1]
      simp
    · rw [if_neg (by simpa using h1), if_neg h1, wrap_id (by omega) (by omega)]
  · have hz : s.data.toList = [] := List.length_eq_zero_iff.1 (by rw [← size_len]; omega)
    rw [if_pos hz, dif_neg h0, hz]
    rfl
theorem FnExactLines : laws_FnExactLines.Pure := by
  intro s _
  by_cases h : (s.size : Int) > 1048576
  · exact ⟨0, by simp only [laws_FnExactLines.f]; rw [if_pos h]⟩
  · refine ⟨s.size + 1, ?_⟩
    simp only [laws_FnExactLines.f, spec_Lines.f]
    have h1 := loop s (by omega) s.size (s.size + 1) 0 (by omega) (by omega)
    rw [if_neg h, show spec_Lines.l0 (s.size + 1) s 0 0 = some (lines s) from h1, impl_eq s (by omega)]
    simp
end Go.Proofs.Ytkbnfhgldcfceaa.Pure
