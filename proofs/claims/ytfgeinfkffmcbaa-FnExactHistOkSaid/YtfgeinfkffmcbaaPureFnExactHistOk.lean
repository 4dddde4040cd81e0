/- The program's HistOk and the reference's answer the same of every history of at most 1048576 letters and texts, and leave it as it was. No condition. -/
import Derived.Test.YtfgeinfkffmcbaaPFnExactHistOkx2
import Derived.Test.YtfgeinfkffmcbaaMyOpen
namespace Go.Proofs.Ytfgeinfkffmcbaa.Pure
open Go.RowKit Go.Proofs.Ytfgeinfkffmcbaa.PFnExactHistOk Go.Proofs.YtfgeinfkffmcbaaW.PrintWords Go.Proofs.YtfgeinfkffmcbaaW.PrintLast Go.Proofs.Ytfgeinfkffmcbaa.MyOpen

namespace HistOk
theorem rdOf_at (l : List ByteArray) (i : Nat) (h : i < l.length) : rdOf ByteArray.empty l (i : Int) = l[i] := by
  unfold rdOf
  rw [Int.toNat_natCast, List.getD_eq_getElem?_getD, List.getElem?_eq_getElem h]
  rfl
theorem wrap_succ {i : Nat} (h : i < 9223372036854775807) : wrap64 ((i : Int) + 1) = ((i + 1 : Nat) : Int) := by
  unfold wrap64; omega
/-- How much is left behind a list of texts, or less than nothing. -/
theorem sz_loop (l : List ByteArray) (hl : l.length ≤ 9223372036854775807) (hs : ∀ s ∈ l, StrFit s) : ∀ (d k i : Nat) (x : Int), i + d = l.length → d < k → 0 ≤ x → x ≤ 1048576 →
    ∃ r, laws_szStringS.l0 k l x (i : Int) = some r ∧ -1 ≤ r ∧ r ≤ x := by
  intro d
  induction d with
  | zero =>
    intro k i x hi hk h0 h1
    obtain ⟨k, rfl⟩ : ∃ m, k = m + 1 := ⟨k - 1, by omega⟩
    refine ⟨x, ?_, by omega, by omega⟩
    simp only [laws_szStringS.l0]
    rw [if_neg (by omega)]
  | succ d ih =>
    intro k i x hi hk h0 h1
    obtain ⟨k, rfl⟩ : ∃ m, k = m + 1 := ⟨k - 1, by omega⟩
    have hb : i < l.length := by omega
    simp only [laws_szStringS.l0]
    rw [if_pos (by omega), if_pos (by omega), rdOf_at l i hb]
    have hsz := hs l[i] (List.getElem_mem hb)
    unfold StrFit at hsz
    have e : wrap64 (x - (l[i].size : Int)) = x - (l[i].size : Int) := by unfold wrap64; omega
    rw [e, wrap_succ (by omega)]
    by_cases h2 : x - (l[i].size : Int) < 0
    · rw [if_pos h2]
      exact ⟨-1, rfl, by omega, by omega⟩
    · rw [if_neg h2]
      obtain ⟨r, hr, h3, h4⟩ := ih k (i + 1) _ (by omega) (by omega) (by omega : 0 ≤ x - (l[i].size : Int)) (by omega)
      exact ⟨r, hr, h3, by omega⟩
theorem sz_strs (l : List ByteArray) (hl : AllFit StrFit l) (k : Nat) (x : Int) (hk : l.length < k) (h0 : 0 ≤ x) (h1 : x ≤ 1048576) :
    ∃ r, laws_szStringS.f k l x = some r ∧ -1 ≤ r ∧ r ≤ x ∧ (0 ≤ r → (l.length : Int) ≤ x) := by
  unfold laws_szStringS.f
  have e : wrap64 (x - (l.length : Int)) = x - (l.length : Int) := by have := hl.1; unfold wrap64; omega
  rw [e]
  by_cases h2 : x - (l.length : Int) < 0
  · rw [if_pos h2]
    exact ⟨-1, rfl, by omega, by omega, by omega⟩
  · rw [if_neg h2]
    obtain ⟨r, hr, h3, h4⟩ := sz_loop l hl.1 hl.2 l.length k 0 (x - (l.length : Int)) (by omega) hk (by omega) (by omega)
    exact ⟨r, hr, h3, by omega, by omega⟩
theorem to_loop (l : List ByteArray) (hl : l.length ≤ 1048576) : ∀ (d k i : Nat) (y : List ByteArray), i + d = l.length → d < k → y.length = l.length → (∀ j, j < i → y[j]? = l[j]?) →
    laws_toStringS.l0 k l y (i : Int) = some l := by
  intro d
  induction d with
  | zero =>
    intro k i y hi hk hy hj
    obtain ⟨k, rfl⟩ : ∃ m, k = m + 1 := ⟨k - 1, by omega⟩
    simp only [laws_toStringS.l0]
    rw [if_neg (by omega)]
    congr 1
    apply List.ext_getElem?
    intro j
    by_cases h : j < i
    · exact hj j h
    · rw [List.getElem?_eq_none (by omega), List.getElem?_eq_none (by omega)]
  | succ d ih =>
    intro k i y hi hk hy hj
    obtain ⟨k, rfl⟩ : ∃ m, k = m + 1 := ⟨k - 1, by omega⟩
    have hb : i < l.length := by omega
    simp only [laws_toStringS.l0]
    rw [if_pos (by omega), if_pos (by omega), if_pos (by omega), rdOf_at l i hb, wrap_succ (by omega), Int.toNat_natCast]
    refine ih k (i + 1) _ (by omega) (by omega) (by simpa using hy) (fun j h => ?_)
    by_cases e : j = i
    · subst e
      rw [List.getElem?_set_self (by omega), List.getElem?_eq_getElem hb]
    · rw [List.getElem?_set_ne (by omega)]
      exact hj j (by omega)
theorem to_strs (l : List ByteArray) (hl : l.length ≤ 1048576) (k : Nat) (hk : l.length < k) : laws_toStringS.f k l = some l := by
  unfold laws_toStringS.f
  rw [if_pos (by omega), if_pos (by omega)]
  exact to_loop l hl l.length k 0 _ (by omega) hk (by simp) (fun j h => by omega)
theorem eq_loop (l : List ByteArray) (hl : l.length ≤ 1048576) : ∀ (d k i : Nat), i + d = l.length → d < k → laws_eqStringS.l0 k l l (i : Int) = some true := by
  intro d
  induction d with
  | zero =>
    intro k i hi hk
    obtain ⟨k, rfl⟩ : ∃ m, k = m + 1 := ⟨k - 1, by omega⟩
    simp only [laws_eqStringS.l0]
    rw [if_neg (by omega)]
  | succ d ih =>
    intro k i hi hk
    obtain ⟨k, rfl⟩ : ∃ m, k = m + 1 := ⟨k - 1, by omega⟩
    simp only [laws_eqStringS.l0]
    rw [if_pos (by omega), if_pos (by omega), if_pos (by omega), wrap_succ (by omega)]
    simp only [if_true]
    exact ih k (i + 1) (by omega) (by omega)
theorem eq_strs (l : List ByteArray) (hl : l.length ≤ 1048576) (k : Nat) (hk : l.length < k) : laws_eqStringS.f k l l = some true := by
  unfold laws_eqStringS.f
  rw [if_pos rfl]
  exact eq_loop l hl l.length k 0 (by omega) hk
end HistOk
open HistOk
theorem FnExactHistOk (p : List ByteArray) (s : ByteArray) (q : List ByteArray) (hp : AllFit StrFit p) (hs : StrFit s) (hq : AllFit StrFit q) : ∃ k, laws_FnExactHistOk.f k p s q = some true := by
  refine ⟨p.length + q.length + 1, ?_⟩
  unfold laws_FnExactHistOk.f laws_szHist.f
  obtain ⟨r, hr, h1, h2, h3⟩ := sz_strs p hp (p.length + q.length + 1) 1048576 (by omega) (by omega) (by omega)
  rw [hr]
  simp only [Option.bind_some]
  by_cases c1 : r < 0
  · rw [if_pos c1]; rfl
  · rw [if_neg c1]
    unfold StrFit at hs
    have e : wrap64 (r - (s.size : Int)) = r - (s.size : Int) := by unfold wrap64; omega
    rw [e]
    by_cases c2 : r - (s.size : Int) < 0
    · rw [if_pos c2]; rfl
    · rw [if_neg c2]
      obtain ⟨r', hr', h4, h5, h6⟩ := sz_strs q hq (p.length + q.length + 1) (r - (s.size : Int)) (by omega) (by omega) (by omega)
      rw [hr']
      simp only [Option.bind_some]
      by_cases c3 : r' < 0
      · rw [if_pos c3]; rfl
      · rw [if_neg c3]
        simp only [Option.bind_some]
        rw [if_neg c3]
        unfold laws_toHist.f laws_eqHist.f
        rw [to_strs p (by omega) _ (by omega), to_strs q (by omega) _ (by omega)]
        simp only [Option.bind_some]
        rw [eq_strs p (by omega) _ (by omega), eq_strs q (by omega) _ (by omega)]
        have e2 : spec_HistOk.f p s q = impl_HistOk.f p s q := rfl
        rw [e2]
        have e3 : ∃ b, impl_HistOk.f p s q = some b := by
          unfold impl_HistOk.f
          split <;> exact ⟨_, rfl⟩
        obtain ⟨b, hb⟩ := e3
        rw [hb]
        simp

end Go.Proofs.Ytfgeinfkffmcbaa.Pure
