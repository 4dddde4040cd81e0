/- In plain Lean: how many items a value's cells are; what the law asks of its argument. No condition. -/
import Derived.Test.YtpndcfibjjkgcaaPIfgc
import Derived.Test.YtpndcfibjjkgcaaPureItc
import Derived.Test.YtpndcfibjjkgcaaMyItm
namespace Go.Proofs.Ytpndcfibjjkgcaa.PIfg
open Go Go.RowKit Go.Proofs.Ytpndcfibjjkgcaa.MyOpen Go.Proofs.Ytpndcfibjjkgcaa.MyClone
open Go.Proofs.YtpndcfibjjkgcaaW.PrintWords Go.Proofs.Ytpndcfibjjkgcaa.MyItc
set_option linter.unusedVariables false
theorem can_case (y : S33) : ∃ b : Bool, spec_l21Can.f y.f0 y.f1 y.f2 y.f3 y.f4 y.f5 = some b ∧ impl_isCase.f y.f0 y.f1 y.f2 y.f3 y.f4 y.f5 = some b ∧ (b = true → y.f3.length = 1 ∧ y.f5.length = 2) := by
  have hb : ∀ o : Option Bool, (o.bind fun t => some t) = o := fun o => by cases o <;> rfl
  unfold spec_l21Can.f impl_isCase.f impl_isElse.f
  by_cases c1 : y.f0 = 7
  · by_cases c2 : (y.f3.length : Int) = 1
    · by_cases c3 : (y.f5.length : Int) = 2
      · have c4 : (0 : Int) < (y.f5.length : Int) := by omega
        have c5 : (1 : Int) < (y.f5.length : Int) := by omega
        have hl : y.f3.length = 1 ∧ y.f5.length = 2 := ⟨by omega, by omega⟩
        rw [if_pos c1, if_pos c2, if_pos c3, if_pos c4, if_pos c1, if_pos c2, if_pos c3, if_pos c4]
        by_cases c6 : (rd_T53 y.f5 0).f0.toList = ([84, 114, 117, 101] : List UInt8)
        · rw [if_pos c6, if_pos c6]
          by_cases c7 : ((rd_T53 y.f5 0).f1.length : Int) > 0
          · rw [if_pos c7, if_neg (by omega)]
            exact ⟨false, rfl, rfl, fun h => by cases h⟩
          · rw [if_neg c7, if_pos (show ((rd_T53 y.f5 0).f1.length : Int) = 0 by omega), if_pos c5, if_pos c5, hb]
            by_cases c8 : (rd_T53 y.f5 1).f0.toList = ([70, 97, 108, 115, 101] : List UInt8)
            · have n8 : ¬ (rd_T53 y.f5 1).f0.toList = ([] : List UInt8) := by rw [c8]; decide
              rw [if_pos c8, if_neg n8, if_neg n8, if_pos c8]
              by_cases c9 : ((rd_T53 y.f5 1).f1.length : Int) = 0
              · rw [if_pos c9]
                exact ⟨true, rfl, by rw [c9]; rfl, fun _ => hl⟩
              · rw [if_neg c9]
                exact ⟨false, rfl, by rw [beq_eq_false_iff_ne.mpr c9], fun h => by cases h⟩
            · rw [if_neg c8]
              by_cases c9 : (rd_T53 y.f5 1).f0.toList = ([] : List UInt8)
              · rw [if_pos c9, if_pos c9]
                by_cases d1 : ((rd_T53 y.f5 1).f1.length : Int) = 1
                · rw [if_pos d1, if_pos (by omega)]
                  exact ⟨_, rfl, rfl, fun _ => hl⟩
                · rw [if_neg d1]
                  exact ⟨false, rfl, rfl, fun h => by cases h⟩
              · rw [if_neg c9, if_neg c9, if_neg c8]
                exact ⟨false, rfl, rfl, fun h => by cases h⟩
        · rw [if_neg c6, if_neg c6]
          exact ⟨false, rfl, rfl, fun h => by cases h⟩
      · rw [if_pos c1, if_pos c2, if_neg c3, if_pos c1, if_pos c2, if_neg c3]
        exact ⟨false, rfl, rfl, fun h => by cases h⟩
    · rw [if_pos c1, if_neg c2, if_pos c1, if_neg c2]
      exact ⟨false, rfl, rfl, fun h => by cases h⟩
  · rw [if_neg c1, if_neg c1]
    exact ⟨false, rfl, rfl, fun h => by cases h⟩
mutual
def kE : Nat → S33 → Nat
  | 0, _ => 0
  | n + 1, x => rowN (kE n) x.f3 + (rowN (kD n) x.f4 + rowN (kA n) x.f5)
def kD : Nat → S68 → Nat
  | 0, _ => 0
  | n + 1, x => x.f1.length + (kE n x.f2 + rowN (kD n) x.f3)
def kA : Nat → S53 → Nat
  | 0, _ => 0
  | n + 1, x => x.f1.length + kE n x.f2
end
theorem sumN_map {α β : Type} (c : β → Nat) (f : α → β) : ∀ l : List α, sumN c (l.map f) = sumN (fun x => c (f x)) l
  | [] => rfl
  | x :: l => by simp only [List.map_cons, sumN, sumN_map c f l]
theorem sumN_mem {α : Type} (c : α → Nat) : ∀ {l : List α} {x : α}, x ∈ l → c x ≤ sumN c l
  | y :: l, x, h => by
    rcases List.mem_cons.1 h with rfl | h
    · simp only [sumN]; omega
    · have := sumN_mem c h
      simp only [sumN]; omega
theorem k_cv : ∀ n, (∀ x, kE n (cvE n x) = coE n x) ∧ (∀ x, kD n (cvD n x) = coD n x) ∧ (∀ x, kA n (cvA n x) = coA n x)
  | 0 => ⟨fun _ => rfl, fun _ => rfl, fun _ => rfl⟩
  | n + 1 => by
    obtain ⟨hE, hD, hA⟩ := k_cv n
    refine ⟨fun x => ?_, fun x => ?_, fun x => ?_⟩
    · simp only [kE, cvE, coE, rowN, List.length_map, sumN_map, funext hE, funext hD, funext hA]
    · simp only [kD, cvD, coD, rowN, List.length_map, sumN_map, hE, funext hD]
    · simp only [kA, cvA, coA, hE]
theorem szL_strs : ∀ l : List ByteArray, szL (l.map It.s) = l.length
  | [] => by simp [szL]
  | x :: l => by simp only [List.map_cons, szL, szI, szL_strs l, List.length_cons]; omega
theorem rowsE_le (c : S33 → Nat) : ∀ (l : List S33) (i : List It), RepEs l i → (∀ x ∈ l, ∀ j, RepE x j → szL j ≤ 6 + 9 * c x) → szL i ≤ 9 * rowN c l
  | [], i, h, _ => by cases h; simp [szL]
  | x :: l, i, h, hx => by
    cases h with
    | cons h0 h1 =>
      have a := hx x List.mem_cons_self _ h0
      have b := rowsE_le c l _ h1 (fun y hy => hx y (List.mem_cons_of_mem _ hy))
      simp only [rowN, List.length_cons, sumN, szL_app] at b ⊢
      omega
theorem rowsD_le (c : S68 → Nat) : ∀ (l : List S68) (i : List It), RepDs l i → (∀ x ∈ l, ∀ j, RepD x j → szL j ≤ 9 + 9 * c x) → szL i ≤ 9 * rowN c l
  | [], i, h, _ => by cases h; simp [szL]
  | x :: l, i, h, hx => by
    cases h with
    | cons h0 h1 =>
      have a := hx x List.mem_cons_self _ h0
      have b := rowsD_le c l _ h1 (fun y hy => hx y (List.mem_cons_of_mem _ hy))
      simp only [rowN, List.length_cons, sumN, szL_app] at b ⊢
      omega
theorem rowsA_le (c : S53 → Nat) : ∀ (l : List S53) (i : List It), RepAs l i → (∀ x ∈ l, ∀ j, RepA x j → szL j ≤ 8 + 9 * c x) → szL i ≤ 9 * rowN c l
  | [], i, h, _ => by cases h; simp [szL]
  | x :: l, i, h, hx => by
    cases h with
    | cons h0 h1 =>
      have a := hx x List.mem_cons_self _ h0
      have b := rowsA_le c l _ h1 (fun y hy => hx y (List.mem_cons_of_mem _ hy))
      simp only [rowN, List.length_cons, sumN, szL_app] at b ⊢
      omega
theorem sz_le : ∀ n, (∀ x, SqE n x → ∀ i, RepE x i → szL i ≤ 6 + 9 * kE n x) ∧ (∀ x, SqD n x → ∀ i, RepD x i → szL i ≤ 9 + 9 * kD n x) ∧ (∀ x, SqA n x → ∀ i, RepA x i → szL i ≤ 8 + 9 * kA n x)
  | 0 => ⟨fun _ h => by simp [SqE] at h, fun _ h => by simp [SqD] at h, fun _ h => by simp [SqA] at h⟩
  | n + 1 => by
    obtain ⟨hE, hD, hA⟩ := sz_le n
    refine ⟨fun x h i hr => ?_, fun x h i hr => ?_, fun x h i hr => ?_⟩
    · simp only [SqE] at h
      cases hr with
      | mk g3 g4 g5 =>
        have a := rowsE_le (kE n) _ _ g3 (fun y hy => hE y (h.1.2 y hy))
        have b := rowsD_le (kD n) _ _ g4 (fun y hy => hD y (h.2.1.2 y hy))
        have c := rowsA_le (kA n) _ _ g5 (fun y hy => hA y (h.2.2.2 y hy))
        simp only [szL, szI, kE]
        omega
    · simp only [SqD] at h
      cases hr with
      | mk gE g8 =>
        have a := hE _ h.2.1 _ gE
        have b := rowsD_le (kD n) _ _ g8 (fun y hy => hD y (h.2.2.2 y hy))
        simp only [szL, szI, szL_app, szL_strs, kD]
        omega
    · simp only [SqA] at h
      cases hr with
      | mk gE =>
        have a := hE _ h.2 _ gE
        simp only [szL, szI, szL_strs, kA]
        omega
theorem sq_up : ∀ n, (∀ x, SqE n x → SqE (n + 1) x) ∧ (∀ x, SqD n x → SqD (n + 1) x) ∧ (∀ x, SqA n x → SqA (n + 1) x)
  | 0 => ⟨fun _ h => by simp [SqE] at h, fun _ h => by simp [SqD] at h, fun _ h => by simp [SqA] at h⟩
  | n + 1 => by
    obtain ⟨hE, hD, hA⟩ := sq_up n
    refine ⟨fun x h => ?_, fun x h => ?_, fun x h => ?_⟩
    · rw [SqE] at h ⊢
      exact ⟨⟨h.1.1, fun y hy => hE y (h.1.2 y hy)⟩, ⟨h.2.1.1, fun y hy => hD y (h.2.1.2 y hy)⟩, ⟨h.2.2.1, fun y hy => hA y (h.2.2.2 y hy)⟩⟩
    · rw [SqD] at h ⊢
      exact ⟨h.1, hE _ h.2.1, ⟨h.2.2.1, fun y hy => hD y (h.2.2.2 y hy)⟩⟩
    · rw [SqA] at h ⊢
      exact ⟨h.1, hE _ h.2⟩
/-- What the functions make of a case. -/
def icB (y : S33) : Bool := (spec_l21Can.f y.f0 y.f1 y.f2 y.f3 y.f4 y.f5).getD false
def icR (y : S33) : S33 := if icB y = true then ⟨8, ⟨#[]⟩, 0, [rd_T33 y.f3 0, (rd_T53 y.f5 0).f2, (rd_T53 y.f5 1).f2], [], []⟩ else y
theorem ic_both (y : S33) : spec_l21Can.f y.f0 y.f1 y.f2 y.f3 y.f4 y.f5 = some (icB y) ∧ impl_isCase.f y.f0 y.f1 y.f2 y.f3 y.f4 y.f5 = some (icB y) ∧ (icB y = true → y.f3.length = 1 ∧ y.f5.length = 2) := by
  obtain ⟨b, h1, h2, h3⟩ := can_case y
  have e : icB y = b := by unfold icB; rw [h1]; rfl
  rw [e]
  exact ⟨h1, h2, h3⟩
theorem sqA_f2 {n : Nat} {z : S53} (h : SqA n z) : SqE n z.f2 ∧ ∀ i, RepE z.f2 i → szL i ≤ 6 + 9 * kA n z := by
  cases n with
  | zero => simp [SqA] at h
  | succ n =>
    rw [SqA] at h
    refine ⟨(sq_up n).1 _ h.2, fun i hi => ?_⟩
    have := (sz_le n).1 _ h.2 i hi
    rw [kA]
    omega
/-- What the walk of the law asks of a value that was made of its argument. -/
structure Fine (n : Nat) (y : S33) : Prop where
  sq : LE n y.f3 ∧ LD n y.f4 ∧ LA n y.f5
  ic : LE (n + 1) (icR y).f3 ∧ LD (n + 1) (icR y).f4 ∧ LA (n + 1) (icR y).f5
  few0 : ∀ i3 i4 i5, RepEs y.f3 i3 → RepDs y.f4 i4 → RepAs y.f5 i5 → szL i3 + szL i4 + szL i5 ≤ 1000000000
  few : ∀ i3 i4 i5, RepEs (icR y).f3 i3 → RepDs (icR y).f4 i4 → RepAs (icR y).f5 i5 → szL i3 + szL i4 + szL i5 ≤ 1000000000
theorem fine {n : Nat} {y : S33} (h : SqE (n + 1) y) (hk : kE (n + 1) y ≤ 1048576) : Fine n y := by
  rw [SqE] at h
  rw [kE] at hk
  obtain ⟨hE, hD, hA⟩ := sz_le n
  refine ⟨h, ?_, fun i3 i4 i5 h3 h4 h5 => ?_, fun i3 i4 i5 h3 h4 h5 => ?_⟩
  · unfold icR
    split
    · rename_i hc
      have hl := (ic_both y).2.2 hc
      have m0 : rd_T33 y.f3 0 ∈ y.f3 := rd33_mem _ _ 0 rfl (by omega)
      have m1 : rd_T53 y.f5 0 ∈ y.f5 := rd53_mem _ _ 0 rfl (by omega)
      have m2 : rd_T53 y.f5 1 ∈ y.f5 := rd53_mem _ _ 1 rfl (by omega)
      refine ⟨⟨by simp, fun z hz => (sq_up n).1 z ?_⟩, ⟨by simp, fun z hz => by simp at hz⟩, ⟨by simp, fun z hz => by simp at hz⟩⟩
      simp only [List.mem_cons, List.not_mem_nil, or_false] at hz
      rcases hz with rfl | rfl | rfl
      · exact h.1.2 _ m0
      · exact (sqA_f2 (h.2.2.2 _ m1)).1
      · exact (sqA_f2 (h.2.2.2 _ m2)).1
    · exact ⟨⟨h.1.1, fun z hz => (sq_up n).1 z (h.1.2 z hz)⟩, ⟨h.2.1.1, fun z hz => (sq_up n).2.1 z (h.2.1.2 z hz)⟩, ⟨h.2.2.1, fun z hz => (sq_up n).2.2 z (h.2.2.2 z hz)⟩⟩
  · have a := rowsE_le (kE n) _ _ h3 (fun z hz => hE z (h.1.2 z hz))
    have b := rowsD_le (kD n) _ _ h4 (fun z hz => hD z (h.2.1.2 z hz))
    have c := rowsA_le (kA n) _ _ h5 (fun z hz => hA z (h.2.2.2 z hz))
    omega
  · unfold icR at h3 h4 h5
    split at h3
    · rename_i hc
      rw [if_pos hc] at h4 h5
      have hl := (ic_both y).2.2 hc
      have m0 : rd_T33 y.f3 0 ∈ y.f3 := rd33_mem _ _ 0 rfl (by omega)
      have m1 : rd_T53 y.f5 0 ∈ y.f5 := rd53_mem _ _ 0 rfl (by omega)
      have m2 : rd_T53 y.f5 1 ∈ y.f5 := rd53_mem _ _ 1 rfl (by omega)
      have q0 := sumN_mem (kE n) m0
      have q1 := sumN_mem (kA n) m1
      have q2 := sumN_mem (kA n) m2
      simp only [rowN] at hk
      have a := rowsE_le (fun _ => 1048576) _ _ h3 (fun z hz j hj => by
        simp only [List.mem_cons, List.not_mem_nil, or_false] at hz
        rcases hz with rfl | rfl | rfl
        · have := hE _ (h.1.2 _ m0) j hj
          omega
        · have := (sqA_f2 (h.2.2.2 _ m1)).2 j hj
          omega
        · have := (sqA_f2 (h.2.2.2 _ m2)).2 j hj
          omega)
      cases h4
      cases h5
      simp only [rowN, sumN, List.length_cons, List.length_nil, szL] at a ⊢
      omega
    · rename_i hc
      rw [if_neg hc] at h4 h5
      have a := rowsE_le (kE n) _ _ h3 (fun z hz => hE z (h.1.2 z hz))
      have b := rowsD_le (kD n) _ _ h4 (fun z hz => hD z (h.2.1.2 z hz))
      have c := rowsA_le (kA n) _ _ h5 (fun z hz => hA z (h.2.2.2 z hz))
      omega
/-- What the law's argument comes to. -/
theorem law_fine (x : S26) (hx : ∃ n, FitE n x) : ∃ (m : Nat) (t : Int), laws_szExp.f m x.f0 x.f1 x.f2 x.f3 x.f4 x.f5 1048576 = some t ∧ (0 ≤ t → ∃ (n k : Nat) (y : S33), laws_toExp.f k x.f0 x.f1 x.f2 x.f3 x.f4 x.f5 = some (y.f0, y.f1, y.f2, y.f3, y.f4, y.f5) ∧ Fine n y) := by
  obtain ⟨n, hn⟩ := hx
  obtain ⟨r, ⟨m, hr⟩, _, _, hS⟩ := (sz_all n).1 x hn 1048576 (by omega) (by omega)
  refine ⟨m, r, hr m (Nat.le_refl _), fun h => ?_⟩
  obtain ⟨hs, hc⟩ := hS h
  obtain ⟨k, hk⟩ := (to_all n).1 x hs
  have hq := (sq_all n).1 x hs
  cases n with
  | zero => simp [FitE] at hn
  | succ n => exact ⟨n, k, cvE (n + 1) x, hk k (Nat.le_refl _), fine hq (by rw [(k_cv (n + 1)).1 x]; omega)⟩
end Go.Proofs.Ytpndcfibjjkgcaa.PIfg
