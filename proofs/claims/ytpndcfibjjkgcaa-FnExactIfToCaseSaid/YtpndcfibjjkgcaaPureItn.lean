/- In plain Lean: how many items a value's cells are; what the law asks of its argument. No condition. -/
import Derived.Test.YtpndcfibjjkgcaaPureItc
import Derived.Test.YtpndcfibjjkgcaaMyItm
namespace Go.Proofs.Ytpndcfibjjkgcaa.PIfg
open Go Go.RowKit Go.Proofs.Ytpndcfibjjkgcaa.MyOpen Go.Proofs.Ytpndcfibjjkgcaa.MyClone
open Go.Proofs.YtpndcfibjjkgcaaW.PrintWords Go.Proofs.Ytpndcfibjjkgcaa.MyItc
set_option linter.unusedVariables false
mutual
def kE : Nat → S33 → Nat
  | 0, _ => 0
  | n + 1, x => rowN (kE n) x.f3 + (rowN (kD n) x.f4 + rowN (kA n) x.f5)
def kD : Nat → S68 → Nat
  | 0, _ => 0
  | n + 1, x => x.f1.length + (kE n x.f2 + rowN (kD n) x.f3)
def kA : Nat → S53 → Nat
  | 0, _ => 0
  | n + 1, x => x.f1.length + kE n x.f2
end
theorem sumN_map {α β : Type} (c : β → Nat) (f : α → β) : ∀ l : List α, sumN c (l.map f) = sumN (fun x => c (f x)) l
  | [] => rfl
  | x :: l => by simp only [List.map_cons, sumN, sumN_map c f l]
theorem sumN_mem {α : Type} (c : α → Nat) : ∀ {l : List α} {x : α}, x ∈ l → c x ≤ sumN c l
  | y :: l, x, h => by
    rcases List.mem_cons.1 h with rfl | h
    · simp only [sumN]; omega
    · have := sumN_mem c h
      simp only [sumN]; omega
theorem k_cv : ∀ n, (∀ x, kE n (cvE n x) = coE n x) ∧ (∀ x, kD n (cvD n x) = coD n x) ∧ (∀ x, kA n (cvA n x) = coA n x)
  | 0 => ⟨fun _ => rfl, fun _ => rfl, fun _ => rfl⟩
  | n + 1 => by
    obtain ⟨hE, hD, hA⟩ := k_cv n
    refine ⟨fun x => ?_, fun x => ?_, fun x => ?_⟩
    · simp only [kE, cvE, coE, rowN, List.length_map, sumN_map, funext hE, funext hD, funext hA]
    · simp only [kD, cvD, coD, rowN, List.length_map, sumN_map, hE, funext hD]
    · simp only [kA, cvA, coA, hE]
theorem szL_strs : ∀ l : List ByteArray, szL (l.map It.s) = l.length
  | [] => by simp [szL]
  | x :: l => by simp only [List.map_cons, szL, szI, szL_strs l, List.length_cons]; omega
theorem rowsE_le (c : S33 → Nat) : ∀ (l : List S33) (i : List It), RepEs l i → (∀ x ∈ l, ∀ j, RepE x j → szL j ≤ 6 + 9 * c x) → szL i ≤ 9 * rowN c l
  | [], i, h, _ => by cases h; simp [szL]
  | x :: l, i, h, hx => by
    cases h with
    | cons h0 h1 =>
      have a := hx x List.mem_cons_self _ h0
      have b := rowsE_le c l _ h1 (fun y hy => hx y (List.mem_cons_of_mem _ hy))
      simp only [rowN, List.length_cons, sumN, szL_app] at b ⊢
      omega
theorem rowsD_le (c : S68 → Nat) : ∀ (l : List S68) (i : List It), RepDs l i → (∀ x ∈ l, ∀ j, RepD x j → szL j ≤ 9 + 9 * c x) → szL i ≤ 9 * rowN c l
  | [], i, h, _ => by cases h; simp [szL]
  | x :: l, i, h, hx => by
    cases h with
    | cons h0 h1 =>
      have a := hx x List.mem_cons_self _ h0
      have b := rowsD_le c l _ h1 (fun y hy => hx y (List.mem_cons_of_mem _ hy))
      simp only [rowN, List.length_cons, sumN, szL_app] at b ⊢
      omega
theorem rowsA_le (c : S53 → Nat) : ∀ (l : List S53) (i : List It), RepAs l i → (∀ x ∈ l, ∀ j, RepA x j → szL j ≤ 8 + 9 * c x) → szL i ≤ 9 * rowN c l
  | [], i, h, _ => by cases h; simp [szL]
  | x :: l, i, h, hx => by
    cases h with
    | cons h0 h1 =>
      have a := hx x List.mem_cons_self _ h0
      have b := rowsA_le c l _ h1 (fun y hy => hx y (List.mem_cons_of_mem _ hy))
      simp only [rowN, List.length_cons, sumN, szL_app] at b ⊢
      omega
theorem sz_le : ∀ n, (∀ x, SqE n x → ∀ i, RepE x i → szL i ≤ 6 + 9 * kE n x) ∧ (∀ x, SqD n x → ∀ i, RepD x i → szL i ≤ 9 + 9 * kD n x) ∧ (∀ x, SqA n x → ∀ i, RepA x i → szL i ≤ 8 + 9 * kA n x)
  | 0 => ⟨fun _ h => by simp [SqE] at h, fun _ h => by simp [SqD] at h, fun _ h => by simp [SqA] at h⟩
  | n + 1 => by
    obtain ⟨hE, hD, hA⟩ := sz_le n
    refine ⟨fun x h i hr => ?_, fun x h i hr => ?_, fun x h i hr => ?_⟩
    · simp only [SqE] at h
      cases hr with
      | mk g3 g4 g5 =>
        have a := rowsE_le (kE n) _ _ g3 (fun y hy => hE y (h.1.2 y hy))
        have b := rowsD_le (kD n) _ _ g4 (fun y hy => hD y (h.2.1.2 y hy))
        have c := rowsA_le (kA n) _ _ g5 (fun y hy => hA y (h.2.2.2 y hy))
        simp only [szL, szI, kE]
        omega
    · simp only [SqD] at h
      cases hr with
      | mk gE g8 =>
        have a := hE _ h.2.1 _ gE
        have b := rowsD_le (kD n) _ _ g8 (fun y hy => hD y (h.2.2.2 y hy))
        simp only [szL, szI, szL_app, szL_strs, kD]
        omega
    · simp only [SqA] at h
      cases hr with
      | mk gE =>
        have a := hE _ h.2 _ gE
        simp only [szL, szI, szL_strs, kA]
        omega
theorem sq_up : ∀ n, (∀ x, SqE n x → SqE (n + 1) x) ∧ (∀ x, SqD n x → SqD (n + 1) x) ∧ (∀ x, SqA n x → SqA (n + 1) x)
  | 0 => ⟨fun _ h => by simp [SqE] at h, fun _ h => by simp [SqD] at h, fun _ h => by simp [SqA] at h⟩
  | n + 1 => by
    obtain ⟨hE, hD, hA⟩ := sq_up n
    refine ⟨fun x h => ?_, fun x h => ?_, fun x h => ?_⟩
    · rw [SqE] at h ⊢
      exact ⟨⟨h.1.1, fun y hy => hE y (h.1.2 y hy)⟩, ⟨h.2.1.1, fun y hy => hD y (h.2.1.2 y hy)⟩, ⟨h.2.2.1, fun y hy => hA y (h.2.2.2 y hy)⟩⟩
    · rw [SqD] at h ⊢
      exact ⟨h.1, hE _ h.2.1, ⟨h.2.2.1, fun y hy => hD y (h.2.2.2 y hy)⟩⟩
    · rw [SqA] at h ⊢
      exact ⟨h.1, hE _ h.2⟩
/-- What the functions make of an if. -/
abbrev tT : ByteArray := ⟨#[84, 114, 117, 101]⟩
abbrev tF : ByteArray := ⟨#[70, 97, 108, 115, 101]⟩
def icR (y : S33) : S33 := if y.f0 = 8 ∧ y.f3.length = 3 then ⟨7, ⟨#[]⟩, 0, [rd_T33 y.f3 0], [], [⟨tT, [], rd_T33 y.f3 1⟩, ⟨tF, [], rd_T33 y.f3 2⟩]⟩ else y
def icB (y : S33) : Bool := decide (y.f0 = 8 ∧ y.f3.length = 3)
/-- What the walk of the law asks of a value that was made of its argument. -/
structure Fine (n : Nat) (y : S33) : Prop where
  sq : LE n y.f3 ∧ LD n y.f4 ∧ LA n y.f5
  ic : LE (n + 1) (icR y).f3 ∧ LD (n + 1) (icR y).f4 ∧ LA (n + 1) (icR y).f5
  few0 : ∀ i3 i4 i5, RepEs y.f3 i3 → RepDs y.f4 i4 → RepAs y.f5 i5 → szL i3 + szL i4 + szL i5 ≤ 1000000000
  few : ∀ i3 i4 i5, RepEs (icR y).f3 i3 → RepDs (icR y).f4 i4 → RepAs (icR y).f5 i5 → szL i3 + szL i4 + szL i5 ≤ 1000000000
theorem fine {n : Nat} {y : S33} (h : SqE (n + 1) y) (hk : kE (n + 1) y ≤ 1048576) : Fine n y := by
  rw [SqE] at h
  obtain ⟨hE, hD, hA⟩ := sz_le n
  refine ⟨h, ?_, fun i3 i4 i5 h3 h4 h5 => ?_, fun i3 i4 i5 h3 h4 h5 => ?_⟩
  · unfold icR
    split
    · rename_i hc
      have m : ∀ j : Nat, j < 3 → SqE n (rd_T33 y.f3 (j : Int)) := fun j hj => h.1.2 _ (rd33_mem _ _ j rfl (by omega))
      refine ⟨⟨by simp, fun z hz => ?_⟩, ⟨by simp, fun z hz => by simp at hz⟩, ⟨by simp, fun z hz => ?_⟩⟩
      · obtain rfl := List.mem_singleton.1 hz
        exact (sq_up n).1 _ (m 0 (by omega))
      · rcases List.mem_cons.1 hz with rfl | hz
        · rw [SqA]
          exact ⟨by simp, m 1 (by omega)⟩
        · obtain rfl := List.mem_singleton.1 hz
          rw [SqA]
          exact ⟨by simp, m 2 (by omega)⟩
    · exact ⟨⟨h.1.1, fun z hz => (sq_up n).1 z (h.1.2 z hz)⟩, ⟨h.2.1.1, fun z hz => (sq_up n).2.1 z (h.2.1.2 z hz)⟩, ⟨h.2.2.1, fun z hz => (sq_up n).2.2 z (h.2.2.2 z hz)⟩⟩
  · rw [kE] at hk
    have a := rowsE_le (kE n) _ _ h3 (fun z hz => hE z (h.1.2 z hz))
    have b := rowsD_le (kD n) _ _ h4 (fun z hz => hD z (h.2.1.2 z hz))
    have c := rowsA_le (kA n) _ _ h5 (fun z hz => hA z (h.2.2.2 z hz))
    omega
  · unfold icR at h3 h4 h5
    rw [kE] at hk
    split at h3
    · rename_i hc
      rw [if_pos hc] at h4 h5
      have m : ∀ j : Nat, j < 3 → rd_T33 y.f3 (j : Int) ∈ y.f3 := fun j hj => rd33_mem _ _ j rfl (by omega)
      have q : ∀ j : Nat, j < 3 → kE n (rd_T33 y.f3 (j : Int)) ≤ 1048576 := fun j hj => by
        have := sumN_mem (kE n) (m j hj)
        simp only [rowN] at hk
        omega
      have a := rowsE_le (kE n) _ _ h3 (fun z hz => by
        obtain rfl := List.mem_singleton.1 hz
        exact hE _ (h.1.2 _ (m 0 (by omega))))
      have c := rowsA_le (kA (n + 1)) _ _ h5 (fun z hz => by
        refine (sz_le (n + 1)).2.2 z ?_
        rcases List.mem_cons.1 hz with rfl | hz
        · rw [SqA]
          exact ⟨by simp, h.1.2 _ (m 1 (by omega))⟩
        · obtain rfl := List.mem_singleton.1 hz
          rw [SqA]
          exact ⟨by simp, h.1.2 _ (m 2 (by omega))⟩)
      cases h4
      have q0 := q 0 (by omega)
      have q1 := q 1 (by omega)
      have q2 := q 2 (by omega)
      simp only [rowN, sumN, List.length_cons, List.length_nil, kA, szL] at a c ⊢
      simp only [Int.natCast_zero, Int.natCast_one] at q0 q1
      have q2' : kE n (rd_T33 y.f3 2) ≤ 1048576 := q2
      have q1' : kE n (rd_T33 y.f3 1) ≤ 1048576 := q1
      have q0' : kE n (rd_T33 y.f3 0) ≤ 1048576 := q0
      omega
    · rename_i hc
      rw [if_neg hc] at h4 h5
      have a := rowsE_le (kE n) _ _ h3 (fun z hz => hE z (h.1.2 z hz))
      have b := rowsD_le (kD n) _ _ h4 (fun z hz => hD z (h.2.1.2 z hz))
      have c := rowsA_le (kA n) _ _ h5 (fun z hz => hA z (h.2.2.2 z hz))
      omega
/-- What the law's argument comes to. -/
theorem law_fine (x : S26) (hx : ∃ n, FitE n x) : ∃ (m : Nat) (t : Int), laws_szExp.f m x.f0 x.f1 x.f2 x.f3 x.f4 x.f5 1048576 = some t ∧ (0 ≤ t → ∃ (n k : Nat) (y : S33), laws_toExp.f k x.f0 x.f1 x.f2 x.f3 x.f4 x.f5 = some (y.f0, y.f1, y.f2, y.f3, y.f4, y.f5) ∧ Fine n y) := by
  obtain ⟨n, hn⟩ := hx
  obtain ⟨r, ⟨m, hr⟩, _, _, hS⟩ := (sz_all n).1 x hn 1048576 (by omega) (by omega)
  refine ⟨m, r, hr m (Nat.le_refl _), fun h => ?_⟩
  obtain ⟨hs, hc⟩ := hS h
  obtain ⟨k, hk⟩ := (to_all n).1 x hs
  have hq := (sq_all n).1 x hs
  cases n with
  | zero => simp [FitE] at hn
  | succ n => exact ⟨n, k, cvE (n + 1) x, hk k (Nat.le_refl _), fine hq (by rw [(k_cv (n + 1)).1 x]; omega)⟩
end Go.Proofs.Ytpndcfibjjkgcaa.PIfg
