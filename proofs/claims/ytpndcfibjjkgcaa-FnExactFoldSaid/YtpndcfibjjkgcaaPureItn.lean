/- In plain Lean: how many items a value's cells are; what the law asks of its argument. No condition. -/
import Derived.Test.YtpndcfibjjkgcaaMyIts
import Derived.Test.YtpndcfibjjkgcaaMyItm
namespace Go.Proofs.Ytpndcfibjjkgcaa.PIfg
open Go Go.RowKit Go.Proofs.Ytpndcfibjjkgcaa.MyOpen Go.Proofs.Ytpndcfibjjkgcaa.MyClone
open Go.Proofs.YtpndcfibjjkgcaaW.PrintWords Go.Proofs.Ytpndcfibjjkgcaa.MyItc
set_option linter.unusedVariables false
mutual
def kE : Nat → S33 → Nat
  | 0, _ => 0
  | n + 1, x => rowN (kE n) x.f3 + (rowN (kD n) x.f4 + rowN (kA n) x.f5)
def kD : Nat → S68 → Nat
  | 0, _ => 0
  | n + 1, x => x.f1.length + (kE n x.f2 + rowN (kD n) x.f3)
def kA : Nat → S53 → Nat
  | 0, _ => 0
  | n + 1, x => x.f1.length + kE n x.f2
end
theorem sumN_map {α β : Type} (c : β → Nat) (f : α → β) : ∀ l : List α, sumN c (l.map f) = sumN (fun x => c (f x)) l
  | [] => rfl
  | x :: l => by simp only [List.map_cons, sumN, sumN_map c f l]
theorem sumN_mem {α : Type} (c : α → Nat) : ∀ {l : List α} {x : α}, x ∈ l → c x ≤ sumN c l
  | y :: l, x, h => by
    rcases List.mem_cons.1 h with rfl | h
    · simp only [sumN]; omega
    · have := sumN_mem c h
      simp only [sumN]; omega
theorem k_cv : ∀ n, (∀ x, kE n (cvE n x) = coE n x) ∧ (∀ x, kD n (cvD n x) = coD n x) ∧ (∀ x, kA n (cvA n x) = coA n x)
  | 0 => ⟨fun _ => rfl, fun _ => rfl, fun _ => rfl⟩
  | n + 1 => by
    obtain ⟨hE, hD, hA⟩ := k_cv n
    refine ⟨fun x => ?_, fun x => ?_, fun x => ?_⟩
    · simp only [kE, cvE, coE, rowN, List.length_map, sumN_map, funext hE, funext hD, funext hA]
    · simp only [kD, cvD, coD, rowN, List.length_map, sumN_map, hE, funext hD]
    · simp only [kA, cvA, coA, hE]
theorem szL_strs : ∀ l : List ByteArray, szL (l.map It.s) = l.length
  | [] => by simp [szL]
  | x :: l => by simp only [List.map_cons, szL, szI, szL_strs l, List.length_cons]; omega
theorem rowsE_le (c : S33 → Nat) : ∀ (l : List S33) (i : List It), RepEs l i → (∀ x ∈ l, ∀ j, RepE x j → szL j ≤ 6 + 9 * c x) → szL i ≤ 9 * rowN c l
  | [], i, h, _ => by cases h; simp [szL]
  | x :: l, i, h, hx => by
    cases h with
    | cons h0 h1 =>
      have a := hx x List.mem_cons_self _ h0
      have b := rowsE_le c l _ h1 (fun y hy => hx y (List.mem_cons_of_mem _ hy))
      simp only [rowN, List.length_cons, sumN, szL_app] at b ⊢
      omega
theorem rowsD_le (c : S68 → Nat) : ∀ (l : List S68) (i : List It), RepDs l i → (∀ x ∈ l, ∀ j, RepD x j → szL j ≤ 9 + 9 * c x) → szL i ≤ 9 * rowN c l
  | [], i, h, _ => by cases h; simp [szL]
  | x :: l, i, h, hx => by
    cases h with
    | cons h0 h1 =>
      have a := hx x List.mem_cons_self _ h0
      have b := rowsD_le c l _ h1 (fun y hy => hx y (List.mem_cons_of_mem _ hy))
      simp only [rowN, List.length_cons, sumN, szL_app] at b ⊢
      omega
theorem rowsA_le (c : S53 → Nat) : ∀ (l : List S53) (i : List It), RepAs l i → (∀ x ∈ l, ∀ j, RepA x j → szL j ≤ 8 + 9 * c x) → szL i ≤ 9 * rowN c l
  | [], i, h, _ => by cases h; simp [szL]
  | x :: l, i, h, hx => by
    cases h with
    | cons h0 h1 =>
      have a := hx x List.mem_cons_self _ h0
      have b := rowsA_le c l _ h1 (fun y hy => hx y (List.mem_cons_of_mem _ hy))
      simp only [rowN, List.length_cons, sumN, szL_app] at b ⊢
      omega
theorem sz_le : ∀ n, (∀ x, SqE n x → ∀ i, RepE x i → szL i ≤ 6 + 9 * kE n x) ∧ (∀ x, SqD n x → ∀ i, RepD x i → szL i ≤ 9 + 9 * kD n x) ∧ (∀ x, SqA n x → ∀ i, RepA x i → szL i ≤ 8 + 9 * kA n x)
  | 0 => ⟨fun _ h => by simp [SqE] at h, fun _ h => by simp [SqD] at h, fun _ h => by simp [SqA] at h⟩
  | n + 1 => by
    obtain ⟨hE, hD, hA⟩ := sz_le n
    refine ⟨fun x h i hr => ?_, fun x h i hr => ?_, fun x h i hr => ?_⟩
    · simp only [SqE] at h
      cases hr with
      | mk g3 g4 g5 =>
        have a := rowsE_le (kE n) _ _ g3 (fun y hy => hE y (h.1.2 y hy))
        have b := rowsD_le (kD n) _ _ g4 (fun y hy => hD y (h.2.1.2 y hy))
        have c := rowsA_le (kA n) _ _ g5 (fun y hy => hA y (h.2.2.2 y hy))
        simp only [szL, szI, kE]
        omega
    · simp only [SqD] at h
      cases hr with
      | mk gE g8 =>
        have a := hE _ h.2.1 _ gE
        have b := rowsD_le (kD n) _ _ g8 (fun y hy => hD y (h.2.2.2 y hy))
        simp only [szL, szI, szL_app, szL_strs, kD]
        omega
    · simp only [SqA] at h
      cases hr with
      | mk gE =>
        have a := hE _ h.2 _ gE
        simp only [szL, szI, szL_strs, kA]
        omega
theorem sq_up : ∀ n, (∀ x, SqE n x → SqE (n + 1) x) ∧ (∀ x, SqD n x → SqD (n + 1) x) ∧ (∀ x, SqA n x → SqA (n + 1) x)
  | 0 => ⟨fun _ h => by simp [SqE] at h, fun _ h => by simp [SqD] at h, fun _ h => by simp [SqA] at h⟩
  | n + 1 => by
    obtain ⟨hE, hD, hA⟩ := sq_up n
    refine ⟨fun x h => ?_, fun x h => ?_, fun x h => ?_⟩
    · rw [SqE] at h ⊢
      exact ⟨⟨h.1.1, fun y hy => hE y (h.1.2 y hy)⟩, ⟨h.2.1.1, fun y hy => hD y (h.2.1.2 y hy)⟩, ⟨h.2.2.1, fun y hy => hA y (h.2.2.2 y hy)⟩⟩
    · rw [SqD] at h ⊢
      exact ⟨h.1, hE _ h.2.1, ⟨h.2.2.1, fun y hy => hD y (h.2.2.2 y hy)⟩⟩
    · rw [SqA] at h ⊢
      exact ⟨h.1, hE _ h.2⟩
/-- What the functions make of an if. -/
abbrev tT : ByteArray := ⟨#[84, 114, 117, 101]⟩
abbrev tF : ByteArray := ⟨#[70, 97, 108, 115, 101]⟩
end Go.Proofs.Ytpndcfibjjkgcaa.PIfg
