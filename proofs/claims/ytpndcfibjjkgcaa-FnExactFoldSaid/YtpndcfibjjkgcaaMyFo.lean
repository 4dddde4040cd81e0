/- What Fold makes of a value, in plain Lean. No condition. -/
import Derived.Test.YtpndcfibjjkgcaaPureItn
namespace Go.Proofs.Ytpndcfibjjkgcaa.PIfg
open Go Go.RowKit Go.Proofs.Ytpndcfibjjkgcaa.MyOpen
open Go.Proofs.YtpndcfibjjkgcaaW.PrintWords Go.Proofs.Ytpndcfibjjkgcaa.MyItc
set_option linter.unusedVariables false
def truth (b : Bool) : S33 := ⟨2, if b = true then tT else tF, 0, [], [], []⟩
def num (n : Int) : S33 := ⟨3, ⟨#[]⟩, n, [], [], []⟩
def fopN (s : ByteArray) (a b : Int) : Int := if s.toList = ([43] : List UInt8) then Int.tmod (wrap64 (a + b)) 1000000 else if s.toList = ([45] : List UInt8) then Int.tmod (wrap64 (a - b)) 1000000 else if s.toList = ([42] : List UInt8) then Int.tmod (wrap64 (a * b)) 1000000 else -1
def fop (s : ByteArray) (a b : Int) : Option S33 := if s.toList = ([61, 61] : List UInt8) then some (truth (a == b)) else if s.toList = ([60] : List UInt8) then some (truth (decide (a < b))) else if fopN s a b < 0 then none else some (num (fopN s a b))
/-- A value whose parts are folded, folded. -/
def one (y : S33) : S33 :=
  if y.f0 = 9 ∧ y.f3.length = 2 ∧ (rd_T33 y.f3 0).f0 = 3 ∧ (rd_T33 y.f3 1).f0 = 3 then (fop y.f1 (rd_T33 y.f3 0).f2 (rd_T33 y.f3 1).f2).getD y
  else if y.f0 = 8 ∧ y.f3.length = 3 ∧ (rd_T33 y.f3 0).f0 = 2 then (if (rd_T33 y.f3 0).f1.toList = ([84, 114, 117, 101] : List UInt8) then rd_T33 y.f3 1 else if (rd_T33 y.f3 0).f1.toList = ([70, 97, 108, 115, 101] : List UInt8) then rd_T33 y.f3 2 else y)
  else y
mutual
def gE : Nat → S33 → S33
  | 0, x => x
  | n + 1, x => one ⟨x.f0, x.f1, x.f2, x.f3.map (gE n), x.f4.map (gD n), x.f5.map (gA n)⟩
def gD : Nat → S68 → S68
  | 0, x => x
  | n + 1, x => ⟨x.f0, x.f1, gE n x.f2, x.f3.map (gD n)⟩
def gA : Nat → S53 → S53
  | 0, x => x
  | n + 1, x => ⟨x.f0, x.f1, gE n x.f2⟩
end
/-- What comes out is an own value, the value itself, or one of its row. -/
theorem one_cases (y : S33) : one y = y ∨ (∃ j : Nat, j < y.f3.length ∧ one y = rd_T33 y.f3 (j : Int)) ∨ ((one y).f3 = [] ∧ (one y).f4 = [] ∧ (one y).f5 = []) := by
  unfold one
  split
  · rename_i h
    unfold fop
    split
    · exact .inr (.inr ⟨rfl, rfl, rfl⟩)
    · split
      · exact .inr (.inr ⟨rfl, rfl, rfl⟩)
      · split
        · exact .inl rfl
        · exact .inr (.inr ⟨rfl, rfl, rfl⟩)
  · split
    · rename_i h
      split
      · exact .inr (.inl ⟨1, by omega, rfl⟩)
      · split
        · exact .inr (.inl ⟨2, by omega, rfl⟩)
        · exact .inl rfl
    · exact .inl rfl
theorem one_sq {n : Nat} {y : S33} (h : SqE (n + 1) y) : SqE (n + 1) (one y) := by
  rcases one_cases y with e | ⟨j, hj, e⟩ | ⟨h3, h4, h5⟩
  · rwa [e]
  · rw [e]
    rw [SqE] at h
    exact (sq_up n).1 _ (h.1.2 _ (rd33_mem _ _ j rfl hj))
  · rw [SqE, h3, h4, h5]
    exact ⟨⟨by simp, fun z hz => by simp at hz⟩, ⟨by simp, fun z hz => by simp at hz⟩, ⟨by simp, fun z hz => by simp at hz⟩⟩
theorem g_sq : ∀ n, (∀ x, SqE n x → SqE n (gE n x)) ∧ (∀ x, SqD n x → SqD n (gD n x)) ∧ (∀ x, SqA n x → SqA n (gA n x))
  | 0 => ⟨fun _ h => h, fun _ h => h, fun _ h => h⟩
  | n + 1 => by
    obtain ⟨hE, hD, hA⟩ := g_sq n
    refine ⟨fun x h => ?_, fun x h => ?_, fun x h => ?_⟩
    · rw [SqE] at h
      rw [gE]
      refine one_sq ?_
      rw [SqE]
      exact ⟨all_map hE h.1, all_map hD h.2.1, all_map hA h.2.2⟩
    · rw [SqD] at h
      rw [gD, SqD]
      exact ⟨h.1, hE _ h.2.1, all_map hD h.2.2⟩
    · rw [SqA] at h
      rw [gA, SqA]
      exact ⟨h.1, hE _ h.2⟩
theorem sumN_congr {α : Type} {c d : α → Nat} : ∀ {l : List α}, (∀ x ∈ l, c x = d x) → sumN c l = sumN d l
  | [], _ => rfl
  | x :: l, h => by simp only [sumN]; rw [h x List.mem_cons_self, sumN_congr (fun y hy => h y (List.mem_cons_of_mem _ hy))]
theorem sumN_maps {α β : Type} {c : β → Nat} {d : α → Nat} {f : α → β} : ∀ {l : List α}, (∀ x ∈ l, c (f x) ≤ d x) → sumN c (l.map f) ≤ sumN d l
  | [], _ => Nat.le_refl _
  | x :: l, h => by
    have a := h x List.mem_cons_self
    have b := sumN_maps (fun y hy => h y (List.mem_cons_of_mem _ hy)) (c := c) (d := d) (f := f) (l := l)
    simp only [List.map_cons, sumN]
    omega
theorem k_up : ∀ n, (∀ x, SqE n x → kE (n + 1) x = kE n x) ∧ (∀ x, SqD n x → kD (n + 1) x = kD n x) ∧ (∀ x, SqA n x → kA (n + 1) x = kA n x)
  | 0 => ⟨fun _ h => by simp [SqE] at h, fun _ h => by simp [SqD] at h, fun _ h => by simp [SqA] at h⟩
  | n + 1 => by
    obtain ⟨hE, hD, hA⟩ := k_up n
    refine ⟨fun x h => ?_, fun x h => ?_, fun x h => ?_⟩
    · rw [SqE] at h
      rw [kE, kE.eq_2 x n]
      simp only [rowN]
      rw [sumN_congr (fun y hy => hE y (h.1.2 y hy)), sumN_congr (fun y hy => hD y (h.2.1.2 y hy)), sumN_congr (fun y hy => hA y (h.2.2.2 y hy))]
    · rw [SqD] at h
      rw [kD, kD.eq_2 x n]
      simp only [rowN]
      rw [hE _ h.2.1, sumN_congr (fun y hy => hD y (h.2.2.2 y hy))]
    · rw [SqA] at h
      rw [kA, kA.eq_2 x n, hE _ h.2]
theorem one_k {n : Nat} {y : S33} (h : SqE (n + 1) y) : kE (n + 1) (one y) ≤ kE (n + 1) y := by
  rcases one_cases y with e | ⟨j, hj, e⟩ | ⟨h3, h4, h5⟩
  · rw [e]
    exact Nat.le_refl _
  · rw [e]
    rw [SqE] at h
    have hm := rd33_mem y.f3 _ j rfl hj
    rw [(k_up n).1 _ (h.1.2 _ hm), kE.eq_2 y n]
    have := sumN_mem (kE n) hm
    simp only [rowN]
    omega
  · rw [kE, h3, h4, h5]
    simp only [rowN, sumN, List.length_nil]
    omega
theorem g_k : ∀ n, (∀ x, SqE n x → kE n (gE n x) ≤ kE n x) ∧ (∀ x, SqD n x → kD n (gD n x) ≤ kD n x) ∧ (∀ x, SqA n x → kA n (gA n x) ≤ kA n x)
  | 0 => ⟨fun _ _ => Nat.le_refl _, fun _ _ => Nat.le_refl _, fun _ _ => Nat.le_refl _⟩
  | n + 1 => by
    obtain ⟨hE, hD, hA⟩ := g_k n
    obtain ⟨sE, sD, sA⟩ := g_sq n
    refine ⟨fun x h => ?_, fun x h => ?_, fun x h => ?_⟩
    · rw [SqE] at h
      rw [gE]
      refine Nat.le_trans (one_k ?_) ?_
      · rw [SqE]
        exact ⟨all_map sE h.1, all_map sD h.2.1, all_map sA h.2.2⟩
      · rw [kE, kE.eq_2 x n]
        have a := sumN_maps (c := kE n) (f := gE n) (fun y hy => hE y (h.1.2 y hy))
        have b := sumN_maps (c := kD n) (f := gD n) (fun y hy => hD y (h.2.1.2 y hy))
        have c := sumN_maps (c := kA n) (f := gA n) (fun y hy => hA y (h.2.2.2 y hy))
        simp only [rowN, List.length_map]
        omega
    · rw [SqD] at h
      rw [gD, kD, kD.eq_2 x n]
      have a := hE _ h.2.1
      have b := sumN_maps (c := kD n) (f := gD n) (fun y hy => hD y (h.2.2.2 y hy))
      simp only [rowN, List.length_map]
      omega
    · rw [SqA] at h
      rw [gA, kA, kA.eq_2 x n]
      have a := hE _ h.2
      show x.f1.length + kE n (gE n x.f2) ≤ _
      omega
end Go.Proofs.Ytpndcfibjjkgcaa.PIfg
namespace Go.Proofs.Ytpndcfibjjkgcaa.MyItc
open Go Go.RowKit Go.Proofs.YtpndcfibjjkgcaaW.PrintWords Go.Proofs.YtpndcfibjjkgcaaW.PrintLast Go.Proofs.YtpndcfibjjkgcaaW.PrintMore Go.Proofs.Ytpndcfibjjkgcaa.PIfg
set_option linter.unusedVariables false
abbrev CF : Value := .func (.func 22) #[] #[]
abbrev BackY (lo : Nat) (z : S33) (w : World) (e : Ending) (w' : World) : Prop := ∃ (A3 : Option Addr) (c3 : Nat) (i3 : List It) (A4 : Option Addr) (c4 : Nat) (i4 : List It) (A5 : Option Addr) (c5 : Nat) (i5 : List It), e = .returned (.agg #[.int .i64 z.f0, .string z.f1, .int .i64 z.f2, .slice A3 z.f3.length c3, .slice A4 z.f4.length c4, .slice A5 z.f5.length c5]) ∧ CopE lo w' z.f3 z.f4 z.f5 A3 c3 i3 A4 c4 i4 A5 c5 i5 ∧ Below w.heap.size w w'
abbrev FE (n : Nat) : Prop := ∀ (y : S33) (A3 : Option Addr) (c3 : Nat) (A4 : Option Addr) (c4 : Nat) (A5 : Option Addr) (c5 : Nat) (w : World), ArgE w A3 c3 y.f3 A4 c4 y.f4 A5 c5 y.f5 → SqE n y →
  Calls Try.prog 22 #[.agg #[.int .i64 y.f0, .string y.f1, .int .i64 y.f2, .slice A3 y.f3.length c3, .slice A4 y.f4.length c4, .slice A5 y.f5.length c5]] w (BackY w.heap.size (gE n y) w)
abbrev FD (n : Nat) : Prop := ∀ (A0 : Option Addr) (c0 : Nat) (l0 : List S68) (w : World), Kd.C k68 w A0 l0.length l0 → l0.length ≤ c0 → LD n l0 →
  Calls Try.prog 65 #[.slice A0 l0.length c0, CF] w fun e w' => ∃ (A1 : Option Addr) (c1 : Nat) (i1 : List It), e = .returned (.slice A1 (l0.map (gD n)).length c1) ∧ CopD w.heap.size w' (l0.map (gD n)) A1 c1 i1 ∧ Below w.heap.size w w'
abbrev FM (n : Nat) : Prop := ∀ (a0_0 : Int) (a0_1 : ByteArray) (a0_2 : Int) (A0_3 : Option Addr) (c0_3 : Nat) (l0_3 : List S33) (A0_4 : Option Addr) (c0_4 : Nat) (l0_4 : List S68) (A0_5 : Option Addr) (c0_5 : Nat) (l0_5 : List S53) (w : World), ArgE w A0_3 c0_3 l0_3 A0_4 c0_4 l0_4 A0_5 c0_5 l0_5 → LE n l0_3 ∧ LD n l0_4 ∧ LA n l0_5 →
  Calls Try.prog 48 #[.agg #[.int .i64 a0_0, .string a0_1, .int .i64 a0_2, .slice A0_3 l0_3.length c0_3, .slice A0_4 l0_4.length c0_4, .slice A0_5 l0_5.length c0_5], CF] w (BackE w.heap.size a0_0 a0_1 a0_2 (l0_3.map (gE n)) (l0_4.map (gD n)) (l0_5.map (gA n)) w)
end Go.Proofs.Ytpndcfibjjkgcaa.MyItc
