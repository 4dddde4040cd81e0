/- Both functions that say an if as a case, told alike. No condition. -/
import Derived.Test.YtpndcfibjjkgcaaPureItn
import Derived.Test.YtpndcfibjjkgcaaMyIty
import Derived.Test.YtpndcfibjjkgcaaMyIti1
namespace Go.Proofs.Ytpndcfibjjkgcaa.MyItc
open Go Go.RowKit Go.Proofs.YtpndcfibjjkgcaaW.PrintWords Go.Proofs.YtpndcfibjjkgcaaW.PrintLast Go.Proofs.YtpndcfibjjkgcaaW.PrintMore Go.Proofs.Ytpndcfibjjkgcaa.PIfg
set_option linter.unusedVariables false
theorem impl_calls {n : Nat} {y : S33} (hy : Fine n y) (A3 : Option Addr) (c3 : Nat) (A4 : Option Addr) (c4 : Nat) (A5 : Option Addr) (c5 : Nat) (w : World) (ha : ArgE w A3 c3 y.f3 A4 c4 y.f4 A5 c5 y.f5) :
    Calls Try.prog 16 #[.agg #[.int .i64 y.f0, .string y.f1, .int .i64 y.f2, .slice A3 y.f3.length c3, .slice A4 y.f4.length c4, .slice A5 y.f5.length c5]] w fun e w' => ∃ (A3 : Option Addr) (c3 : Nat) (i3 : List It) (A4 : Option Addr) (c4 : Nat) (i4 : List It) (A5 : Option Addr) (c5 : Nat) (i5 : List It), e = .returned (.tuple #[.agg #[.int .i64 (icR y).f0, .string (icR y).f1, .int .i64 (icR y).f2, .slice A3 (icR y).f3.length c3, .slice A4 (icR y).f4.length c4, .slice A5 (icR y).f5.length c5], .bool (icB y)]) ∧ CopE w.heap.size w' (icR y).f3 (icR y).f4 (icR y).f5 A3 c3 i3 A4 c4 i4 A5 c5 i5 ∧ Below w.heap.size w w' := by
  have hu := u_all n
  by_cases hc : y.f0 = 8 ∧ y.f3.length = 3
  · have e : icR y = ⟨7, ⟨#[]⟩, 0, [rd_T33 y.f3 0], [], [⟨tT, [], rd_T33 y.f3 1⟩, ⟨tF, [], rd_T33 y.f3 2⟩]⟩ := by unfold icR; rw [if_pos hc]
    have eb : icB y = true := decide_eq_true hc
    have m : ∀ j : Nat, j < 3 → SqE n (rd_T33 y.f3 (j : Int)) := fun j hj => hy.sq.1.2 _ (rd33_mem _ _ j rfl (by omega))
    obtain ⟨K0, h0⟩ := hu.1 _ (m 0 (by omega))
    obtain ⟨K1, h1⟩ := hu.1 _ (m 1 (by omega))
    obtain ⟨K2, h2⟩ := hu.1 _ (m 2 (by omega))
    have h := IfToCase_yes (max K0 (max K1 K2)) y.f0 y.f1 y.f2 A3 c3 y.f3 A4 c4 y.f4 A5 c5 y.f5 w ha hc (h0 _ (by omega)) (h1 _ (by omega)) (h2 _ (by omega))
    rw [e, eb]
    exact h
  · have e : icR y = y := by unfold icR; rw [if_neg hc]
    have eb : icB y = false := decide_eq_false hc
    obtain ⟨K, h0⟩ := (u_all (n + 1)).1 y (by rw [SqE]; exact hy.sq)
    have h := IfToCase_no K y.f0 y.f1 y.f2 A3 c3 y.f3 A4 c4 y.f4 A5 c5 y.f5 w ha hc (h0 _ (Nat.le_refl _))
    rw [e, eb]
    exact h
theorem spec_calls {n : Nat} {y : S33} (hy : Fine n y) (A3 : Option Addr) (c3 : Nat) (A4 : Option Addr) (c4 : Nat) (A5 : Option Addr) (c5 : Nat) (w : World) (ha : ArgE w A3 c3 y.f3 A4 c4 y.f4 A5 c5 y.f5) :
    Calls Try.prog 15 #[.agg #[.int .i64 y.f0, .string y.f1, .int .i64 y.f2, .slice A3 y.f3.length c3, .slice A4 y.f4.length c4, .slice A5 y.f5.length c5]] w fun e w' => ∃ (A3 : Option Addr) (c3 : Nat) (A4 : Option Addr) (c4 : Nat) (A5 : Option Addr) (c5 : Nat), e = .returned (.tuple #[.agg #[.int .i64 (icR y).f0, .string (icR y).f1, .int .i64 (icR y).f2, .slice A3 (icR y).f3.length c3, .slice A4 (icR y).f4.length c4, .slice A5 (icR y).f5.length c5], .bool (icB y)]) ∧ ArgE w' A3 c3 (icR y).f3 A4 c4 (icR y).f4 A5 c5 (icR y).f5 ∧ Below w.heap.size w w' := by
  by_cases hc : y.f0 = 8 ∧ y.f3.length = 3
  · have e : icR y = ⟨7, ⟨#[]⟩, 0, [rd_T33 y.f3 0], [], [⟨tT, [], rd_T33 y.f3 1⟩, ⟨tF, [], rd_T33 y.f3 2⟩]⟩ := by unfold icR; rw [if_pos hc]
    have eb : icB y = true := decide_eq_true hc
    have h := specIf_yes n y.f0 y.f1 y.f2 A3 c3 y.f3 A4 c4 y.f4 A5 c5 y.f5 w ha hy.sq hc
    rw [e, eb]
    exact h
  · have e : icR y = y := by unfold icR; rw [if_neg hc]
    have eb : icB y = false := decide_eq_false hc
    have h := specIf_no n y.f0 y.f1 y.f2 A3 c3 y.f3 A4 c4 y.f4 A5 c5 y.f5 w ha hy.sq hc
    rw [e, eb]
    exact h
end Go.Proofs.Ytpndcfibjjkgcaa.MyItc
