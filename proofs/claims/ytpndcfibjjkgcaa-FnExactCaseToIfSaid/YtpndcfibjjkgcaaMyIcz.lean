/- Both functions that say a case as an if, told alike. No condition. -/
import Derived.Test.YtpndcfibjjkgcaaPureIcn
import Derived.Test.YtpndcfibjjkgcaaMyIcx
namespace Go.Proofs.Ytpndcfibjjkgcaa.MyItc
open Go Go.RowKit Go.Proofs.YtpndcfibjjkgcaaW.PrintWords Go.Proofs.YtpndcfibjjkgcaaW.PrintLast Go.Proofs.YtpndcfibjjkgcaaW.PrintMore Go.Proofs.Ytpndcfibjjkgcaa.PIfg
set_option linter.unusedVariables false
theorem impl_calls {n : Nat} {y : S33} (hy : Fine n y) (A3 : Option Addr) (c3 : Nat) (i3 : List It) (A4 : Option Addr) (c4 : Nat) (i4 : List It) (A5 : Option Addr) (c5 : Nat) (i5 : List It) (w : World) (hi : AtL w (rows3 A3 y.f3.length c3 i3 A4 y.f4.length c4 i4 A5 y.f5.length c5 i5)) (h3 : RepEs y.f3 i3) (h4 : RepDs y.f4 i4) (h5 : RepAs y.f5 i5) :
    Calls Try.prog 20 #[.agg #[.int .i64 y.f0, .string y.f1, .int .i64 y.f2, .slice A3 y.f3.length c3, .slice A4 y.f4.length c4, .slice A5 y.f5.length c5]] w fun e w' => ∃ (A3 : Option Addr) (c3 : Nat) (i3 : List It) (A4 : Option Addr) (c4 : Nat) (i4 : List It) (A5 : Option Addr) (c5 : Nat) (i5 : List It), e = .returned (.tuple #[.agg #[.int .i64 (icR y).f0, .string (icR y).f1, .int .i64 (icR y).f2, .slice A3 (icR y).f3.length c3, .slice A4 (icR y).f4.length c4, .slice A5 (icR y).f5.length c5], .bool (icB y)]) ∧ CopE w.heap.size w' (icR y).f3 (icR y).f4 (icR y).f5 A3 c3 i3 A4 c4 i4 A5 c5 i5 ∧ Below w.heap.size w w' := by
  have hu := u_all n
  obtain ⟨_, hb, hl⟩ := ic_both y
  by_cases hc : icB y = true
  · have e : icR y = ⟨8, ⟨#[]⟩, 0, [rd_T33 y.f3 0, (rd_T53 y.f5 0).f2, (rd_T53 y.f5 1).f2], [], []⟩ := by unfold icR; rw [if_pos hc]
    have hl := hl hc
    obtain ⟨K0, h0⟩ := hu.1 _ (hy.sq.1.2 _ (rd33_mem y.f3 0 0 rfl (by omega)))
    obtain ⟨K1, h1⟩ := hu.1 _ (sqA_f2 (hy.sq.2.2.2 _ (rd53_mem y.f5 0 0 rfl (by omega)))).1
    obtain ⟨K2, h2⟩ := hu.1 _ (sqA_f2 (hy.sq.2.2.2 _ (rd53_mem y.f5 1 1 rfl (by omega)))).1
    have h := implCase_yes (max K0 (max K1 K2)) y.f0 y.f1 y.f2 A3 c3 y.f3 A4 c4 y.f4 A5 c5 y.f5 i3 i4 i5 w hi h3 h4 h5 (by rw [hb, hc]) hl (h0 _ (by omega)) (h1 _ (by omega)) (h2 _ (by omega))
    rw [e, hc]
    exact h
  · have hf : icB y = false := Bool.eq_false_iff.mpr hc
    have e : icR y = y := by unfold icR; rw [if_neg hc]
    obtain ⟨K, h0⟩ := (u_all (n + 1)).1 y (by rw [SqE]; exact hy.sq)
    have h := implCase_no K y.f0 y.f1 y.f2 A3 c3 y.f3 A4 c4 y.f4 A5 c5 y.f5 w (rows_arg hi h3 h4 h5) (by rw [hb, hf]) (h0 _ (Nat.le_refl _))
    rw [e, hf]
    exact h
theorem spec_calls {n : Nat} {y : S33} (hy : Fine n y) (A3 : Option Addr) (c3 : Nat) (A4 : Option Addr) (c4 : Nat) (A5 : Option Addr) (c5 : Nat) (w : World) (ha : ArgE w A3 c3 y.f3 A4 c4 y.f4 A5 c5 y.f5) :
    Calls Try.prog 19 #[.agg #[.int .i64 y.f0, .string y.f1, .int .i64 y.f2, .slice A3 y.f3.length c3, .slice A4 y.f4.length c4, .slice A5 y.f5.length c5]] w fun e w' => ∃ (A3 : Option Addr) (c3 : Nat) (A4 : Option Addr) (c4 : Nat) (A5 : Option Addr) (c5 : Nat), e = .returned (.tuple #[.agg #[.int .i64 (icR y).f0, .string (icR y).f1, .int .i64 (icR y).f2, .slice A3 (icR y).f3.length c3, .slice A4 (icR y).f4.length c4, .slice A5 (icR y).f5.length c5], .bool (icB y)]) ∧ ArgE w' A3 c3 (icR y).f3 A4 c4 (icR y).f4 A5 c5 (icR y).f5 ∧ Below w.heap.size w w' := by
  obtain ⟨hb, _, hl⟩ := ic_both y
  by_cases hc : icB y = true
  · have e : icR y = ⟨8, ⟨#[]⟩, 0, [rd_T33 y.f3 0, (rd_T53 y.f5 0).f2, (rd_T53 y.f5 1).f2], [], []⟩ := by unfold icR; rw [if_pos hc]
    have h := specCase_yes n y.f0 y.f1 y.f2 A3 c3 y.f3 A4 c4 y.f4 A5 c5 y.f5 w ha hy.sq (by rw [hb, hc]) (hl hc)
    rw [e, hc]
    exact h
  · have hf : icB y = false := Bool.eq_false_iff.mpr hc
    have e : icR y = y := by unfold icR; rw [if_neg hc]
    have h := specCase_no n y.f0 y.f1 y.f2 A3 c3 y.f3 A4 c4 y.f4 A5 c5 y.f5 w ha hy.sq (by rw [hb, hf])
    rw [e, hf]
    exact h
end Go.Proofs.Ytpndcfibjjkgcaa.MyItc
