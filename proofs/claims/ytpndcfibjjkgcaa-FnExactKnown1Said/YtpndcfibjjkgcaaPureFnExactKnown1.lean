/- FnExactKnown1 in plain Lean: for enough rounds it answers true. No condition. -/
import Derived.Test.YtpndcfibjjkgcaaPAllx7
import Derived.Test.YtpndcfibjjkgcaaPureBase
namespace Go.Proofs.Ytpndcfibjjkgcaa.PAll
open Go Go.RowKit Go.Proofs.Ytpndcfibjjkgcaa.MyOpen Go.Proofs.YtpndcfibjjkgcaaW.PrintWords
theorem law_Known1 (x : S26) (hx : ∃ n, FitE n x) : Ev (fun k => laws_FnExactKnown1.f k x.f0 x.f1 x.f2 x.f3 x.f4 x.f5) true := by
  obtain ⟨n, hn⟩ := hx
  obtain ⟨r, hr, _, _, hS⟩ := (sz_all n).1 x hn 1048576 (by omega) (by omega)
  simp only [laws_FnExactKnown1.f]
  refine Ev.bind hr ?_
  by_cases h : r < 0
  · exact Ev.pos h (Ev.const _)
  · refine Ev.neg h ?_
    have hs := hS (by omega)
    have ht := (to_all n).1 x hs
    have he := (eq_all n).1 _ ((sq_all n).1 x hs)
    obtain ⟨b, hb⟩ : ∃ b, impl_Known1.f (cvE n x).f0 (cvE n x).f1 (cvE n x).f2 (cvE n x).f3 (cvE n x).f4 (cvE n x).f5 = some b := by
      unfold impl_Known1.f
      split <;> exact ⟨_, rfl⟩
    have hb' : spec_Known1.f (cvE n x).f0 (cvE n x).f1 (cvE n x).f2 (cvE n x).f3 (cvE n x).f4 (cvE n x).f5 = some b := hb
    refine Ev.bind ht (Ev.bind (a := b) ⟨0, fun _ _ => hb'⟩ (Ev.bind ht (Ev.bind (a := b) ⟨0, fun _ _ => hb⟩ (Ev.neg (by simp) (Ev.bind ht (Ev.bind he (Ev.pos (by trivial) (Ev.const _))))))))
end Go.Proofs.Ytpndcfibjjkgcaa.PAll
namespace Go.Proofs.Ytpndcfibjjkgcaa.Pure
open Go.Proofs.Ytpndcfibjjkgcaa.PAll
theorem FnExactKnown1 (x : S26) (hx : ∃ n, FitE n x) : ∃ k, laws_FnExactKnown1.f k x.f0 x.f1 x.f2 x.f3 x.f4 x.f5 = some true := by
  obtain ⟨K, h⟩ := law_Known1 x hx
  exact ⟨K, h K (Nat.le_refl _)⟩
end Go.Proofs.Ytpndcfibjjkgcaa.Pure
