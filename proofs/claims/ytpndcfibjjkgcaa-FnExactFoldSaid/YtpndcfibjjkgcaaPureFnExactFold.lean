/- The law's contract: for an argument that fits it answers true. No condition. -/
import Derived.Test.YtpndcfibjjkgcaaMyFoL
namespace Go.Proofs.Ytpndcfibjjkgcaa.MyItc
open Go Go.RowKit Go.Proofs.Ytpndcfibjjkgcaa.MyOpen Go.Proofs.YtpndcfibjjkgcaaW.PrintWords Go.Proofs.Ytpndcfibjjkgcaa.PIfg
theorem law_calls (x : S26) (hx : ∃ n, FitE n x) (A0_3 : Option Addr) (c0_3 : Nat) (A0_4 : Option Addr) (c0_4 : Nat) (A0_5 : Option Addr) (c0_5 : Nat) (w : World) (hr0_3 : Kd.C k26 w A0_3 x.f3.length x.f3) (hc0_3 : x.f3.length ≤ c0_3) (hr0_4 : Kd.C k63 w A0_4 x.f4.length x.f4) (hc0_4 : x.f4.length ≤ c0_4) (hr0_5 : Kd.C k66 w A0_5 x.f5.length x.f5) (hc0_5 : x.f5.length ≤ c0_5) :
    Calls Try.prog 7 #[.agg #[.int .i64 x.f0, .string x.f1, .int .i64 x.f2, .slice A0_3 x.f3.length c0_3, .slice A0_4 x.f4.length c0_4, .slice A0_5 x.f5.length c0_5]] w fun e w' => e = .returned (.bool true) ∧ Below w.heap.size w w' := by
  obtain ⟨m, t, hz, h⟩ := law_fineF x hx
  by_cases ht : t < 0
  · exact law_neg m t x.f0 x.f1 x.f2 A0_3 c0_3 x.f3 A0_4 c0_4 x.f4 A0_5 c0_5 x.f5 w hr0_3 hc0_3 hr0_4 hc0_4 hr0_5 hc0_5 hz ht
  · obtain ⟨n, k, y, hk, hf⟩ := h (by omega)
    exact law_pos m t n k y x.f0 x.f1 x.f2 A0_3 c0_3 x.f3 A0_4 c0_4 x.f4 A0_5 c0_5 x.f5 w hr0_3 hc0_3 hr0_4 hc0_4 hr0_5 hc0_5 hz (by omega) hk hf
end Go.Proofs.Ytpndcfibjjkgcaa.MyItc
