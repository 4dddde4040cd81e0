/- What the program's HistNew and the reference's answer is the text with nothing ahead and nothing behind; all comparisons of them answer yes. No condition. -/
import Derived.Test.YtfgeinfkffmcbaaPFnExactHistNewx2
namespace Go.Proofs.Ytfgeinfkffmcbaa.Pure
open Go.RowKit Go.Proofs.Ytfgeinfkffmcbaa.PFnExactHistNew Go.Proofs.YtfgeinfkffmcbaaW.PrintWords Go.Proofs.YtfgeinfkffmcbaaW.PrintLast

theorem FnExactHistNew : laws_FnExactHistNew.Pure := by
  intro a ha
  refine ⟨1, ?_⟩
  simp [laws_FnExactHistNew.f, spec_HistNew.f, impl_HistNew.f, laws_eqHist.f, laws_eqStringS.f, laws_eqStringS.l0, laws_markHist.f, laws_markStringS.f, laws_markStringS.l0, laws_heldHist.f, laws_heldStringS.f, laws_heldStringS.l0]

end Go.Proofs.Ytfgeinfkffmcbaa.Pure
