/- What the program's SesNew and the reference's answer is the text main = 0 with nothing to undo; all comparisons of them answer yes. No condition. -/
import Derived.Test.YtfgeinfkffmcbaaPFnExactSesNewx2
namespace Go.Proofs.Ytfgeinfkffmcbaa.Pure
open Go.RowKit Go.Proofs.Ytfgeinfkffmcbaa.PFnExactSesNew Go.Proofs.YtfgeinfkffmcbaaW.PrintWords Go.Proofs.YtfgeinfkffmcbaaW.PrintLast

theorem FnExactSesNew : laws_FnExactSesNew.Pure := by
  refine ⟨1, ?_⟩
  simp [laws_FnExactSesNew.f, spec_SesNew.f, impl_SesNew.f, laws_eqSes.f, laws_eqStringS.f, laws_eqStringS.l0, laws_markSes.f, laws_markStringS.f, laws_markStringS.l0, laws_heldSes.f, laws_heldStringS.f, laws_heldStringS.l0]

end Go.Proofs.Ytfgeinfkffmcbaa.Pure
