/- The given copying: both walks joined. No condition. -/
import Derived.Test.YtpndcfibjjkgcaaPIfgs7
import Derived.Test.YtpndcfibjjkgcaaPIfgs8
namespace Go.Proofs.Ytpndcfibjjkgcaa.PIfg
open Go.Proofs.Ytpndcfibjjkgcaa.MyClone
open Go.RowKit Go.Proofs.YtpndcfibjjkgcaaW.PrintWords Go.Proofs.YtpndcfibjjkgcaaW.PrintLast Go.Proofs.YtpndcfibjjkgcaaW.PrintMore
attribute [local go_sem] max2_int min2_int max_two min_two max_three min_three max_four min_four   -- for this text's walks alone
set_option linter.unusedVariables false
set_option linter.unusedSimpArgs false

/-! ### spec_l3CopyDecs: function 56 -/
theorem spec_l3CopyDecs.all (k : Nat) : spec_l3CopyDecs.At k ∧ spec_l3Copy.At k := by
 induction k using Nat.strongRecOn with
 | _ k ih_ => exact ⟨spec_l3CopyDecs.step k (fun m_ hm_ => (ih_ m_ hm_).1) (fun m_ hm_ => (ih_ m_ hm_).2), spec_l3Copy.step k (fun m_ hm_ => (ih_ m_ hm_).1) (fun m_ hm_ => (ih_ m_ hm_).2)⟩
theorem spec_l3Copy.calls (k : Nat) : spec_l3Copy.At k := (spec_l3CopyDecs.all k).2

end Go.Proofs.Ytpndcfibjjkgcaa.PIfg
