/- The row of FnExactTurnText: the printed contract of the law and the session's pure theorem together. No condition. -/
import Derived.Test.YtfgeinfkffmcbaaRows
import Derived.Test.YtfgeinfkffmcbaaMFnExactTurnTextx2
import Derived.Test.YtfgeinfkffmcbaaPureFnExactTurnText
import Derived.Test.YtfgeinfkffmcbaaMyOpen
import Derived.WalkKit
import Derived.ProofKit
import Derived.OpenShut
import Derived.ShutString
import Derived.ChangeOld
import Derived.Below
import Derived.SizedLaws
import Derived.Carry
namespace Go.Proofs.Ytfgeinfkffmcbaa.fnExactTurnText
open Go.ChangeShapes Go.WideShapes Go.ChangeAt Go.RowKit Go.Proofs.Ytfgeinfkffmcbaa.MyOpen Go.Proofs.YtfgeinfkffmcbaaW.PrintWords
open Go.ChangeMaps (open_string shut_string)
set_option linter.unusedVariables false
theorem own : ownKnob Try.prog.godebug = none := by kernel_rfl
theorem laidOut : laidOutB Try.prog = true := by kernel_rfl
set_option maxRecDepth 100000 in
theorem lifted (os : Os) (started : os.Started) (H : Type) (enc : TypeId × Value → H) :
    ReturnsInHanded {} Try.checked os 3 .any (Rows.fnExactTurnTextSpec.pre6 enc Try.prog Try.f3 Rows.fnExactTurnTextRow.domain false) (Rows.fnExactTurnTextSpec.post enc Try.prog Try.f3 false true false false) := by
  refine returnsInHanded_of_change_sized (C := Try.checked) own started (by kernel_rfl) Try.func3
    (ChangeSpec.witness6 (enc := enc) (C := Try.checked) false ⟨#[], #[.agg #[.int .i64 0, .string ByteArray.empty, .string ByteArray.empty]], []⟩ 8 (by kernel_rfl) (by kernel_rfl) (by kernel_rfl) (by kernel_rfl)) ?_
  intro W base args ds gs before hval0 hW hcnd hsz0 _
  have hval : ∀ (j : Nat) t v, Try.f3.params[j]? = some t → args[j]? = some v → Value.okWide Try.prog W .any base t v := hval0
  have hW' := hW
  obtain ⟨p, q, hA0, hV, rfl, hfz, hnd⟩ := hW
  have hA : DataW.TrodAll enc Try.prog W 0 (fun _ => true) true Try.f3.params.toList args.toList ds p := hA0
  rw [Try.params3] at hA hval
  obtain ⟨v0, vs0, d0, ds0, p0, q0, hargs, rfl, rfl, h0, r0⟩ := trodAll_cons hA
  obtain ⟨rfl, rfl, rfl⟩ := trodAll_nil r0
  obtain rfl : args = #[v0] := by cases args; simp_all
  obtain ⟨rfl, rfl⟩ := trodVars_none hV
  have lt0 := lt_of h0
  have k0 := h0
  obtain ⟨cs0, x0, rfl, g0, q0⟩ := agg_of Try.underlying23 (hval 0 23 v0 rfl rfl) h0 (k := (Kd.pair (Kd.int .i64) (Kd.pair Kd.string Kd.string))) (opens_of_succ fun n => opensAt_struct Try.underlying23 (by kernel_rfl) (rest_cons rfl (by kernel_rfl) ((opens_int Try.underlying3) n) (rest_cons rfl (by kernel_rfl) ((opens_string Try.underlying9) n) (rest_last rfl (by kernel_rfl) ((opens_string Try.underlying9) n)))))
  obtain ⟨a0_0, a0_1, a0_2⟩ := x0
  obtain ⟨_, _, hcs0, rfl, ⟨_, _, rfl, rfl, rfl⟩⟩ := g0
  obtain rfl : cs0 = #[.int .i64 a0_0, .string a0_1, .string a0_2] := by apply Array.ext'; simpa using hcs0
  have hp := Pure.FnExactTurnText a0_0 a0_1 a0_2 q0.1 q0.2.1 q0.2.2
  refine (PFnExactTurnText.laws_FnExactTurnText.calls a0_0 a0_1 a0_2 true W  hp).mono fun e W' ⟨he, bel⟩ => ?_
  subst he
  exact ⟨_, rfl, _, _, _, [], _, [], hW', trodAll_mk1 (shut_bool Try.underlying4 _), (trodAll_cons_mk (Below.trod laidOut (by kernel_rfl) (of_decide_eq_true (by kernel_rfl)) k0 bel lt0) trodAll_mk0), rfl, bel.frame _, fun h => by cases h⟩
theorem over : Rows.fnExactTurnTextRow.holds Try.pinned (OpenSpec.ofChange Rows.fnExactTurnTextSpec) :=
  OpenClaim.holds_of_wide 3 Try.f3 rfl rfl rfl rfl rfl rfl rfl ⟨rfl, rfl, rfl, rfl, rfl⟩ rfl rfl rfl rfl rfl (by kernel_rfl) Try.func3 (by kernel_rfl)
    (of_decide_eq_true (by kernel_rfl)) (by unfold Func.isWrapper; first | (rw [if_pos (by decide +kernel)]; kernel_rfl) | (rw [if_neg (by decide +kernel)]; exact ⟨rfl, rfl⟩))
    (fun os started H enc _ => lifted os started H enc)
theorem proved : Rows.FnExactTurnTextSaid := over
#print axioms proved
end Go.Proofs.Ytfgeinfkffmcbaa.fnExactTurnText
namespace Go.Proofs.Ytfgeinfkffmcbaa
/-- The row, under a short name, for the claim. -/
theorem fnExactTurnText_holds : Rows.FnExactTurnTextSaid := fnExactTurnText.proved
end Go.Proofs.Ytfgeinfkffmcbaa

