/- The row of FnExactHistOk: the printed contract of the law and the session's pure theorem together. No condition. -/
import Derived.Test.YtfgeinfkffmcbaaRows
import Derived.Test.YtfgeinfkffmcbaaPFnExactHistOkx2
import Derived.Test.YtfgeinfkffmcbaaPureFnExactHistOk
import Derived.Test.YtfgeinfkffmcbaaMyOpen
import Derived.WalkKit
import Derived.ProofKit
import Derived.OpenShut
import Derived.ShutString
import Derived.ChangeOld
import Derived.Below
import Derived.SizedLaws
import Derived.Carry
namespace Go.Proofs.Ytfgeinfkffmcbaa.fnExactHistOk
open Go.ChangeShapes Go.WideShapes Go.ChangeAt Go.RowKit Go.Proofs.Ytfgeinfkffmcbaa.MyOpen Go.Proofs.YtfgeinfkffmcbaaW.PrintWords
open Go.ChangeMaps (open_string shut_string)
set_option linter.unusedVariables false
theorem own : ownKnob Try.prog.godebug = none := by kernel_rfl
theorem laidOut : laidOutB Try.prog = true := by kernel_rfl
set_option maxRecDepth 100000 in
theorem lifted (os : Os) (started : os.Started) (H : Type) (enc : TypeId × Value → H) :
    ReturnsInHanded {} Try.checked os 5 .any (Rows.fnExactHistOkSpec.pre6 enc Try.prog Try.f5 Rows.fnExactHistOkRow.domain false) (Rows.fnExactHistOkSpec.post enc Try.prog Try.f5 false true false false) := by
  refine returnsInHanded_of_change_sized (C := Try.checked) own started (by kernel_rfl) Try.func5
    (ChangeSpec.witness6 (enc := enc) (C := Try.checked) false ⟨#[], #[.agg #[.slice none 0 0, .string ByteArray.empty, .slice none 0 0]], []⟩ 8 (by kernel_rfl) (by kernel_rfl) (by kernel_rfl) (by kernel_rfl)) ?_
  intro W base args ds gs before hval0 hW hcnd hsz0 _
  have hval : ∀ (j : Nat) t v, Try.f5.params[j]? = some t → args[j]? = some v → Value.okWide Try.prog W .any base t v := hval0
  have hW' := hW
  obtain ⟨p, q, hA0, hV, rfl, hfz, hnd⟩ := hW
  have hA : DataW.TrodAll enc Try.prog W 0 (fun _ => true) true Try.f5.params.toList args.toList ds p := hA0
  rw [Try.params5] at hA hval
  obtain ⟨v0, vs0, d0, ds0, p0, q0, hargs, rfl, rfl, h0, r0⟩ := trodAll_cons hA
  obtain ⟨rfl, rfl, rfl⟩ := trodAll_nil r0
  obtain rfl : args = #[v0] := by cases args; simp_all
  obtain ⟨rfl, rfl⟩ := trodVars_none hV
  have lt0 := lt_of h0
  have k0 := h0
  obtain ⟨cs0, x0, rfl, g0, q0⟩ := agg_of Try.underlying37 (hval 0 37 v0 rfl rfl) h0 (k := (Kd.pair (Kd.slice 9 Kd.string) (Kd.pair Kd.string (Kd.slice 9 Kd.string)))) (opens_of_succ fun n => opensAt_struct Try.underlying37 (by kernel_rfl) (rest_cons rfl (by kernel_rfl) ((opens_slice Try.underlying29 (by kernel_rfl) (opens_string Try.underlying9)) n) (rest_cons rfl (by kernel_rfl) ((opens_string Try.underlying9) n) (rest_last rfl (by kernel_rfl) ((opens_slice Try.underlying29 (by kernel_rfl) (opens_string Try.underlying9)) n)))))
  obtain ⟨l0_0, a0_1, l0_2⟩ := x0
  obtain ⟨_, _, hcs0, ⟨A0_0, c0_0, rfl, L0_0, C0_0⟩, ⟨_, _, rfl, rfl, ⟨A0_2, c0_2, rfl, L0_2, C0_2⟩⟩⟩ := g0
  obtain rfl : cs0 = #[.slice A0_0 l0_0.length c0_0, .string a0_1, .slice A0_2 l0_2.length c0_2] := by apply Array.ext'; simpa using hcs0
  have hp := Pure.FnExactHistOk l0_0 a0_1 l0_2 q0.1 q0.2.1 q0.2.2
  obtain ⟨k, hp⟩ := hp
  refine (PFnExactHistOk.laws_FnExactHistOk.calls k _ _ l0_0 a0_1 _ _ l0_2 true W C0_0 L0_0 C0_2 L0_2 hp).mono fun e W' ⟨he, bel⟩ => ?_
  subst he
  exact ⟨_, rfl, _, _, _, [], _, [], hW', trodAll_mk1 (shut_bool Try.underlying4 _), (trodAll_cons_mk (Below.trod laidOut (by kernel_rfl) (of_decide_eq_true (by kernel_rfl)) k0 bel lt0) trodAll_mk0), rfl, bel.frame _, fun h => by cases h⟩
theorem over : Rows.fnExactHistOkRow.holds Try.pinned (OpenSpec.ofChange Rows.fnExactHistOkSpec) :=
  OpenClaim.holds_of_wide 5 Try.f5 rfl rfl rfl rfl rfl rfl rfl ⟨rfl, rfl, rfl, rfl, rfl⟩ rfl rfl rfl rfl rfl (by kernel_rfl) Try.func5 (by kernel_rfl)
    (of_decide_eq_true (by kernel_rfl)) (by unfold Func.isWrapper; first | (rw [if_pos (by decide +kernel)]; kernel_rfl) | (rw [if_neg (by decide +kernel)]; exact ⟨rfl, rfl⟩))
    (fun os started H enc _ => lifted os started H enc)
theorem proved : Rows.FnExactHistOkSaid := over
#print axioms proved
end Go.Proofs.Ytfgeinfkffmcbaa.fnExactHistOk
namespace Go.Proofs.Ytfgeinfkffmcbaa
/-- The row, under a short name, for the claim. -/
theorem fnExactHistOk_holds : Rows.FnExactHistOkSaid := fnExactHistOk.proved
end Go.Proofs.Ytfgeinfkffmcbaa

