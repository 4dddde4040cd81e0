/- The row of FnExactFold: the printed contract of the law and the session's pure theorem together. No condition. -/
import Derived.Test.YtpndcfibjjkgcaaRows
import Derived.Test.YtpndcfibjjkgcaaPureFnExactFold
import Derived.Test.YtpndcfibjjkgcaaMyOpen
import Derived.Test.YtpndcfibjjkgcaaMyFitI
import Derived.WalkKit
import Derived.ProofKit
import Derived.OpenShut
import Derived.ShutString
import Derived.ChangeOld
import Derived.Below
import Derived.SizedLaws
import Derived.Carry
namespace Go.Proofs.Ytpndcfibjjkgcaa.fnExactFold
open Go.ChangeShapes Go.WideShapes Go.ChangeAt Go.RowKit Go.Proofs.Ytpndcfibjjkgcaa.MyOpen Go.Proofs.YtpndcfibjjkgcaaW.PrintWords
open Go.ChangeMaps (open_string shut_string)
open Go.Proofs.Ytpndcfibjjkgcaa.PIfg
set_option linter.unusedVariables false
theorem own : ownKnob Try.prog.godebug = none := by kernel_rfl
theorem laidOut : laidOutB Try.prog = true := by kernel_rfl
set_option maxRecDepth 100000 in
theorem lifted (os : Os) (started : os.Started) (H : Type) (enc : TypeId × Value → H) :
    ReturnsInHanded {} Try.checked os 7 .any (Rows.fnExactFoldSpec.pre6 enc Try.prog Try.f7 Rows.fnExactFoldRow.domain false) (Rows.fnExactFoldSpec.post enc Try.prog Try.f7 false true false false) := by
  refine returnsInHanded_of_change_sized (C := Try.checked) own started (by kernel_rfl) Try.func7
    (ChangeSpec.witness6 (enc := enc) (C := Try.checked) false ⟨#[], #[.agg #[.int .i64 0, .string ByteArray.empty, .int .i64 0, .slice none 0 0, .slice none 0 0, .slice none 0 0]], []⟩ 8 (by kernel_rfl) (by kernel_rfl) (by kernel_rfl) (by kernel_rfl)) ?_
  intro W base args ds gs before hval0 hW hcnd hsz0 _
  have hval : ∀ (j : Nat) t v, Try.f7.params[j]? = some t → args[j]? = some v → Value.okWide Try.prog W .any base t v := hval0
  have hW' := hW
  obtain ⟨p, q, hA0, hV, rfl, hfz, hnd⟩ := hW
  have hA : DataW.TrodAll enc Try.prog W 0 (fun _ => true) true Try.f7.params.toList args.toList ds p := hA0
  rw [Try.params7] at hA hval
  obtain ⟨v0, vs0, d0, ds0, p0, q0, hargs, rfl, rfl, h0, r0⟩ := trodAll_cons hA
  obtain ⟨rfl, rfl, rfl⟩ := trodAll_nil r0
  obtain rfl : args = #[v0] := by cases args; simp_all
  obtain ⟨rfl, rfl⟩ := trodVars_none hV
  have lt0 := lt_of h0
  have k0 := h0
  obtain ⟨cs0, x0, rfl, g0, q0⟩ := agg_of Try.underlying26 (hval 0 26 v0 rfl rfl) h0 (k := k26) opens26
  obtain ⟨A0_3, c0_3, A0_4, c0_4, A0_5, c0_5, hcs0, L0_3, C0_3, L0_4, C0_4, L0_5, C0_5⟩ := k26_open g0
  obtain rfl : cs0 = #[.int .i64 x0.f0, .string x0.f1, .int .i64 x0.f2, .slice A0_3 x0.f3.length c0_3, .slice A0_4 x0.f4.length c0_4, .slice A0_5 x0.f5.length c0_5] := by apply Array.ext'; simpa using hcs0
  refine (Go.Proofs.Ytpndcfibjjkgcaa.MyItc.law_calls x0 q0 _ _ _ _ _ _ W C0_3 L0_3 C0_4 L0_4 C0_5 L0_5).mono fun e W' ⟨he, bel⟩ => ?_
  subst he
  exact ⟨_, rfl, _, _, _, [], _, [], hW', trodAll_mk1 (shut_bool Try.underlying4 _), (trodAll_cons_mk (Below.trod laidOut (by kernel_rfl) (of_decide_eq_true (by kernel_rfl)) k0 bel lt0) trodAll_mk0), rfl, bel.frame _, fun h => by cases h⟩
theorem over : Rows.fnExactFoldRow.holds Try.pinned (OpenSpec.ofChange Rows.fnExactFoldSpec) :=
  OpenClaim.holds_of_wide 7 Try.f7 rfl rfl rfl rfl rfl rfl rfl ⟨rfl, rfl, rfl, rfl, rfl⟩ rfl rfl rfl rfl rfl (by kernel_rfl) Try.func7 (by kernel_rfl)
    (of_decide_eq_true (by kernel_rfl)) (by unfold Func.isWrapper; first | (rw [if_pos (by decide +kernel)]; kernel_rfl) | (rw [if_neg (by decide +kernel)]; exact ⟨rfl, rfl⟩))
    (fun os started H enc _ => lifted os started H enc)
theorem proved : Rows.FnExactFoldSaid := over
#print axioms proved
end Go.Proofs.Ytpndcfibjjkgcaa.fnExactFold
namespace Go.Proofs.Ytpndcfibjjkgcaa
/-- The row, under a short name, for the claim. -/
theorem fnExactFold_holds : Rows.FnExactFoldSaid := fnExactFold.proved
end Go.Proofs.Ytpndcfibjjkgcaa

