/-
  No cell of these rows narrows 'for every input' (looked for: loops, veiled, ifaces, maps, wideKeys, modest, calm, conditions, laid).
  DERIVED. THE GIVEN ROWS OF THIS SEAT. 5 by the template 'for every input the law returns true; each argument reads behind the call as it read before'; 0 by the template 'total and deterministic' (their statements: YtfgeinfkffmcbaaTotals.lean).
  GIVEN WITH THE SEED: the statements are not yours to turn. If you find one false, say at which input.
  Laid BY PROGRAM, IN A SANDBOX (cutbox-rows.mjs): the forced cells as the released guide's own fill.sh prints them over the translation f8a5c66374dbc77d… (all of the seat's roots in one cut). By AI agents, Wed Nov 11 2026. No macro, syntax, notation, axiom, sorry.
-/
import Derived.Test.YtfgeinfkffmcbaaChecked
import GoSem.Claim
import GoSem.ClaimJoined
import GoSem.ClaimMapViews
import Derived.JoinedTies
import Derived.KernelRfl
namespace Go.Proofs.Ytfgeinfkffmcbaa
/- THE CELL 'sum', in the pinned program and in every row, IS THE sha256 OF THE DUMP (.gsa) THAT YtfgeinfkffmcbaaProg.lean LOADS. Nothing in Lean hashes anything: it is a label: what it is worth is what the hold of that sum in a sandbox is worth. -/
noncomputable def Try.pinned : Pinned := { name := "ytfgeinfkffmcbaa", sum := "f8a5c66374dbc77d5359ea03a2f56a84dbe85024727dd46a8600bf899bc75a39", checked := Try.checked }
namespace Rows
def none {H : Type} : Left H := { results := [], args := [] }

/-- 'laws.FnExactTurnText': WHATEVER THE INPUT: true; the input reads as it did. -/
def fnExactTurnTextSpec : ChangeSpec := { name := "fnExactTurnText", fn := fun _ => fun
  | [d] => { results := [.lit (.bool true)], args := [d] }
  | _ => none }
def fnExactTurnTextRow : OpenClaim := { program := "ytfgeinfkffmcbaa", sum := "f8a5c66374dbc77d5359ea03a2f56a84dbe85024727dd46a8600bf899bc75a39", func := "loop.example/g00471/laws.FnExactTurnText", spec := "fnExactTurnText", apart := false }
def FnExactTurnTextSaid : Prop := fnExactTurnTextRow.holds Try.pinned (OpenSpec.ofChange fnExactTurnTextSpec)

/-- ITS FALSE NEIGHBOUR: 'it returns false'. Refute it at one input. -/
def fnExactTurnTextWrong : ChangeSpec := { name := "fnExactTurnText", fn := fun _ => fun
  | [d] => { results := [.lit (.bool false)], args := [d] }
  | _ => none }
def FnExactTurnTextWrongFalsely : Prop := fnExactTurnTextRow.holds Try.pinned (OpenSpec.ofChange fnExactTurnTextWrong)

/-- 'laws.FnExactSesNew': WHATEVER THE INPUT: true; the input reads as it did. -/
def fnExactSesNewSpec : ChangeSpec := { name := "fnExactSesNew", fn := fun _ => fun
  | [] => { results := [.lit (.bool true)], args := [] }
  | _ => none }
def fnExactSesNewRow : OpenClaim := { program := "ytfgeinfkffmcbaa", sum := "f8a5c66374dbc77d5359ea03a2f56a84dbe85024727dd46a8600bf899bc75a39", func := "loop.example/g00471/laws.FnExactSesNew", spec := "fnExactSesNew", apart := false }
def FnExactSesNewSaid : Prop := fnExactSesNewRow.holds Try.pinned (OpenSpec.ofChange fnExactSesNewSpec)

/-- ITS FALSE NEIGHBOUR: 'it returns false'. Refute it at one input. -/
def fnExactSesNewWrong : ChangeSpec := { name := "fnExactSesNew", fn := fun _ => fun
  | [] => { results := [.lit (.bool false)], args := [] }
  | _ => none }
def FnExactSesNewWrongFalsely : Prop := fnExactSesNewRow.holds Try.pinned (OpenSpec.ofChange fnExactSesNewWrong)

/-- 'laws.FnExactHistOk': WHATEVER THE INPUT: true; the input reads as it did. -/
def fnExactHistOkSpec : ChangeSpec := { name := "fnExactHistOk", fn := fun _ => fun
  | [d] => { results := [.lit (.bool true)], args := [d] }
  | _ => none }
def fnExactHistOkRow : OpenClaim := { program := "ytfgeinfkffmcbaa", sum := "f8a5c66374dbc77d5359ea03a2f56a84dbe85024727dd46a8600bf899bc75a39", func := "loop.example/g00471/laws.FnExactHistOk", spec := "fnExactHistOk", apart := false }
def FnExactHistOkSaid : Prop := fnExactHistOkRow.holds Try.pinned (OpenSpec.ofChange fnExactHistOkSpec)

/-- ITS FALSE NEIGHBOUR: 'it returns false'. Refute it at one input. -/
def fnExactHistOkWrong : ChangeSpec := { name := "fnExactHistOk", fn := fun _ => fun
  | [d] => { results := [.lit (.bool false)], args := [d] }
  | _ => none }
def FnExactHistOkWrongFalsely : Prop := fnExactHistOkRow.holds Try.pinned (OpenSpec.ofChange fnExactHistOkWrong)

/-- 'laws.FnExactHistNew': WHATEVER THE INPUT: true; the input reads as it did. -/
def fnExactHistNewSpec : ChangeSpec := { name := "fnExactHistNew", fn := fun _ => fun
  | [d] => { results := [.lit (.bool true)], args := [d] }
  | _ => none }
def fnExactHistNewRow : OpenClaim := { program := "ytfgeinfkffmcbaa", sum := "f8a5c66374dbc77d5359ea03a2f56a84dbe85024727dd46a8600bf899bc75a39", func := "loop.example/g00471/laws.FnExactHistNew", spec := "fnExactHistNew", apart := false }
def FnExactHistNewSaid : Prop := fnExactHistNewRow.holds Try.pinned (OpenSpec.ofChange fnExactHistNewSpec)

/-- ITS FALSE NEIGHBOUR: 'it returns false'. Refute it at one input. -/
def fnExactHistNewWrong : ChangeSpec := { name := "fnExactHistNew", fn := fun _ => fun
  | [d] => { results := [.lit (.bool false)], args := [d] }
  | _ => none }
def FnExactHistNewWrongFalsely : Prop := fnExactHistNewRow.holds Try.pinned (OpenSpec.ofChange fnExactHistNewWrong)

/-- 'laws.FnHists': WHATEVER THE INPUT: true; the input reads as it did. -/
def fnHistsSpec : ChangeSpec := { name := "fnHists", fn := fun _ => fun
  | [d] => { results := [.lit (.bool true)], args := [d] }
  | _ => none }
def fnHistsRow : OpenClaim := { program := "ytfgeinfkffmcbaa", sum := "f8a5c66374dbc77d5359ea03a2f56a84dbe85024727dd46a8600bf899bc75a39", func := "loop.example/g00471/laws.FnHists", spec := "fnHists", apart := false }
def FnHistsSaid : Prop := fnHistsRow.holds Try.pinned (OpenSpec.ofChange fnHistsSpec)

/-- ITS FALSE NEIGHBOUR: 'it returns false'. Refute it at one input. -/
def fnHistsWrong : ChangeSpec := { name := "fnHists", fn := fun _ => fun
  | [d] => { results := [.lit (.bool false)], args := [d] }
  | _ => none }
def FnHistsWrongFalsely : Prop := fnHistsRow.holds Try.pinned (OpenSpec.ofChange fnHistsWrong)

/- THE SECOND FORM. 'bulk': how many values and letters a reading holds, each counted each time it is reached (what is shared counts as often as it is met; a slice's spare places count too). A statement '..UptoSaid' is the law's where the arguments, and the package variables that the reading takes, are together of bulk at most 1048576: NARROWER than '..Said'. Prove '..Said' where nothing that the law and all that it calls make is longer than what came in: it says more and counts as full. Else prove '..UptoSaid'. A law counts once. -/
mutual
def uptoBulk {H : Type} : DataW H → Nat
  | .lit (.string bytes) => bytes.length + 1
  | .lit _ => 1
  | .nil => 1
  | .ptr d => uptoBulk d + 1
  | .slice elems spare => uptoBulkAll elems + uptoBulkAll spare + 1
  | .agg parts => uptoBulkAll parts + 1
  | .iface _ d => uptoBulk d + 1
  | .map entries => uptoBulkEntries entries + 1
  | .held _ => 1
def uptoBulkAll {H : Type} : List (DataW H) → Nat
  | [] => 0
  | d :: r => uptoBulk d + uptoBulkAll r
def uptoBulkEntries {H : Type} : List (Lit × DataW H) → Nat
  | [] => 0
  | x :: r => uptoBulkEntry x + uptoBulkEntries r
def uptoBulkEntry {H : Type} : Lit × DataW H → Nat
  | (.string bytes, d) => bytes.length + uptoBulk d + 1
  | (_, d) => uptoBulk d + 1
 end
def uptoSmall : (H : Type) → List (DataW H) → Bool := fun _ ds => decide (uptoBulkAll ds ≤ 1048576)
def OpenSpec.upto (s : _root_.Go.ChangeSpec) : _root_.Go.OpenSpec := { _root_.Go.OpenSpec.ofChange s with cond := some uptoSmall }

/-- 'laws.FnExactTurnText', WHERE WHAT IT READS IS OF BULK AT MOST 1048576: true; the input reads as it did. -/
def fnExactTurnTextUptoRow : OpenClaim := { program := "ytfgeinfkffmcbaa", sum := "f8a5c66374dbc77d5359ea03a2f56a84dbe85024727dd46a8600bf899bc75a39", func := "loop.example/g00471/laws.FnExactTurnText", spec := "fnExactTurnText", apart := false, narrowed := true }
def FnExactTurnTextUptoSaid : Prop := fnExactTurnTextUptoRow.holds Try.pinned (OpenSpec.upto fnExactTurnTextSpec)

/-- 'laws.FnExactSesNew', WHERE WHAT IT READS IS OF BULK AT MOST 1048576: true; the input reads as it did. -/
def fnExactSesNewUptoRow : OpenClaim := { program := "ytfgeinfkffmcbaa", sum := "f8a5c66374dbc77d5359ea03a2f56a84dbe85024727dd46a8600bf899bc75a39", func := "loop.example/g00471/laws.FnExactSesNew", spec := "fnExactSesNew", apart := false, narrowed := true }
def FnExactSesNewUptoSaid : Prop := fnExactSesNewUptoRow.holds Try.pinned (OpenSpec.upto fnExactSesNewSpec)

/-- 'laws.FnExactHistOk', WHERE WHAT IT READS IS OF BULK AT MOST 1048576: true; the input reads as it did. -/
def fnExactHistOkUptoRow : OpenClaim := { program := "ytfgeinfkffmcbaa", sum := "f8a5c66374dbc77d5359ea03a2f56a84dbe85024727dd46a8600bf899bc75a39", func := "loop.example/g00471/laws.FnExactHistOk", spec := "fnExactHistOk", apart := false, narrowed := true }
def FnExactHistOkUptoSaid : Prop := fnExactHistOkUptoRow.holds Try.pinned (OpenSpec.upto fnExactHistOkSpec)

/-- 'laws.FnExactHistNew', WHERE WHAT IT READS IS OF BULK AT MOST 1048576: true; the input reads as it did. -/
def fnExactHistNewUptoRow : OpenClaim := { program := "ytfgeinfkffmcbaa", sum := "f8a5c66374dbc77d5359ea03a2f56a84dbe85024727dd46a8600bf899bc75a39", func := "loop.example/g00471/laws.FnExactHistNew", spec := "fnExactHistNew", apart := false, narrowed := true }
def FnExactHistNewUptoSaid : Prop := fnExactHistNewUptoRow.holds Try.pinned (OpenSpec.upto fnExactHistNewSpec)

/-- 'laws.FnHists', WHERE WHAT IT READS IS OF BULK AT MOST 1048576: true; the input reads as it did. -/
def fnHistsUptoRow : OpenClaim := { program := "ytfgeinfkffmcbaa", sum := "f8a5c66374dbc77d5359ea03a2f56a84dbe85024727dd46a8600bf899bc75a39", func := "loop.example/g00471/laws.FnHists", spec := "fnHists", apart := false, narrowed := true }
def FnHistsUptoSaid : Prop := fnHistsUptoRow.holds Try.pinned (OpenSpec.upto fnHistsSpec)

end Rows
end Go.Proofs.Ytfgeinfkffmcbaa
