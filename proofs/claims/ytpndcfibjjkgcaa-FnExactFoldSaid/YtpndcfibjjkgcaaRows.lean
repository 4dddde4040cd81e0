/-
  NARROWER THAN 'FOR EVERY INPUT', by the rows' own cells (each row's printed sentence says how): FnExactKnown1: loops · FnExactIfs: loops · FnExactIfToCase: loops · FnExactCaseToIf: loops · FnExactFold: loops.
  DERIVED. THE GIVEN ROWS OF THIS SEAT. 5 by the template 'for every input the law returns true; each argument reads behind the call as it read before'; 0 by the template 'total and deterministic' (their statements: YtpndcfibjjkgcaaTotals.lean).
  GIVEN WITH THE SEED: the statements are not yours to turn. If you find one false, say at which input.
  Laid BY PROGRAM, IN A SANDBOX (cutbox-rows.mjs): the forced cells as the released guide's own fill.sh prints them over the translation 9990582046b30b77… (all of the seat's roots in one cut). By AI agents, Wed Nov 11 2026. No macro, syntax, notation, axiom, sorry.
-/
import Derived.Test.YtpndcfibjjkgcaaChecked
import GoSem.Claim
import GoSem.ClaimJoined
import GoSem.ClaimMapViews
import Derived.JoinedTies
import Derived.KernelRfl
namespace Go.Proofs.Ytpndcfibjjkgcaa
/- THE CELL 'sum', in the pinned program and in every row, IS THE sha256 OF THE DUMP (.gsa) THAT YtpndcfibjjkgcaaProg.lean LOADS. Nothing in Lean hashes anything: it is a label: what it is worth is what the hold of that sum in a sandbox is worth. -/
noncomputable def Try.pinned : Pinned := { name := "ytpndcfibjjkgcaa", sum := "9990582046b30b77c60cd2d5051df69b5520491a250400086b8b242ca1341988", checked := Try.checked }
namespace Rows
def none {H : Type} : Left H := { results := [], args := [] }

/-- 'laws.FnExactKnown1': WHATEVER THE INPUT: true; the input reads as it did. -/
def fnExactKnown1Spec : ChangeSpec := { name := "fnExactKnown1", fn := fun _ => fun
  | [d] => { results := [.lit (.bool true)], args := [d] }
  | _ => none }
def fnExactKnown1Row : OpenClaim := { program := "ytpndcfibjjkgcaa", sum := "9990582046b30b77c60cd2d5051df69b5520491a250400086b8b242ca1341988", func := "loop.example/g00471/laws.FnExactKnown1", spec := "fnExactKnown1", recurses := true, loops := true, apart := false }
def FnExactKnown1Said : Prop := fnExactKnown1Row.holds Try.pinned (OpenSpec.ofChange fnExactKnown1Spec)

/-- ITS FALSE NEIGHBOUR: 'it returns false'. Refute it at one input. -/
def fnExactKnown1Wrong : ChangeSpec := { name := "fnExactKnown1", fn := fun _ => fun
  | [d] => { results := [.lit (.bool false)], args := [d] }
  | _ => none }
def FnExactKnown1WrongFalsely : Prop := fnExactKnown1Row.holds Try.pinned (OpenSpec.ofChange fnExactKnown1Wrong)

/-- 'laws.FnExactIfs': WHATEVER THE INPUT: true; the input reads as it did. -/
def fnExactIfsSpec : ChangeSpec := { name := "fnExactIfs", fn := fun _ => fun
  | [d] => { results := [.lit (.bool true)], args := [d] }
  | _ => none }
def fnExactIfsRow : OpenClaim := { program := "ytpndcfibjjkgcaa", sum := "9990582046b30b77c60cd2d5051df69b5520491a250400086b8b242ca1341988", func := "loop.example/g00471/laws.FnExactIfs", spec := "fnExactIfs", unfollowed := true, recurses := true, loops := true, apart := false }
def FnExactIfsSaid : Prop := fnExactIfsRow.holds Try.pinned (OpenSpec.ofChange fnExactIfsSpec)

/-- ITS FALSE NEIGHBOUR: 'it returns false'. Refute it at one input. -/
def fnExactIfsWrong : ChangeSpec := { name := "fnExactIfs", fn := fun _ => fun
  | [d] => { results := [.lit (.bool false)], args := [d] }
  | _ => none }
def FnExactIfsWrongFalsely : Prop := fnExactIfsRow.holds Try.pinned (OpenSpec.ofChange fnExactIfsWrong)

/-- 'laws.FnExactIfToCase': WHATEVER THE INPUT: true; the input reads as it did. -/
def fnExactIfToCaseSpec : ChangeSpec := { name := "fnExactIfToCase", fn := fun _ => fun
  | [d] => { results := [.lit (.bool true)], args := [d] }
  | _ => none }
def fnExactIfToCaseRow : OpenClaim := { program := "ytpndcfibjjkgcaa", sum := "9990582046b30b77c60cd2d5051df69b5520491a250400086b8b242ca1341988", func := "loop.example/g00471/laws.FnExactIfToCase", spec := "fnExactIfToCase", unfollowed := true, recurses := true, loops := true, apart := false }
def FnExactIfToCaseSaid : Prop := fnExactIfToCaseRow.holds Try.pinned (OpenSpec.ofChange fnExactIfToCaseSpec)

/-- ITS FALSE NEIGHBOUR: 'it returns false'. Refute it at one input. -/
def fnExactIfToCaseWrong : ChangeSpec := { name := "fnExactIfToCase", fn := fun _ => fun
  | [d] => { results := [.lit (.bool false)], args := [d] }
  | _ => none }
def FnExactIfToCaseWrongFalsely : Prop := fnExactIfToCaseRow.holds Try.pinned (OpenSpec.ofChange fnExactIfToCaseWrong)

/-- 'laws.FnExactCaseToIf': WHATEVER THE INPUT: true; the input reads as it did. -/
def fnExactCaseToIfSpec : ChangeSpec := { name := "fnExactCaseToIf", fn := fun _ => fun
  | [d] => { results := [.lit (.bool true)], args := [d] }
  | _ => none }
def fnExactCaseToIfRow : OpenClaim := { program := "ytpndcfibjjkgcaa", sum := "9990582046b30b77c60cd2d5051df69b5520491a250400086b8b242ca1341988", func := "loop.example/g00471/laws.FnExactCaseToIf", spec := "fnExactCaseToIf", unfollowed := true, recurses := true, loops := true, apart := false }
def FnExactCaseToIfSaid : Prop := fnExactCaseToIfRow.holds Try.pinned (OpenSpec.ofChange fnExactCaseToIfSpec)

/-- ITS FALSE NEIGHBOUR: 'it returns false'. Refute it at one input. -/
def fnExactCaseToIfWrong : ChangeSpec := { name := "fnExactCaseToIf", fn := fun _ => fun
  | [d] => { results := [.lit (.bool false)], args := [d] }
  | _ => none }
def FnExactCaseToIfWrongFalsely : Prop := fnExactCaseToIfRow.holds Try.pinned (OpenSpec.ofChange fnExactCaseToIfWrong)

/-- 'laws.FnExactFold': WHATEVER THE INPUT: true; the input reads as it did. -/
def fnExactFoldSpec : ChangeSpec := { name := "fnExactFold", fn := fun _ => fun
  | [d] => { results := [.lit (.bool true)], args := [d] }
  | _ => none }
def fnExactFoldRow : OpenClaim := { program := "ytpndcfibjjkgcaa", sum := "9990582046b30b77c60cd2d5051df69b5520491a250400086b8b242ca1341988", func := "loop.example/g00471/laws.FnExactFold", spec := "fnExactFold", unfollowed := true, recurses := true, loops := true, apart := false }
def FnExactFoldSaid : Prop := fnExactFoldRow.holds Try.pinned (OpenSpec.ofChange fnExactFoldSpec)

/-- ITS FALSE NEIGHBOUR: 'it returns false'. Refute it at one input. -/
def fnExactFoldWrong : ChangeSpec := { name := "fnExactFold", fn := fun _ => fun
  | [d] => { results := [.lit (.bool false)], args := [d] }
  | _ => none }
def FnExactFoldWrongFalsely : Prop := fnExactFoldRow.holds Try.pinned (OpenSpec.ofChange fnExactFoldWrong)

/- THE SECOND FORM. 'bulk': how many values and letters a reading holds, each counted each time it is reached (what is shared counts as often as it is met; a slice's spare places count too). A statement '..UptoSaid' is the law's where the arguments, and the package variables that the reading takes, are together of bulk at most 1048576: NARROWER than '..Said'. Prove '..Said' where nothing that the law and all that it calls make is longer than what came in: it says more and counts as full. Else prove '..UptoSaid'. A law counts once. -/
mutual
def uptoBulk {H : Type} : DataW H → Nat
  | .lit (.string bytes) => bytes.length + 1
  | .lit _ => 1
  | .nil => 1
  | .ptr d => uptoBulk d + 1
  | .slice elems spare => uptoBulkAll elems + uptoBulkAll spare + 1
  | .agg parts => uptoBulkAll parts + 1
  | .iface _ d => uptoBulk d + 1
  | .map entries => uptoBulkEntries entries + 1
  | .held _ => 1
def uptoBulkAll {H : Type} : List (DataW H) → Nat
  | [] => 0
  | d :: r => uptoBulk d + uptoBulkAll r
def uptoBulkEntries {H : Type} : List (Lit × DataW H) → Nat
  | [] => 0
  | x :: r => uptoBulkEntry x + uptoBulkEntries r
def uptoBulkEntry {H : Type} : Lit × DataW H → Nat
  | (.string bytes, d) => bytes.length + uptoBulk d + 1
  | (_, d) => uptoBulk d + 1
 end
def uptoSmall : (H : Type) → List (DataW H) → Bool := fun _ ds => decide (uptoBulkAll ds ≤ 1048576)
def OpenSpec.upto (s : _root_.Go.ChangeSpec) : _root_.Go.OpenSpec := { _root_.Go.OpenSpec.ofChange s with cond := some uptoSmall }

/-- 'laws.FnExactKnown1', WHERE WHAT IT READS IS OF BULK AT MOST 1048576: true; the input reads as it did. -/
def fnExactKnown1UptoRow : OpenClaim := { program := "ytpndcfibjjkgcaa", sum := "9990582046b30b77c60cd2d5051df69b5520491a250400086b8b242ca1341988", func := "loop.example/g00471/laws.FnExactKnown1", spec := "fnExactKnown1", recurses := true, loops := true, apart := false, narrowed := true }
def FnExactKnown1UptoSaid : Prop := fnExactKnown1UptoRow.holds Try.pinned (OpenSpec.upto fnExactKnown1Spec)

/-- 'laws.FnExactIfs', WHERE WHAT IT READS IS OF BULK AT MOST 1048576: true; the input reads as it did. -/
def fnExactIfsUptoRow : OpenClaim := { program := "ytpndcfibjjkgcaa", sum := "9990582046b30b77c60cd2d5051df69b5520491a250400086b8b242ca1341988", func := "loop.example/g00471/laws.FnExactIfs", spec := "fnExactIfs", unfollowed := true, recurses := true, loops := true, apart := false, narrowed := true }
def FnExactIfsUptoSaid : Prop := fnExactIfsUptoRow.holds Try.pinned (OpenSpec.upto fnExactIfsSpec)

/-- 'laws.FnExactIfToCase', WHERE WHAT IT READS IS OF BULK AT MOST 1048576: true; the input reads as it did. -/
def fnExactIfToCaseUptoRow : OpenClaim := { program := "ytpndcfibjjkgcaa", sum := "9990582046b30b77c60cd2d5051df69b5520491a250400086b8b242ca1341988", func := "loop.example/g00471/laws.FnExactIfToCase", spec := "fnExactIfToCase", unfollowed := true, recurses := true, loops := true, apart := false, narrowed := true }
def FnExactIfToCaseUptoSaid : Prop := fnExactIfToCaseUptoRow.holds Try.pinned (OpenSpec.upto fnExactIfToCaseSpec)

/-- 'laws.FnExactCaseToIf', WHERE WHAT IT READS IS OF BULK AT MOST 1048576: true; the input reads as it did. -/
def fnExactCaseToIfUptoRow : OpenClaim := { program := "ytpndcfibjjkgcaa", sum := "9990582046b30b77c60cd2d5051df69b5520491a250400086b8b242ca1341988", func := "loop.example/g00471/laws.FnExactCaseToIf", spec := "fnExactCaseToIf", unfollowed := true, recurses := true, loops := true, apart := false, narrowed := true }
def FnExactCaseToIfUptoSaid : Prop := fnExactCaseToIfUptoRow.holds Try.pinned (OpenSpec.upto fnExactCaseToIfSpec)

/-- 'laws.FnExactFold', WHERE WHAT IT READS IS OF BULK AT MOST 1048576: true; the input reads as it did. -/
def fnExactFoldUptoRow : OpenClaim := { program := "ytpndcfibjjkgcaa", sum := "9990582046b30b77c60cd2d5051df69b5520491a250400086b8b242ca1341988", func := "loop.example/g00471/laws.FnExactFold", spec := "fnExactFold", unfollowed := true, recurses := true, loops := true, apart := false, narrowed := true }
def FnExactFoldUptoSaid : Prop := fnExactFoldUptoRow.holds Try.pinned (OpenSpec.upto fnExactFoldSpec)

end Rows
end Go.Proofs.Ytpndcfibjjkgcaa
