/-
  No cell of these rows narrows 'for every input' (looked for: loops, veiled, ifaces, maps, wideKeys, modest, calm, conditions, laid).
  DERIVED. THE GIVEN ROWS OF THIS SEAT. 3 by the template 'for every input the law returns true; each argument reads behind the call as it read before'; 0 by the template 'total and deterministic' (their statements: YtkbnfhgldcfceaaTotals.lean).
  GIVEN WITH THE SEED: the statements are not yours to turn. If you find one false, say at which input.
  Laid BY PROGRAM, IN A SANDBOX (cutbox-rows.mjs): the forced cells as the released guide's own fill.sh prints them over the translation c9a8d1d3d027172f… (all of the seat's roots in one cut). By AI agents, Wed Nov 11 2026. No macro, syntax, notation, axiom, sorry.
-/
import Derived.Test.YtkbnfhgldcfceaaChecked
import GoSem.Claim
import GoSem.ClaimJoined
import GoSem.ClaimMapViews
import Derived.JoinedTies
import Derived.KernelRfl
namespace Go.Proofs.Ytkbnfhgldcfceaa
/- THE CELL 'sum', in the pinned program and in every row, IS THE sha256 OF THE DUMP (.gsa) THAT YtkbnfhgldcfceaaProg.lean LOADS. Nothing in Lean hashes anything: it is a label: what it is worth is what the hold of that sum in a sandbox is worth. -/
noncomputable def Try.pinned : Pinned := { name := "ytkbnfhgldcfceaa", sum := "c9a8d1d3d027172f5d958ed0e379348650e21bfb510913faa6ecd235bf1ae28a", checked := Try.checked }
namespace Rows
def none {H : Type} : Left H := { results := [], args := [] }

/-- 'laws.FnExactLines': WHATEVER THE INPUT: true; the input reads as it did. -/
def fnExactLinesSpec : ChangeSpec := { name := "fnExactLines", fn := fun _ => fun
  | [d] => { results := [.lit (.bool true)], args := [d] }
  | _ => none }
def fnExactLinesRow : OpenClaim := { program := "ytkbnfhgldcfceaa", sum := "c9a8d1d3d027172f5d958ed0e379348650e21bfb510913faa6ecd235bf1ae28a", func := "loop.example/g00471/laws.FnExactLines", spec := "fnExactLines", inPlace := ["internal/bytealg.CountString", "internal/bytealg.IndexByteString", "internal/bytealg.IndexString"], named := ["internal/bytealg.MaxLen"], apart := false }
def FnExactLinesSaid : Prop := fnExactLinesRow.holds Try.pinned (OpenSpec.ofChange fnExactLinesSpec)

/-- ITS FALSE NEIGHBOUR: 'it returns false'. Refute it at one input. -/
def fnExactLinesWrong : ChangeSpec := { name := "fnExactLines", fn := fun _ => fun
  | [d] => { results := [.lit (.bool false)], args := [d] }
  | _ => none }
def FnExactLinesWrongFalsely : Prop := fnExactLinesRow.holds Try.pinned (OpenSpec.ofChange fnExactLinesWrong)

/-- 'laws.FnExactSpots': WHATEVER THE INPUT: true; the input reads as it did. -/
def fnExactSpotsSpec : ChangeSpec := { name := "fnExactSpots", fn := fun _ => fun
  | [d1, d2] => { results := [.lit (.bool true)], args := [d1, d2] }
  | _ => none }
def fnExactSpotsRow : OpenClaim := { program := "ytkbnfhgldcfceaa", sum := "c9a8d1d3d027172f5d958ed0e379348650e21bfb510913faa6ecd235bf1ae28a", func := "loop.example/g00471/laws.FnExactSpots", spec := "fnExactSpots", unfollowed := true, recurses := true, apart := false }
def FnExactSpotsSaid : Prop := fnExactSpotsRow.holds Try.pinned (OpenSpec.ofChange fnExactSpotsSpec)

/-- ITS FALSE NEIGHBOUR: 'it returns false'. Refute it at one input. -/
def fnExactSpotsWrong : ChangeSpec := { name := "fnExactSpots", fn := fun _ => fun
  | [d1, d2] => { results := [.lit (.bool false)], args := [d1, d2] }
  | _ => none }
def FnExactSpotsWrongFalsely : Prop := fnExactSpotsRow.holds Try.pinned (OpenSpec.ofChange fnExactSpotsWrong)

/-- 'laws.FnExactDefSpot': WHATEVER THE INPUT: true; the input reads as it did. -/
def fnExactDefSpotSpec : ChangeSpec := { name := "fnExactDefSpot", fn := fun _ => fun
  | [d1, d2] => { results := [.lit (.bool true)], args := [d1, d2] }
  | _ => none }
def fnExactDefSpotRow : OpenClaim := { program := "ytkbnfhgldcfceaa", sum := "c9a8d1d3d027172f5d958ed0e379348650e21bfb510913faa6ecd235bf1ae28a", func := "loop.example/g00471/laws.FnExactDefSpot", spec := "fnExactDefSpot", unfollowed := true, recurses := true, apart := false }
def FnExactDefSpotSaid : Prop := fnExactDefSpotRow.holds Try.pinned (OpenSpec.ofChange fnExactDefSpotSpec)

/-- ITS FALSE NEIGHBOUR: 'it returns false'. Refute it at one input. -/
def fnExactDefSpotWrong : ChangeSpec := { name := "fnExactDefSpot", fn := fun _ => fun
  | [d1, d2] => { results := [.lit (.bool false)], args := [d1, d2] }
  | _ => none }
def FnExactDefSpotWrongFalsely : Prop := fnExactDefSpotRow.holds Try.pinned (OpenSpec.ofChange fnExactDefSpotWrong)

/- THE SECOND FORM. 'bulk': how many values and letters a reading holds, each counted each time it is reached (what is shared counts as often as it is met; a slice's spare places count too). A statement '..UptoSaid' is the law's where the arguments, and the package variables that the reading takes, are together of bulk at most 1048576: NARROWER than '..Said'. Prove '..Said' where nothing that the law and all that it calls make is longer than what came in: it says more and counts as full. Else prove '..UptoSaid'. A law counts once. -/
mutual
def uptoBulk {H : Type} : DataW H → Nat
  | .lit (.string bytes) => bytes.length + 1
  | .lit _ => 1
  | .nil => 1
  | .ptr d => uptoBulk d + 1
  | .slice elems spare => uptoBulkAll elems + uptoBulkAll spare + 1
  | .agg parts => uptoBulkAll parts + 1
  | .iface _ d => uptoBulk d + 1
  | .map entries => uptoBulkEntries entries + 1
  | .held _ => 1
def uptoBulkAll {H : Type} : List (DataW H) → Nat
  | [] => 0
  | d :: r => uptoBulk d + uptoBulkAll r
def uptoBulkEntries {H : Type} : List (Lit × DataW H) → Nat
  | [] => 0
  | x :: r => uptoBulkEntry x + uptoBulkEntries r
def uptoBulkEntry {H : Type} : Lit × DataW H → Nat
  | (.string bytes, d) => bytes.length + uptoBulk d + 1
  | (_, d) => uptoBulk d + 1
 end
def uptoSmall : (H : Type) → List (DataW H) → Bool := fun _ ds => decide (uptoBulkAll ds ≤ 1048576)
def OpenSpec.upto (s : _root_.Go.ChangeSpec) : _root_.Go.OpenSpec := { _root_.Go.OpenSpec.ofChange s with cond := some uptoSmall }

/-- 'laws.FnExactLines', WHERE WHAT IT READS IS OF BULK AT MOST 1048576: true; the input reads as it did. -/
def fnExactLinesUptoRow : OpenClaim := { program := "ytkbnfhgldcfceaa", sum := "c9a8d1d3d027172f5d958ed0e379348650e21bfb510913faa6ecd235bf1ae28a", func := "loop.example/g00471/laws.FnExactLines", spec := "fnExactLines", inPlace := ["internal/bytealg.CountString", "internal/bytealg.IndexByteString", "internal/bytealg.IndexString"], named := ["internal/bytealg.MaxLen"], apart := false, narrowed := true }
def FnExactLinesUptoSaid : Prop := fnExactLinesUptoRow.holds Try.pinned (OpenSpec.upto fnExactLinesSpec)

/-- 'laws.FnExactSpots', WHERE WHAT IT READS IS OF BULK AT MOST 1048576: true; the input reads as it did. -/
def fnExactSpotsUptoRow : OpenClaim := { program := "ytkbnfhgldcfceaa", sum := "c9a8d1d3d027172f5d958ed0e379348650e21bfb510913faa6ecd235bf1ae28a", func := "loop.example/g00471/laws.FnExactSpots", spec := "fnExactSpots", unfollowed := true, recurses := true, apart := false, narrowed := true }
def FnExactSpotsUptoSaid : Prop := fnExactSpotsUptoRow.holds Try.pinned (OpenSpec.upto fnExactSpotsSpec)

/-- 'laws.FnExactDefSpot', WHERE WHAT IT READS IS OF BULK AT MOST 1048576: true; the input reads as it did. -/
def fnExactDefSpotUptoRow : OpenClaim := { program := "ytkbnfhgldcfceaa", sum := "c9a8d1d3d027172f5d958ed0e379348650e21bfb510913faa6ecd235bf1ae28a", func := "loop.example/g00471/laws.FnExactDefSpot", spec := "fnExactDefSpot", unfollowed := true, recurses := true, apart := false, narrowed := true }
def FnExactDefSpotUptoSaid : Prop := fnExactDefSpotUptoRow.holds Try.pinned (OpenSpec.upto fnExactDefSpotSpec)

end Rows
end Go.Proofs.Ytkbnfhgldcfceaa
