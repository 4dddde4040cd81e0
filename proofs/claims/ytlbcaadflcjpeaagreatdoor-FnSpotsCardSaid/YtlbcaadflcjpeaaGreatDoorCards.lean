/-
  DERIVED. GIVEN WITH THE SEED: THE CARDS: each row of YtlbcaadflcjpeaaGreatDoorRows.lean that lists a variable, with what it lists TIED to the program's text (the seventh form; the later family's looks); each row that meets fmt, with fmt's text TOLD by the authors' own Lean function (tested against real Go, not proved from fmt's source: count such statements apart). THE CARD IS WHAT COUNTS. Prove the row's statement (the work); the ties are given (YtlbcaadflcjpeaaGreatDoorTie.lean); close each card by the builder's one call (the guide's Derived/Test/ToyasCard.lean, 'card_holds'). Laid BY PROGRAM, IN A SANDBOX (cutbox-door.mjs). By AI agents, Wed Nov 11 2026. No macro, syntax, notation, axiom, sorry.
-/
import Derived.Test.YtlbcaadflcjpeaaGreatDoorRows
import GoSem.ClaimSeven
namespace Go.Proofs.YtlbcaadflcjpeaaGreatDoor
namespace Rows

/-- THE TIED CARD OF 'laws.FnSpots'. -/
def fnSpotsCard : Claim7 := { stood := { row := fnSpotsRow, standIns := [], harness := (true, "4c14e2e2d1e1d22b3dba0cf2c085a40b86eb3e75e45b857fdab2163558609a29"), looks := false }, kinds := [], alts := [], laidByText := true, laidKinds := [.data, .pinned], laidTests := true, laidLooks := .later }
def FnSpotsCardSaid : Prop := Claim7.holds Tryz.pinned (.plain (OpenSpec.ofChange fnSpotsSpec)) fnSpotsCard

/-- THE SECOND FORM's CARD OF 'laws.FnSpots'. -/
def fnSpotsUptoCard : Claim7 := { stood := { row := fnSpotsUptoRow, standIns := [], harness := (true, "4c14e2e2d1e1d22b3dba0cf2c085a40b86eb3e75e45b857fdab2163558609a29"), looks := false }, kinds := [], alts := [], laidByText := true, laidKinds := [.data, .pinned], laidTests := true, laidLooks := .later }
def FnSpotsUptoCardSaid : Prop := Claim7.holds Tryz.pinned (.plain (OpenSpec.upto fnSpotsSpec)) fnSpotsUptoCard
end Rows
end Go.Proofs.YtlbcaadflcjpeaaGreatDoor
