/-
  DERIVED. GIVEN WITH THE SEED: THE CARDS: each row of YtkbnfhgldcfceaaDoorRows.lean that lists a variable, with what it lists TIED to the program's text (the seventh form; the later family's looks); each row that meets fmt, with fmt's text TOLD by the authors' own Lean function (tested against real Go, not proved from fmt's source: count such statements apart). THE CARD IS WHAT COUNTS. Prove the row's statement (the work); the ties are given (YtkbnfhgldcfceaaDoorTie.lean); close each card by the builder's one call (the guide's Derived/Test/ToyasCard.lean, 'card_holds'). Laid BY PROGRAM, IN A SANDBOX (cutbox-door.mjs). By AI agents, Wed Nov 11 2026. No macro, syntax, notation, axiom, sorry.
-/
import Derived.Test.YtkbnfhgldcfceaaDoorRows
import GoSem.ClaimSeven
namespace Go.Proofs.YtkbnfhgldcfceaaDoor
namespace Rows

/-- THE TIED CARD OF 'laws.FnExactLineOf'. -/
def fnExactLineOfCard : Claim7 := { stood := { row := fnExactLineOfRow, standIns := [], harness := (true, "529b8e5b043d02195ba3cfec04118991c4ab7bdd4d2cc3b3dba8a9c7f79e0839"), looks := false }, kinds := [], alts := [], laidByText := true, laidKinds := [.data, .pinned], laidTests := true, laidLooks := .later }
def FnExactLineOfCardSaid : Prop := Claim7.holds Tryd.pinned (.plain (OpenSpec.ofChange fnExactLineOfSpec)) fnExactLineOfCard

/-- THE TIED CARD OF 'laws.FnResTexts'. -/
def fnResTextsCard : Claim7 := { stood := { row := fnResTextsRow, standIns := [], harness := (true, "529b8e5b043d02195ba3cfec04118991c4ab7bdd4d2cc3b3dba8a9c7f79e0839"), looks := false }, kinds := [], alts := [], laidByText := true, laidKinds := [.data, .data, .data], laidTests := true, laidLooks := .later }
def FnResTextsCardSaid : Prop := Claim7.holds Tryd.pinned (.plain (OpenSpec.ofChange fnResTextsSpec)) fnResTextsCard

/-- THE SECOND FORM's CARD OF 'laws.FnExactLineOf'. -/
def fnExactLineOfUptoCard : Claim7 := { stood := { row := fnExactLineOfUptoRow, standIns := [], harness := (true, "529b8e5b043d02195ba3cfec04118991c4ab7bdd4d2cc3b3dba8a9c7f79e0839"), looks := false }, kinds := [], alts := [], laidByText := true, laidKinds := [.data, .pinned], laidTests := true, laidLooks := .later }
def FnExactLineOfUptoCardSaid : Prop := Claim7.holds Tryd.pinned (.plain (OpenSpec.upto fnExactLineOfSpec)) fnExactLineOfUptoCard

/-- THE SECOND FORM's CARD OF 'laws.FnResTexts'. -/
def fnResTextsUptoCard : Claim7 := { stood := { row := fnResTextsUptoRow, standIns := [], harness := (true, "529b8e5b043d02195ba3cfec04118991c4ab7bdd4d2cc3b3dba8a9c7f79e0839"), looks := false }, kinds := [], alts := [], laidByText := true, laidKinds := [.data, .data, .data], laidTests := true, laidLooks := .later }
def FnResTextsUptoCardSaid : Prop := Claim7.holds Tryd.pinned (.plain (OpenSpec.upto fnResTextsSpec)) fnResTextsUptoCard
end Rows
end Go.Proofs.YtkbnfhgldcfceaaDoor
