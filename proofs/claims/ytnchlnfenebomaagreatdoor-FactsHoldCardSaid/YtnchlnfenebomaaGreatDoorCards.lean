/-
  DERIVED. GIVEN WITH THE SEED: THE CARDS: each row of YtnchlnfenebomaaGreatDoorRows.lean that lists a variable, with what it lists TIED to the program's text (the seventh form; the later family's looks); each row that meets fmt, with fmt's text TOLD by the authors' own Lean function (tested against real Go, not proved from fmt's source: count such statements apart). THE CARD IS WHAT COUNTS. Prove the row's statement (the work); the ties are given (YtnchlnfenebomaaGreatDoorTie.lean); close each card by the builder's one call (the guide's Derived/Test/ToyasCard.lean, 'card_holds'). Laid BY PROGRAM, IN A SANDBOX (cutbox-door.mjs). By AI agents, Wed Nov 11 2026. No macro, syntax, notation, axiom, sorry.
-/
import Derived.Test.YtnchlnfenebomaaGreatDoorRows
import GoSem.ClaimSeven
namespace Go.Proofs.YtnchlnfenebomaaGreatDoor
namespace Rows

/-- THE TIED CARD OF 'statutelaw3.FactsHold'. -/
def factsHoldCard : Claim7 := { stood := { row := factsHoldRow, standIns := [], harness := (true, "71012b2c281a8d02db56ed86e64e971a08f1094fd25e3c51bbe6e1007a120ef5"), looks := true }, kinds := [], alts := [], laidByText := true, laidKinds := [.handle, .sentinel, .sentinel, .sentinel, .sentinel, .sentinel, .sentinel, .sentinel, .sentinel, .sentinel, .sentinel, .sentinel], laidTests := true, laidLooks := .later }
def FactsHoldCardSaid : Prop := Claim7.holds Tryz.pinned (.plain (OpenSpec.ofChange factsHoldSpec)) factsHoldCard

/-- THE TIED CARD OF 'statutelaw5.CasesGo'. -/
def casesGoCard : Claim7 := { stood := { row := casesGoRow, standIns := [], harness := (true, "71012b2c281a8d02db56ed86e64e971a08f1094fd25e3c51bbe6e1007a120ef5"), looks := true }, kinds := [], alts := [], laidByText := true, laidKinds := [.handle, .sentinel, .sentinel, .sentinel, .sentinel, .sentinel, .sentinel, .sentinel, .sentinel, .sentinel, .sentinel, .sentinel], laidTests := true, laidLooks := .later }
def CasesGoCardSaid : Prop := Claim7.holds Tryz.pinned (.plain (OpenSpec.ofChange casesGoSpec)) casesGoCard

/-- THE SECOND FORM's CARD OF 'statutelaw3.FactsHold'. -/
def factsHoldUptoCard : Claim7 := { stood := { row := factsHoldUptoRow, standIns := [], harness := (true, "71012b2c281a8d02db56ed86e64e971a08f1094fd25e3c51bbe6e1007a120ef5"), looks := true }, kinds := [], alts := [], laidByText := true, laidKinds := [.handle, .sentinel, .sentinel, .sentinel, .sentinel, .sentinel, .sentinel, .sentinel, .sentinel, .sentinel, .sentinel, .sentinel], laidTests := true, laidLooks := .later }
def FactsHoldUptoCardSaid : Prop := Claim7.holds Tryz.pinned (.plain (OpenSpec.upto factsHoldSpec)) factsHoldUptoCard

/-- THE SECOND FORM's CARD OF 'statutelaw5.CasesGo'. -/
def casesGoUptoCard : Claim7 := { stood := { row := casesGoUptoRow, standIns := [], harness := (true, "71012b2c281a8d02db56ed86e64e971a08f1094fd25e3c51bbe6e1007a120ef5"), looks := true }, kinds := [], alts := [], laidByText := true, laidKinds := [.handle, .sentinel, .sentinel, .sentinel, .sentinel, .sentinel, .sentinel, .sentinel, .sentinel, .sentinel, .sentinel, .sentinel], laidTests := true, laidLooks := .later }
def CasesGoUptoCardSaid : Prop := Claim7.holds Tryz.pinned (.plain (OpenSpec.upto casesGoSpec)) casesGoUptoCard
end Rows
end Go.Proofs.YtnchlnfenebomaaGreatDoor
