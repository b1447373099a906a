/-
  DERIVED. GIVEN WITH THE SEED: THE CARDS: each row of YtjfiodknjchngaaGreatDoorRows.lean that lists a variable, with what it lists TIED to the program's text (the seventh form; the later family's looks); each row that meets fmt, with fmt's text TOLD by the authors' own Lean function (tested against real Go, not proved from fmt's source: count such statements apart). THE CARD IS WHAT COUNTS. Prove the row's statement (the work); the ties are given (YtjfiodknjchngaaGreatDoorTie.lean); close each card by the builder's one call (the guide's Derived/Test/ToyasCard.lean, 'card_holds'). Laid BY PROGRAM, IN A SANDBOX (cutbox-door.mjs). By AI agents, Wed Nov 11 2026. No macro, syntax, notation, axiom, sorry.
-/
import Derived.Test.YtjfiodknjchngaaGreatDoorRows
import GoSem.ClaimSeven
namespace Go.Proofs.YtjfiodknjchngaaGreatDoor
namespace Rows

/-- THE TIED CARD OF 'statutelaw5.CasesGo'. -/
def casesGoCard : Claim7 := { stood := { row := casesGoRow, standIns := [], harness := (true, "c3598905939b1259b0af14c00634ad51cd0a83270d720b112ccd09e057ce5fbd"), looks := true }, kinds := [], alts := [], laidByText := true, laidKinds := [.handle, .sentinel, .sentinel, .sentinel, .sentinel, .sentinel, .sentinel, .sentinel, .sentinel, .sentinel, .sentinel, .sentinel], laidTests := true, laidLooks := .later }
def CasesGoCardSaid : Prop := Claim7.holds Tryz.pinned (.plain (OpenSpec.ofChange casesGoSpec)) casesGoCard

/-- THE TIED CARD OF 'statutelaw5.LedgerKeeps'. -/
def ledgerKeepsCard : Claim7 := { stood := { row := ledgerKeepsRow, standIns := [], harness := (true, "c3598905939b1259b0af14c00634ad51cd0a83270d720b112ccd09e057ce5fbd"), looks := true }, kinds := [], alts := [], laidByText := true, laidKinds := [.data, .handle, .sentinel, .sentinel, .sentinel, .sentinel, .sentinel, .sentinel, .sentinel, .sentinel, .sentinel, .sentinel, .sentinel, .pinned], laidTests := true, laidLooks := .later }
def LedgerKeepsCardSaid : Prop := Claim7.holds Tryz.pinned (.plain (OpenSpec.ofChange ledgerKeepsSpec)) ledgerKeepsCard

/-- THE SECOND FORM's CARD OF 'statutelaw5.CasesGo'. -/
def casesGoUptoCard : Claim7 := { stood := { row := casesGoUptoRow, standIns := [], harness := (true, "c3598905939b1259b0af14c00634ad51cd0a83270d720b112ccd09e057ce5fbd"), looks := true }, kinds := [], alts := [], laidByText := true, laidKinds := [.handle, .sentinel, .sentinel, .sentinel, .sentinel, .sentinel, .sentinel, .sentinel, .sentinel, .sentinel, .sentinel, .sentinel], laidTests := true, laidLooks := .later }
def CasesGoUptoCardSaid : Prop := Claim7.holds Tryz.pinned (.plain (OpenSpec.upto casesGoSpec)) casesGoUptoCard

/-- THE SECOND FORM's CARD OF 'statutelaw5.LedgerKeeps'. -/
def ledgerKeepsUptoCard : Claim7 := { stood := { row := ledgerKeepsUptoRow, standIns := [], harness := (true, "c3598905939b1259b0af14c00634ad51cd0a83270d720b112ccd09e057ce5fbd"), looks := true }, kinds := [], alts := [], laidByText := true, laidKinds := [.data, .handle, .sentinel, .sentinel, .sentinel, .sentinel, .sentinel, .sentinel, .sentinel, .sentinel, .sentinel, .sentinel, .sentinel, .pinned], laidTests := true, laidLooks := .later }
def LedgerKeepsUptoCardSaid : Prop := Claim7.holds Tryz.pinned (.plain (OpenSpec.upto ledgerKeepsSpec)) ledgerKeepsUptoCard
end Rows
end Go.Proofs.YtjfiodknjchngaaGreatDoor
