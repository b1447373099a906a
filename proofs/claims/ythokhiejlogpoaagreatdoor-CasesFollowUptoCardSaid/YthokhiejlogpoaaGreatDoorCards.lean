/-
  DERIVED. GIVEN WITH THE SEED: THE CARDS: each row of YthokhiejlogpoaaGreatDoorRows.lean that lists a variable, with what it lists TIED to the program's text (the seventh form; the later family's looks); each row that meets fmt, with fmt's text TOLD by the authors' own Lean function (tested against real Go, not proved from fmt's source: count such statements apart). THE CARD IS WHAT COUNTS. Prove the row's statement (the work); the ties are given (YthokhiejlogpoaaGreatDoorTie.lean); close each card by the builder's one call (the guide's Derived/Test/ToyasCard.lean, 'card_holds'). Laid BY PROGRAM, IN A SANDBOX (cutbox-door.mjs). By AI agents, Wed Nov 11 2026. No macro, syntax, notation, axiom, sorry.
-/
import Derived.Test.YthokhiejlogpoaaGreatDoorRows
import GoSem.ClaimSeven
namespace Go.Proofs.YthokhiejlogpoaaGreatDoor
namespace Rows

/-- THE TIED CARD OF 'statutelaw3.FactsHold'. -/
def factsHoldCard : Claim7 := { stood := { row := factsHoldRow, standIns := [], harness := (true, "87ef3a4c7f1ef273f556c480ab769eaee4af58fc5d3c56d3f800b825c1db5cc4"), looks := true }, kinds := [], alts := [], laidByText := true, laidKinds := [.handle, .sentinel, .sentinel, .sentinel, .sentinel, .sentinel, .sentinel, .sentinel, .sentinel, .sentinel, .sentinel, .sentinel], laidTests := true, laidLooks := .later }
def FactsHoldCardSaid : Prop := Claim7.holds Tryz.pinned (.plain (OpenSpec.ofChange factsHoldSpec)) factsHoldCard

/-- THE TIED CARD OF 'statutelaw5.CasesGo'. -/
def casesGoCard : Claim7 := { stood := { row := casesGoRow, standIns := [], harness := (true, "87ef3a4c7f1ef273f556c480ab769eaee4af58fc5d3c56d3f800b825c1db5cc4"), looks := true }, kinds := [], alts := [], laidByText := true, laidKinds := [.handle, .sentinel, .sentinel, .sentinel, .sentinel, .sentinel, .sentinel, .sentinel, .sentinel, .sentinel, .sentinel, .sentinel], laidTests := true, laidLooks := .later }
def CasesGoCardSaid : Prop := Claim7.holds Tryz.pinned (.plain (OpenSpec.ofChange casesGoSpec)) casesGoCard

/-- THE TIED CARD OF 'statutelaw5.CasesFollow'. -/
def casesFollowCard : Claim7 := { stood := { row := casesFollowRow, standIns := [], harness := (true, "87ef3a4c7f1ef273f556c480ab769eaee4af58fc5d3c56d3f800b825c1db5cc4"), looks := true }, kinds := [], alts := [], laidByText := true, laidKinds := [.handle, .sentinel, .sentinel, .sentinel, .sentinel, .sentinel, .sentinel, .sentinel, .sentinel, .sentinel, .sentinel, .sentinel], laidTests := true, laidLooks := .later }
def CasesFollowCardSaid : Prop := Claim7.holds Tryz.pinned (.plain (OpenSpec.ofChange casesFollowSpec)) casesFollowCard

/-- THE SECOND FORM's CARD OF 'statutelaw3.FactsHold'. -/
def factsHoldUptoCard : Claim7 := { stood := { row := factsHoldUptoRow, standIns := [], harness := (true, "87ef3a4c7f1ef273f556c480ab769eaee4af58fc5d3c56d3f800b825c1db5cc4"), looks := true }, kinds := [], alts := [], laidByText := true, laidKinds := [.handle, .sentinel, .sentinel, .sentinel, .sentinel, .sentinel, .sentinel, .sentinel, .sentinel, .sentinel, .sentinel, .sentinel], laidTests := true, laidLooks := .later }
def FactsHoldUptoCardSaid : Prop := Claim7.holds Tryz.pinned (.plain (OpenSpec.upto factsHoldSpec)) factsHoldUptoCard

/-- THE SECOND FORM's CARD OF 'statutelaw5.CasesGo'. -/
def casesGoUptoCard : Claim7 := { stood := { row := casesGoUptoRow, standIns := [], harness := (true, "87ef3a4c7f1ef273f556c480ab769eaee4af58fc5d3c56d3f800b825c1db5cc4"), looks := true }, kinds := [], alts := [], laidByText := true, laidKinds := [.handle, .sentinel, .sentinel, .sentinel, .sentinel, .sentinel, .sentinel, .sentinel, .sentinel, .sentinel, .sentinel, .sentinel], laidTests := true, laidLooks := .later }
def CasesGoUptoCardSaid : Prop := Claim7.holds Tryz.pinned (.plain (OpenSpec.upto casesGoSpec)) casesGoUptoCard

/-- THE SECOND FORM's CARD OF 'statutelaw5.CasesFollow'. -/
def casesFollowUptoCard : Claim7 := { stood := { row := casesFollowUptoRow, standIns := [], harness := (true, "87ef3a4c7f1ef273f556c480ab769eaee4af58fc5d3c56d3f800b825c1db5cc4"), looks := true }, kinds := [], alts := [], laidByText := true, laidKinds := [.handle, .sentinel, .sentinel, .sentinel, .sentinel, .sentinel, .sentinel, .sentinel, .sentinel, .sentinel, .sentinel, .sentinel], laidTests := true, laidLooks := .later }
def CasesFollowUptoCardSaid : Prop := Claim7.holds Tryz.pinned (.plain (OpenSpec.upto casesFollowSpec)) casesFollowUptoCard
end Rows
end Go.Proofs.YthokhiejlogpoaaGreatDoor
