/-
  DERIVED. GIVEN WITH THE SEED: THE CARDS: each row of YtcpcejmlnhflpaaGreatDoorRows.lean that lists a variable, with what it lists TIED to the program's text (the seventh form; the later family's looks); each row that meets fmt, with fmt's text TOLD by the authors' own Lean function (tested against real Go, not proved from fmt's source: count such statements apart). THE CARD IS WHAT COUNTS. Prove the row's statement (the work); the ties are given (YtcpcejmlnhflpaaGreatDoorTie.lean); close each card by the builder's one call (the guide's Derived/Test/ToyasCard.lean, 'card_holds'). Laid BY PROGRAM, IN A SANDBOX (cutbox-door.mjs). By AI agents, Wed Nov 11 2026. No macro, syntax, notation, axiom, sorry.
-/
import Derived.Test.YtcpcejmlnhflpaaGreatDoorRows
import GoSem.ClaimSeven
namespace Go.Proofs.YtcpcejmlnhflpaaGreatDoor
namespace Rows

/-- THE TIED CARD OF 'statutelaw3.FactsHold'. -/
def factsHoldCard : Claim7 := { stood := { row := factsHoldRow, standIns := [], harness := (true, "e12c368287e3e2299f1a0c76675e03bd9a21d13993465aed9385c200053c0f8e"), looks := true }, kinds := [], alts := [], laidByText := true, laidKinds := [.handle, .sentinel, .sentinel, .sentinel, .sentinel, .sentinel, .sentinel, .sentinel, .sentinel, .sentinel, .sentinel, .sentinel], laidTests := true, laidLooks := .later }
def FactsHoldCardSaid : Prop := Claim7.holds Tryz.pinned (.plain (OpenSpec.ofChange factsHoldSpec)) factsHoldCard

/-- THE TIED CARD OF 'statutelaw5.DutiesStand'. -/
def dutiesStandCard : Claim7 := { stood := { row := dutiesStandRow, standIns := [], harness := (true, "e12c368287e3e2299f1a0c76675e03bd9a21d13993465aed9385c200053c0f8e"), looks := true }, kinds := [], alts := [], laidByText := true, laidKinds := [.handle, .sentinel, .sentinel, .sentinel, .sentinel, .sentinel, .sentinel, .sentinel, .sentinel, .sentinel, .sentinel, .sentinel], laidTests := true, laidLooks := .later }
def DutiesStandCardSaid : Prop := Claim7.holds Tryz.pinned (.plain (OpenSpec.ofChange dutiesStandSpec)) dutiesStandCard

/-- THE TIED CARD OF 'statutelaw5.CasesFollow'. -/
def casesFollowCard : Claim7 := { stood := { row := casesFollowRow, standIns := [], harness := (true, "e12c368287e3e2299f1a0c76675e03bd9a21d13993465aed9385c200053c0f8e"), looks := true }, kinds := [], alts := [], laidByText := true, laidKinds := [.handle, .sentinel, .sentinel, .sentinel, .sentinel, .sentinel, .sentinel, .sentinel, .sentinel, .sentinel, .sentinel, .sentinel], laidTests := true, laidLooks := .later }
def CasesFollowCardSaid : Prop := Claim7.holds Tryz.pinned (.plain (OpenSpec.ofChange casesFollowSpec)) casesFollowCard

/-- THE SECOND FORM's CARD OF 'statutelaw3.FactsHold'. -/
def factsHoldUptoCard : Claim7 := { stood := { row := factsHoldUptoRow, standIns := [], harness := (true, "e12c368287e3e2299f1a0c76675e03bd9a21d13993465aed9385c200053c0f8e"), looks := true }, kinds := [], alts := [], laidByText := true, laidKinds := [.handle, .sentinel, .sentinel, .sentinel, .sentinel, .sentinel, .sentinel, .sentinel, .sentinel, .sentinel, .sentinel, .sentinel], laidTests := true, laidLooks := .later }
def FactsHoldUptoCardSaid : Prop := Claim7.holds Tryz.pinned (.plain (OpenSpec.upto factsHoldSpec)) factsHoldUptoCard

/-- THE SECOND FORM's CARD OF 'statutelaw5.DutiesStand'. -/
def dutiesStandUptoCard : Claim7 := { stood := { row := dutiesStandUptoRow, standIns := [], harness := (true, "e12c368287e3e2299f1a0c76675e03bd9a21d13993465aed9385c200053c0f8e"), looks := true }, kinds := [], alts := [], laidByText := true, laidKinds := [.handle, .sentinel, .sentinel, .sentinel, .sentinel, .sentinel, .sentinel, .sentinel, .sentinel, .sentinel, .sentinel, .sentinel], laidTests := true, laidLooks := .later }
def DutiesStandUptoCardSaid : Prop := Claim7.holds Tryz.pinned (.plain (OpenSpec.upto dutiesStandSpec)) dutiesStandUptoCard

/-- THE SECOND FORM's CARD OF 'statutelaw5.CasesFollow'. -/
def casesFollowUptoCard : Claim7 := { stood := { row := casesFollowUptoRow, standIns := [], harness := (true, "e12c368287e3e2299f1a0c76675e03bd9a21d13993465aed9385c200053c0f8e"), looks := true }, kinds := [], alts := [], laidByText := true, laidKinds := [.handle, .sentinel, .sentinel, .sentinel, .sentinel, .sentinel, .sentinel, .sentinel, .sentinel, .sentinel, .sentinel, .sentinel], laidTests := true, laidLooks := .later }
def CasesFollowUptoCardSaid : Prop := Claim7.holds Tryz.pinned (.plain (OpenSpec.upto casesFollowSpec)) casesFollowUptoCard
end Rows
end Go.Proofs.YtcpcejmlnhflpaaGreatDoor
