/-
  DERIVED. GIVEN WITH THE SEED: THE CARDS: each row of YtdfajigepchccaaGreatDoorRows.lean that lists a variable, with what it lists TIED to the program's text (the seventh form; the later family's looks); each row that meets fmt, with fmt's text TOLD by the authors' own Lean function (tested against real Go, not proved from fmt's source: count such statements apart). THE CARD IS WHAT COUNTS. Prove the row's statement (the work); the ties are given (YtdfajigepchccaaGreatDoorTie.lean); close each card by the builder's one call (the guide's Derived/Test/ToyasCard.lean, 'card_holds'). Laid BY PROGRAM, IN A SANDBOX (cutbox-door.mjs). By AI agents, Wed Nov 11 2026. No macro, syntax, notation, axiom, sorry.
-/
import Derived.Test.YtdfajigepchccaaGreatDoorRows
import GoSem.ClaimSeven
namespace Go.Proofs.YtdfajigepchccaaGreatDoor
namespace Rows

/-- THE TIED CARD OF 'statutelaw1.CoinRead'. -/
def coinReadCard : Claim7 := { stood := { row := coinReadRow, standIns := [], harness := (true, "4381db05b73df9a79ccdceca6b62147b4e2a0f9c2ac294ea1f36739e4aa2a0bf"), looks := true }, kinds := [], alts := [], laidByText := true, laidKinds := [.data, .data, .data, .data, .handle, .sentinel, .sentinel, .sentinel, .sentinel, .sentinel, .sentinel, .sentinel, .sentinel, .sentinel, .sentinel, .sentinel, .sentinel, .sentinel, .pinned], laidTests := true, laidLooks := .later }
def CoinReadCardSaid : Prop := Claim7.holds Tryz.pinned (.plain (OpenSpec.ofChange coinReadSpec)) coinReadCard

/-- THE TIED CARD OF 'statutelaw1.CoinBands'. -/
def coinBandsCard : Claim7 := { stood := { row := coinBandsRow, standIns := [], harness := (true, "4381db05b73df9a79ccdceca6b62147b4e2a0f9c2ac294ea1f36739e4aa2a0bf"), looks := true }, kinds := [], alts := [], laidByText := true, laidKinds := [.data, .data, .data, .data, .handle, .sentinel, .sentinel, .sentinel, .sentinel, .sentinel, .sentinel, .sentinel, .sentinel, .sentinel, .sentinel, .sentinel, .sentinel, .sentinel, .pinned], laidTests := true, laidLooks := .later }
def CoinBandsCardSaid : Prop := Claim7.holds Tryz.pinned (.plain (OpenSpec.ofChange coinBandsSpec)) coinBandsCard

/-- THE TIED CARD OF 'statutelaw1.CoinShare'. -/
def coinShareCard : Claim7 := { stood := { row := coinShareRow, standIns := [], harness := (true, "4381db05b73df9a79ccdceca6b62147b4e2a0f9c2ac294ea1f36739e4aa2a0bf"), looks := true }, kinds := [], alts := [], laidByText := true, laidKinds := [.data, .data, .data, .data, .handle, .sentinel, .sentinel, .sentinel, .sentinel, .sentinel, .sentinel, .sentinel, .sentinel, .sentinel, .sentinel, .sentinel, .sentinel, .sentinel, .pinned], laidTests := true, laidLooks := .later }
def CoinShareCardSaid : Prop := Claim7.holds Tryz.pinned (.plain (OpenSpec.ofChange coinShareSpec)) coinShareCard

/-- THE SECOND FORM's CARD OF 'statutelaw1.CoinRead'. -/
def coinReadUptoCard : Claim7 := { stood := { row := coinReadUptoRow, standIns := [], harness := (true, "4381db05b73df9a79ccdceca6b62147b4e2a0f9c2ac294ea1f36739e4aa2a0bf"), looks := true }, kinds := [], alts := [], laidByText := true, laidKinds := [.data, .data, .data, .data, .handle, .sentinel, .sentinel, .sentinel, .sentinel, .sentinel, .sentinel, .sentinel, .sentinel, .sentinel, .sentinel, .sentinel, .sentinel, .sentinel, .pinned], laidTests := true, laidLooks := .later }
def CoinReadUptoCardSaid : Prop := Claim7.holds Tryz.pinned (.plain (OpenSpec.upto coinReadSpec)) coinReadUptoCard

/-- THE SECOND FORM's CARD OF 'statutelaw1.CoinBands'. -/
def coinBandsUptoCard : Claim7 := { stood := { row := coinBandsUptoRow, standIns := [], harness := (true, "4381db05b73df9a79ccdceca6b62147b4e2a0f9c2ac294ea1f36739e4aa2a0bf"), looks := true }, kinds := [], alts := [], laidByText := true, laidKinds := [.data, .data, .data, .data, .handle, .sentinel, .sentinel, .sentinel, .sentinel, .sentinel, .sentinel, .sentinel, .sentinel, .sentinel, .sentinel, .sentinel, .sentinel, .sentinel, .pinned], laidTests := true, laidLooks := .later }
def CoinBandsUptoCardSaid : Prop := Claim7.holds Tryz.pinned (.plain (OpenSpec.upto coinBandsSpec)) coinBandsUptoCard

/-- THE SECOND FORM's CARD OF 'statutelaw1.CoinShare'. -/
def coinShareUptoCard : Claim7 := { stood := { row := coinShareUptoRow, standIns := [], harness := (true, "4381db05b73df9a79ccdceca6b62147b4e2a0f9c2ac294ea1f36739e4aa2a0bf"), looks := true }, kinds := [], alts := [], laidByText := true, laidKinds := [.data, .data, .data, .data, .handle, .sentinel, .sentinel, .sentinel, .sentinel, .sentinel, .sentinel, .sentinel, .sentinel, .sentinel, .sentinel, .sentinel, .sentinel, .sentinel, .pinned], laidTests := true, laidLooks := .later }
def CoinShareUptoCardSaid : Prop := Claim7.holds Tryz.pinned (.plain (OpenSpec.upto coinShareSpec)) coinShareUptoCard
end Rows
end Go.Proofs.YtdfajigepchccaaGreatDoor
