/-
  DERIVED. GIVEN WITH THE SEED: THE CARDS: each row of YtjfiodknjchngaaDoorRows.lean that lists a variable, with what it lists TIED to the program's text (the seventh form; the later family's looks); each row that meets fmt, with fmt's text TOLD by the authors' own Lean function (tested against real Go, not proved from fmt's source: count such statements apart). THE CARD IS WHAT COUNTS. Prove the row's statement (the work); the ties are given (YtjfiodknjchngaaDoorTie.lean); close each card by the builder's one call (the guide's Derived/Test/ToyasCard.lean, 'card_holds'). Laid BY PROGRAM, IN A SANDBOX (cutbox-door.mjs). By AI agents, Wed Nov 11 2026. No macro, syntax, notation, axiom, sorry.
-/
import Derived.Test.YtjfiodknjchngaaDoorRows
import GoSem.ClaimSeven
namespace Go.Proofs.YtjfiodknjchngaaDoor
namespace Rows

/-- THE TIED CARD OF 'statutelaw5.GapsParted'. -/
def gapsPartedCard : Claim7 := { stood := { row := gapsPartedRow, standIns := [], harness := (true, "f77ea6811e9d426810ff4beea5ba576d45da93fa65d979fa1461a0009b2c9bad"), looks := true }, kinds := [], alts := [], laidByText := true, laidKinds := [.data, .handle, .sentinel, .sentinel, .sentinel, .sentinel, .sentinel, .sentinel, .sentinel, .sentinel, .sentinel, .sentinel, .sentinel, .pinned], laidTests := true, laidLooks := .later }
def GapsPartedCardSaid : Prop := Claim7.holds Tryd.pinned (.plain (OpenSpec.ofChange gapsPartedSpec)) gapsPartedCard

/-- THE TIED CARD OF 'statutelaw5.CasesEnd'. -/
def casesEndCard : Claim7 := { stood := { row := casesEndRow, standIns := [], harness := (true, "f77ea6811e9d426810ff4beea5ba576d45da93fa65d979fa1461a0009b2c9bad"), looks := true }, kinds := [], alts := [], laidByText := true, laidKinds := [.sentinel, .sentinel, .sentinel, .sentinel, .sentinel, .sentinel], laidTests := true, laidLooks := .later }
def CasesEndCardSaid : Prop := Claim7.holds Tryd.pinned (.plain (OpenSpec.ofChange casesEndSpec)) casesEndCard

/-- THE SECOND FORM's CARD OF 'statutelaw5.GapsParted'. -/
def gapsPartedUptoCard : Claim7 := { stood := { row := gapsPartedUptoRow, standIns := [], harness := (true, "f77ea6811e9d426810ff4beea5ba576d45da93fa65d979fa1461a0009b2c9bad"), looks := true }, kinds := [], alts := [], laidByText := true, laidKinds := [.data, .handle, .sentinel, .sentinel, .sentinel, .sentinel, .sentinel, .sentinel, .sentinel, .sentinel, .sentinel, .sentinel, .sentinel, .pinned], laidTests := true, laidLooks := .later }
def GapsPartedUptoCardSaid : Prop := Claim7.holds Tryd.pinned (.plain (OpenSpec.upto gapsPartedSpec)) gapsPartedUptoCard

/-- THE SECOND FORM's CARD OF 'statutelaw5.CasesEnd'. -/
def casesEndUptoCard : Claim7 := { stood := { row := casesEndUptoRow, standIns := [], harness := (true, "f77ea6811e9d426810ff4beea5ba576d45da93fa65d979fa1461a0009b2c9bad"), looks := true }, kinds := [], alts := [], laidByText := true, laidKinds := [.sentinel, .sentinel, .sentinel, .sentinel, .sentinel, .sentinel], laidTests := true, laidLooks := .later }
def CasesEndUptoCardSaid : Prop := Claim7.holds Tryd.pinned (.plain (OpenSpec.upto casesEndSpec)) casesEndUptoCard
end Rows
end Go.Proofs.YtjfiodknjchngaaDoor
