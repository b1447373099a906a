/-
  DERIVED. GIVEN WITH THE SEED: THE CARDS: each row of YtednlkchbjpabaaDoorRows.lean that lists a variable, with what it lists TIED to the program's text (the seventh form; the later family's looks); each row that meets fmt, with fmt's text TOLD by the authors' own Lean function (tested against real Go, not proved from fmt's source: count such statements apart). THE CARD IS WHAT COUNTS. Prove the row's statement (the work); the ties are given (YtednlkchbjpabaaDoorTie.lean); close each card by the builder's one call (the guide's Derived/Test/ToyasCard.lean, 'card_holds'). Laid BY PROGRAM, IN A SANDBOX (cutbox-door.mjs). By AI agents, Wed Nov 11 2026. No macro, syntax, notation, axiom, sorry.
-/
import Derived.Test.YtednlkchbjpabaaDoorRows
import GoSem.ClaimSeven
namespace Go.Proofs.YtednlkchbjpabaaDoor
namespace Rows

/-- THE TIED CARD OF 'statutelaw5.GapsFound'. -/
def gapsFoundCard : Claim7 := { stood := { row := gapsFoundRow, standIns := [], harness := (true, "31cfb8184a8e3518ae338bb2ff4e7ebe7094d2d31f92812269adec93cd2d9752"), looks := true }, kinds := [], alts := [], laidByText := true, laidKinds := [.data, .handle, .sentinel, .sentinel, .sentinel, .sentinel, .sentinel, .sentinel, .sentinel, .sentinel, .sentinel, .sentinel, .sentinel, .pinned], laidTests := true, laidLooks := .later }
def GapsFoundCardSaid : Prop := Claim7.holds Tryd.pinned (.plain (OpenSpec.ofChange gapsFoundSpec)) gapsFoundCard

/-- THE TIED CARD OF 'statutelaw5.GapsParted'. -/
def gapsPartedCard : Claim7 := { stood := { row := gapsPartedRow, standIns := [], harness := (true, "31cfb8184a8e3518ae338bb2ff4e7ebe7094d2d31f92812269adec93cd2d9752"), looks := true }, kinds := [], alts := [], laidByText := true, laidKinds := [.data, .handle, .sentinel, .sentinel, .sentinel, .sentinel, .sentinel, .sentinel, .sentinel, .sentinel, .sentinel, .sentinel, .sentinel, .pinned], laidTests := true, laidLooks := .later }
def GapsPartedCardSaid : Prop := Claim7.holds Tryd.pinned (.plain (OpenSpec.ofChange gapsPartedSpec)) gapsPartedCard

/-- THE TIED CARD OF 'statutelaw5.GapsSame'. -/
def gapsSameCard : Claim7 := { stood := { row := gapsSameRow, standIns := [], harness := (true, "31cfb8184a8e3518ae338bb2ff4e7ebe7094d2d31f92812269adec93cd2d9752"), looks := true }, kinds := [], alts := [], laidByText := true, laidKinds := [.data, .handle, .sentinel, .sentinel, .sentinel, .sentinel, .sentinel, .sentinel, .sentinel, .sentinel, .sentinel, .sentinel, .sentinel, .pinned], laidTests := true, laidLooks := .later }
def GapsSameCardSaid : Prop := Claim7.holds Tryd.pinned (.plain (OpenSpec.ofChange gapsSameSpec)) gapsSameCard

/-- THE TIED CARD OF 'statutelaw5.CasesEnd'. -/
def casesEndCard : Claim7 := { stood := { row := casesEndRow, standIns := [], harness := (true, "31cfb8184a8e3518ae338bb2ff4e7ebe7094d2d31f92812269adec93cd2d9752"), looks := true }, kinds := [], alts := [], laidByText := true, laidKinds := [.sentinel, .sentinel, .sentinel, .sentinel, .sentinel, .sentinel], laidTests := true, laidLooks := .later }
def CasesEndCardSaid : Prop := Claim7.holds Tryd.pinned (.plain (OpenSpec.ofChange casesEndSpec)) casesEndCard

/-- THE SECOND FORM's CARD OF 'statutelaw5.GapsFound'. -/
def gapsFoundUptoCard : Claim7 := { stood := { row := gapsFoundUptoRow, standIns := [], harness := (true, "31cfb8184a8e3518ae338bb2ff4e7ebe7094d2d31f92812269adec93cd2d9752"), looks := true }, kinds := [], alts := [], laidByText := true, laidKinds := [.data, .handle, .sentinel, .sentinel, .sentinel, .sentinel, .sentinel, .sentinel, .sentinel, .sentinel, .sentinel, .sentinel, .sentinel, .pinned], laidTests := true, laidLooks := .later }
def GapsFoundUptoCardSaid : Prop := Claim7.holds Tryd.pinned (.plain (OpenSpec.upto gapsFoundSpec)) gapsFoundUptoCard

/-- THE SECOND FORM's CARD OF 'statutelaw5.GapsParted'. -/
def gapsPartedUptoCard : Claim7 := { stood := { row := gapsPartedUptoRow, standIns := [], harness := (true, "31cfb8184a8e3518ae338bb2ff4e7ebe7094d2d31f92812269adec93cd2d9752"), looks := true }, kinds := [], alts := [], laidByText := true, laidKinds := [.data, .handle, .sentinel, .sentinel, .sentinel, .sentinel, .sentinel, .sentinel, .sentinel, .sentinel, .sentinel, .sentinel, .sentinel, .pinned], laidTests := true, laidLooks := .later }
def GapsPartedUptoCardSaid : Prop := Claim7.holds Tryd.pinned (.plain (OpenSpec.upto gapsPartedSpec)) gapsPartedUptoCard

/-- THE SECOND FORM's CARD OF 'statutelaw5.GapsSame'. -/
def gapsSameUptoCard : Claim7 := { stood := { row := gapsSameUptoRow, standIns := [], harness := (true, "31cfb8184a8e3518ae338bb2ff4e7ebe7094d2d31f92812269adec93cd2d9752"), looks := true }, kinds := [], alts := [], laidByText := true, laidKinds := [.data, .handle, .sentinel, .sentinel, .sentinel, .sentinel, .sentinel, .sentinel, .sentinel, .sentinel, .sentinel, .sentinel, .sentinel, .pinned], laidTests := true, laidLooks := .later }
def GapsSameUptoCardSaid : Prop := Claim7.holds Tryd.pinned (.plain (OpenSpec.upto gapsSameSpec)) gapsSameUptoCard

/-- THE SECOND FORM's CARD OF 'statutelaw5.CasesEnd'. -/
def casesEndUptoCard : Claim7 := { stood := { row := casesEndUptoRow, standIns := [], harness := (true, "31cfb8184a8e3518ae338bb2ff4e7ebe7094d2d31f92812269adec93cd2d9752"), looks := true }, kinds := [], alts := [], laidByText := true, laidKinds := [.sentinel, .sentinel, .sentinel, .sentinel, .sentinel, .sentinel], laidTests := true, laidLooks := .later }
def CasesEndUptoCardSaid : Prop := Claim7.holds Tryd.pinned (.plain (OpenSpec.upto casesEndSpec)) casesEndUptoCard
end Rows
end Go.Proofs.YtednlkchbjpabaaDoor
