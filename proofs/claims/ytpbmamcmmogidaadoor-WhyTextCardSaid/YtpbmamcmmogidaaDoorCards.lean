/-
  DERIVED. GIVEN WITH THE SEED: THE CARDS: each row of YtpbmamcmmogidaaDoorRows.lean that lists a variable, with what it lists TIED to the program's text (the seventh form; the later family's looks); each row that meets fmt, with fmt's text TOLD by the authors' own Lean function (tested against real Go, not proved from fmt's source: count such statements apart). THE CARD IS WHAT COUNTS. Prove the row's statement (the work); the ties are given (YtpbmamcmmogidaaDoorTie.lean); close each card by the builder's one call (the guide's Derived/Test/ToyasCard.lean, 'card_holds'). Laid BY PROGRAM, IN A SANDBOX (cutbox-door.mjs). By AI agents, Wed Nov 11 2026. No macro, syntax, notation, axiom, sorry.
-/
import Derived.Test.YtpbmamcmmogidaaDoorRows
import GoSem.ClaimSeven
namespace Go.Proofs.YtpbmamcmmogidaaDoor
namespace Rows

/-- THE TIED CARD OF 'statutelaw4.WhyText'. -/
def whyTextCard : Claim7 := { stood := { row := whyTextRow, standIns := [], harness := (true, "7f6a5f783164c5a6f1efa7fcd86711916769b8cba51d9da87909640a720d921a"), looks := true }, kinds := [], alts := [], laidByText := true, laidKinds := [.data, .handle, .sentinel, .sentinel, .sentinel, .sentinel, .sentinel, .sentinel, .sentinel, .sentinel, .sentinel, .sentinel, .sentinel, .pinned], laidTests := true, laidLooks := .later }
def WhyTextCardSaid : Prop := Claim7.holds Tryd.pinned (.plain (OpenSpec.ofChange whyTextSpec)) whyTextCard

/-- THE TIED CARD OF 'statutelaw1.DayTerms'. -/
def dayTermsCard : Claim7 := { stood := { row := dayTermsRow, standIns := [], harness := (true, "7f6a5f783164c5a6f1efa7fcd86711916769b8cba51d9da87909640a720d921a"), looks := true }, kinds := [], alts := [], laidByText := true, laidKinds := [.data, .data, .data, .handle, .sentinel, .sentinel, .sentinel, .sentinel, .sentinel, .sentinel, .sentinel, .sentinel, .sentinel, .sentinel, .sentinel, .sentinel, .sentinel], laidTests := true, laidLooks := .later }
def DayTermsCardSaid : Prop := Claim7.holds Tryd.pinned (.plain (OpenSpec.ofChange dayTermsSpec)) dayTermsCard

/-- THE TIED CARD OF 'statutelaw5.GapsFound'. -/
def gapsFoundCard : Claim7 := { stood := { row := gapsFoundRow, standIns := [], harness := (true, "7f6a5f783164c5a6f1efa7fcd86711916769b8cba51d9da87909640a720d921a"), looks := true }, kinds := [], alts := [], laidByText := true, laidKinds := [.data, .handle, .sentinel, .sentinel, .sentinel, .sentinel, .sentinel, .sentinel, .sentinel, .sentinel, .sentinel, .sentinel, .sentinel, .pinned], laidTests := true, laidLooks := .later }
def GapsFoundCardSaid : Prop := Claim7.holds Tryd.pinned (.plain (OpenSpec.ofChange gapsFoundSpec)) gapsFoundCard

/-- THE TIED CARD OF 'statutelaw3.FactsLater'. -/
def factsLaterCard : Claim7 := { stood := { row := factsLaterRow, standIns := [], harness := (true, "7f6a5f783164c5a6f1efa7fcd86711916769b8cba51d9da87909640a720d921a"), looks := true }, kinds := [], alts := [], laidByText := true, laidKinds := [.handle, .sentinel, .sentinel, .sentinel, .sentinel, .sentinel, .sentinel, .sentinel, .sentinel, .sentinel, .sentinel, .sentinel], laidTests := true, laidLooks := .later }
def FactsLaterCardSaid : Prop := Claim7.holds Tryd.pinned (.plain (OpenSpec.ofChange factsLaterSpec)) factsLaterCard

/-- THE TIED CARD OF 'statutelaw5.GapsParted'. -/
def gapsPartedCard : Claim7 := { stood := { row := gapsPartedRow, standIns := [], harness := (true, "7f6a5f783164c5a6f1efa7fcd86711916769b8cba51d9da87909640a720d921a"), looks := true }, kinds := [], alts := [], laidByText := true, laidKinds := [.data, .handle, .sentinel, .sentinel, .sentinel, .sentinel, .sentinel, .sentinel, .sentinel, .sentinel, .sentinel, .sentinel, .sentinel, .pinned], laidTests := true, laidLooks := .later }
def GapsPartedCardSaid : Prop := Claim7.holds Tryd.pinned (.plain (OpenSpec.ofChange gapsPartedSpec)) gapsPartedCard

/-- THE TIED CARD OF 'statutelaw3.FactsKept'. -/
def factsKeptCard : Claim7 := { stood := { row := factsKeptRow, standIns := [], harness := (true, "7f6a5f783164c5a6f1efa7fcd86711916769b8cba51d9da87909640a720d921a"), looks := true }, kinds := [], alts := [], laidByText := true, laidKinds := [.handle, .sentinel, .sentinel, .sentinel, .sentinel, .sentinel, .sentinel, .sentinel, .sentinel, .sentinel, .sentinel, .sentinel], laidTests := true, laidLooks := .later }
def FactsKeptCardSaid : Prop := Claim7.holds Tryd.pinned (.plain (OpenSpec.ofChange factsKeptSpec)) factsKeptCard

/-- THE TIED CARD OF 'statutelaw5.GapsSame'. -/
def gapsSameCard : Claim7 := { stood := { row := gapsSameRow, standIns := [], harness := (true, "7f6a5f783164c5a6f1efa7fcd86711916769b8cba51d9da87909640a720d921a"), looks := true }, kinds := [], alts := [], laidByText := true, laidKinds := [.data, .handle, .sentinel, .sentinel, .sentinel, .sentinel, .sentinel, .sentinel, .sentinel, .sentinel, .sentinel, .sentinel, .sentinel, .pinned], laidTests := true, laidLooks := .later }
def GapsSameCardSaid : Prop := Claim7.holds Tryd.pinned (.plain (OpenSpec.ofChange gapsSameSpec)) gapsSameCard

/-- THE TIED CARD OF 'statutelaw5.CasesEnd'. -/
def casesEndCard : Claim7 := { stood := { row := casesEndRow, standIns := [], harness := (true, "7f6a5f783164c5a6f1efa7fcd86711916769b8cba51d9da87909640a720d921a"), looks := true }, kinds := [], alts := [], laidByText := true, laidKinds := [.sentinel, .sentinel, .sentinel, .sentinel, .sentinel, .sentinel], laidTests := true, laidLooks := .later }
def CasesEndCardSaid : Prop := Claim7.holds Tryd.pinned (.plain (OpenSpec.ofChange casesEndSpec)) casesEndCard

/-- THE SECOND FORM's CARD OF 'statutelaw4.WhyText'. -/
def whyTextUptoCard : Claim7 := { stood := { row := whyTextUptoRow, standIns := [], harness := (true, "7f6a5f783164c5a6f1efa7fcd86711916769b8cba51d9da87909640a720d921a"), looks := true }, kinds := [], alts := [], laidByText := true, laidKinds := [.data, .handle, .sentinel, .sentinel, .sentinel, .sentinel, .sentinel, .sentinel, .sentinel, .sentinel, .sentinel, .sentinel, .sentinel, .pinned], laidTests := true, laidLooks := .later }
def WhyTextUptoCardSaid : Prop := Claim7.holds Tryd.pinned (.plain (OpenSpec.upto whyTextSpec)) whyTextUptoCard

/-- THE SECOND FORM's CARD OF 'statutelaw1.DayTerms'. -/
def dayTermsUptoCard : Claim7 := { stood := { row := dayTermsUptoRow, standIns := [], harness := (true, "7f6a5f783164c5a6f1efa7fcd86711916769b8cba51d9da87909640a720d921a"), looks := true }, kinds := [], alts := [], laidByText := true, laidKinds := [.data, .data, .data, .handle, .sentinel, .sentinel, .sentinel, .sentinel, .sentinel, .sentinel, .sentinel, .sentinel, .sentinel, .sentinel, .sentinel, .sentinel, .sentinel], laidTests := true, laidLooks := .later }
def DayTermsUptoCardSaid : Prop := Claim7.holds Tryd.pinned (.plain (OpenSpec.upto dayTermsSpec)) dayTermsUptoCard

/-- THE SECOND FORM's CARD OF 'statutelaw5.GapsFound'. -/
def gapsFoundUptoCard : Claim7 := { stood := { row := gapsFoundUptoRow, standIns := [], harness := (true, "7f6a5f783164c5a6f1efa7fcd86711916769b8cba51d9da87909640a720d921a"), looks := true }, kinds := [], alts := [], laidByText := true, laidKinds := [.data, .handle, .sentinel, .sentinel, .sentinel, .sentinel, .sentinel, .sentinel, .sentinel, .sentinel, .sentinel, .sentinel, .sentinel, .pinned], laidTests := true, laidLooks := .later }
def GapsFoundUptoCardSaid : Prop := Claim7.holds Tryd.pinned (.plain (OpenSpec.upto gapsFoundSpec)) gapsFoundUptoCard

/-- THE SECOND FORM's CARD OF 'statutelaw3.FactsLater'. -/
def factsLaterUptoCard : Claim7 := { stood := { row := factsLaterUptoRow, standIns := [], harness := (true, "7f6a5f783164c5a6f1efa7fcd86711916769b8cba51d9da87909640a720d921a"), looks := true }, kinds := [], alts := [], laidByText := true, laidKinds := [.handle, .sentinel, .sentinel, .sentinel, .sentinel, .sentinel, .sentinel, .sentinel, .sentinel, .sentinel, .sentinel, .sentinel], laidTests := true, laidLooks := .later }
def FactsLaterUptoCardSaid : Prop := Claim7.holds Tryd.pinned (.plain (OpenSpec.upto factsLaterSpec)) factsLaterUptoCard

/-- THE SECOND FORM's CARD OF 'statutelaw5.GapsParted'. -/
def gapsPartedUptoCard : Claim7 := { stood := { row := gapsPartedUptoRow, standIns := [], harness := (true, "7f6a5f783164c5a6f1efa7fcd86711916769b8cba51d9da87909640a720d921a"), looks := true }, kinds := [], alts := [], laidByText := true, laidKinds := [.data, .handle, .sentinel, .sentinel, .sentinel, .sentinel, .sentinel, .sentinel, .sentinel, .sentinel, .sentinel, .sentinel, .sentinel, .pinned], laidTests := true, laidLooks := .later }
def GapsPartedUptoCardSaid : Prop := Claim7.holds Tryd.pinned (.plain (OpenSpec.upto gapsPartedSpec)) gapsPartedUptoCard

/-- THE SECOND FORM's CARD OF 'statutelaw3.FactsKept'. -/
def factsKeptUptoCard : Claim7 := { stood := { row := factsKeptUptoRow, standIns := [], harness := (true, "7f6a5f783164c5a6f1efa7fcd86711916769b8cba51d9da87909640a720d921a"), looks := true }, kinds := [], alts := [], laidByText := true, laidKinds := [.handle, .sentinel, .sentinel, .sentinel, .sentinel, .sentinel, .sentinel, .sentinel, .sentinel, .sentinel, .sentinel, .sentinel], laidTests := true, laidLooks := .later }
def FactsKeptUptoCardSaid : Prop := Claim7.holds Tryd.pinned (.plain (OpenSpec.upto factsKeptSpec)) factsKeptUptoCard

/-- THE SECOND FORM's CARD OF 'statutelaw5.GapsSame'. -/
def gapsSameUptoCard : Claim7 := { stood := { row := gapsSameUptoRow, standIns := [], harness := (true, "7f6a5f783164c5a6f1efa7fcd86711916769b8cba51d9da87909640a720d921a"), looks := true }, kinds := [], alts := [], laidByText := true, laidKinds := [.data, .handle, .sentinel, .sentinel, .sentinel, .sentinel, .sentinel, .sentinel, .sentinel, .sentinel, .sentinel, .sentinel, .sentinel, .pinned], laidTests := true, laidLooks := .later }
def GapsSameUptoCardSaid : Prop := Claim7.holds Tryd.pinned (.plain (OpenSpec.upto gapsSameSpec)) gapsSameUptoCard

/-- THE SECOND FORM's CARD OF 'statutelaw5.CasesEnd'. -/
def casesEndUptoCard : Claim7 := { stood := { row := casesEndUptoRow, standIns := [], harness := (true, "7f6a5f783164c5a6f1efa7fcd86711916769b8cba51d9da87909640a720d921a"), looks := true }, kinds := [], alts := [], laidByText := true, laidKinds := [.sentinel, .sentinel, .sentinel, .sentinel, .sentinel, .sentinel], laidTests := true, laidLooks := .later }
def CasesEndUptoCardSaid : Prop := Claim7.holds Tryd.pinned (.plain (OpenSpec.upto casesEndSpec)) casesEndUptoCard
end Rows
end Go.Proofs.YtpbmamcmmogidaaDoor
