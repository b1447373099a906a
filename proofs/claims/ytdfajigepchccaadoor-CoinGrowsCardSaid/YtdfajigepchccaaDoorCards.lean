/-
  DERIVED. GIVEN WITH THE SEED: THE CARDS: each row of YtdfajigepchccaaDoorRows.lean that lists a variable, with what it lists TIED to the program's text (the seventh form; the later family's looks); each row that meets fmt, with fmt's text TOLD by the authors' own Lean function (tested against real Go, not proved from fmt's source: count such statements apart). THE CARD IS WHAT COUNTS. Prove the row's statement (the work); the ties are given (YtdfajigepchccaaDoorTie.lean); close each card by the builder's one call (the guide's Derived/Test/ToyasCard.lean, 'card_holds'). Laid BY PROGRAM, IN A SANDBOX (cutbox-door.mjs). By AI agents, Wed Nov 11 2026. No macro, syntax, notation, axiom, sorry.
-/
import Derived.Test.YtdfajigepchccaaDoorRows
import GoSem.ClaimSeven
namespace Go.Proofs.YtdfajigepchccaaDoor
namespace Rows

/-- THE TIED CARD OF 'statutelaw4.WhyText'. -/
def whyTextCard : Claim7 := { stood := { row := whyTextRow, standIns := [], harness := (true, "0119255a03572fbfe5c27a1cb1ff56e3b4eb04de89ea2f7347a15e3a949ea720"), looks := true }, kinds := [], alts := [], laidByText := true, laidKinds := [.data, .handle, .sentinel, .sentinel, .sentinel, .sentinel, .sentinel, .sentinel, .sentinel, .sentinel, .sentinel, .sentinel, .sentinel, .pinned], laidTests := true, laidLooks := .later }
def WhyTextCardSaid : Prop := Claim7.holds Tryd.pinned (.plain (OpenSpec.ofChange whyTextSpec)) whyTextCard

/-- THE TIED CARD OF 'statutelaw1.DayRead'. -/
def dayReadCard : Claim7 := { stood := { row := dayReadRow, standIns := [], harness := (true, "0119255a03572fbfe5c27a1cb1ff56e3b4eb04de89ea2f7347a15e3a949ea720"), looks := true }, kinds := [], alts := [], laidByText := true, laidKinds := [.data, .data, .data, .handle, .sentinel, .sentinel, .sentinel, .sentinel, .sentinel, .sentinel, .sentinel, .sentinel, .sentinel, .sentinel, .sentinel], laidTests := true, laidLooks := .later }
def DayReadCardSaid : Prop := Claim7.holds Tryd.pinned (.plain (OpenSpec.ofChange dayReadSpec)) dayReadCard

/-- THE TIED CARD OF 'statutelaw1.DayTerms'. -/
def dayTermsCard : Claim7 := { stood := { row := dayTermsRow, standIns := [], harness := (true, "0119255a03572fbfe5c27a1cb1ff56e3b4eb04de89ea2f7347a15e3a949ea720"), looks := true }, kinds := [], alts := [], laidByText := true, laidKinds := [.data, .data, .data, .handle, .sentinel, .sentinel, .sentinel, .sentinel, .sentinel, .sentinel, .sentinel, .sentinel, .sentinel, .sentinel, .sentinel, .sentinel, .sentinel], laidTests := true, laidLooks := .later }
def DayTermsCardSaid : Prop := Claim7.holds Tryd.pinned (.plain (OpenSpec.ofChange dayTermsSpec)) dayTermsCard

/-- THE TIED CARD OF 'statutelaw1.CoinText'. -/
def coinTextCard : Claim7 := { stood := { row := coinTextRow, standIns := [], harness := (true, "0119255a03572fbfe5c27a1cb1ff56e3b4eb04de89ea2f7347a15e3a949ea720"), looks := true }, kinds := [], alts := [], laidByText := true, laidKinds := [.data, .data, .data, .data, .sentinel, .sentinel, .sentinel, .sentinel, .pinned], laidTests := true, laidLooks := .later }
def CoinTextCardSaid : Prop := Claim7.holds Tryd.pinned (.plain (OpenSpec.ofChange coinTextSpec)) coinTextCard

/-- THE TIED CARD OF 'statutelaw1.CoinGrows'. -/
def coinGrowsCard : Claim7 := { stood := { row := coinGrowsRow, standIns := [], harness := (true, "0119255a03572fbfe5c27a1cb1ff56e3b4eb04de89ea2f7347a15e3a949ea720"), looks := true }, kinds := [], alts := [], laidByText := true, laidKinds := [.data, .data, .data, .data, .sentinel, .sentinel, .sentinel, .sentinel, .sentinel, .sentinel, .pinned], laidTests := true, laidLooks := .later }
def CoinGrowsCardSaid : Prop := Claim7.holds Tryd.pinned (.plain (OpenSpec.ofChange coinGrowsSpec)) coinGrowsCard

/-- THE TIED CARD OF 'statutelaw1.CoinQuota'. -/
def coinQuotaCard : Claim7 := { stood := { row := coinQuotaRow, standIns := [], harness := (true, "0119255a03572fbfe5c27a1cb1ff56e3b4eb04de89ea2f7347a15e3a949ea720"), looks := true }, kinds := [], alts := [], laidByText := true, laidKinds := [.data, .data, .data, .data, .sentinel, .sentinel, .sentinel, .sentinel, .sentinel, .pinned], laidTests := true, laidLooks := .later }
def CoinQuotaCardSaid : Prop := Claim7.holds Tryd.pinned (.plain (OpenSpec.ofChange coinQuotaSpec)) coinQuotaCard

/-- THE SECOND FORM's CARD OF 'statutelaw4.WhyText'. -/
def whyTextUptoCard : Claim7 := { stood := { row := whyTextUptoRow, standIns := [], harness := (true, "0119255a03572fbfe5c27a1cb1ff56e3b4eb04de89ea2f7347a15e3a949ea720"), looks := true }, kinds := [], alts := [], laidByText := true, laidKinds := [.data, .handle, .sentinel, .sentinel, .sentinel, .sentinel, .sentinel, .sentinel, .sentinel, .sentinel, .sentinel, .sentinel, .sentinel, .pinned], laidTests := true, laidLooks := .later }
def WhyTextUptoCardSaid : Prop := Claim7.holds Tryd.pinned (.plain (OpenSpec.upto whyTextSpec)) whyTextUptoCard

/-- THE SECOND FORM's CARD OF 'statutelaw1.DayRead'. -/
def dayReadUptoCard : Claim7 := { stood := { row := dayReadUptoRow, standIns := [], harness := (true, "0119255a03572fbfe5c27a1cb1ff56e3b4eb04de89ea2f7347a15e3a949ea720"), looks := true }, kinds := [], alts := [], laidByText := true, laidKinds := [.data, .data, .data, .handle, .sentinel, .sentinel, .sentinel, .sentinel, .sentinel, .sentinel, .sentinel, .sentinel, .sentinel, .sentinel, .sentinel], laidTests := true, laidLooks := .later }
def DayReadUptoCardSaid : Prop := Claim7.holds Tryd.pinned (.plain (OpenSpec.upto dayReadSpec)) dayReadUptoCard

/-- THE SECOND FORM's CARD OF 'statutelaw1.DayTerms'. -/
def dayTermsUptoCard : Claim7 := { stood := { row := dayTermsUptoRow, standIns := [], harness := (true, "0119255a03572fbfe5c27a1cb1ff56e3b4eb04de89ea2f7347a15e3a949ea720"), looks := true }, kinds := [], alts := [], laidByText := true, laidKinds := [.data, .data, .data, .handle, .sentinel, .sentinel, .sentinel, .sentinel, .sentinel, .sentinel, .sentinel, .sentinel, .sentinel, .sentinel, .sentinel, .sentinel, .sentinel], laidTests := true, laidLooks := .later }
def DayTermsUptoCardSaid : Prop := Claim7.holds Tryd.pinned (.plain (OpenSpec.upto dayTermsSpec)) dayTermsUptoCard

/-- THE SECOND FORM's CARD OF 'statutelaw1.CoinText'. -/
def coinTextUptoCard : Claim7 := { stood := { row := coinTextUptoRow, standIns := [], harness := (true, "0119255a03572fbfe5c27a1cb1ff56e3b4eb04de89ea2f7347a15e3a949ea720"), looks := true }, kinds := [], alts := [], laidByText := true, laidKinds := [.data, .data, .data, .data, .sentinel, .sentinel, .sentinel, .sentinel, .pinned], laidTests := true, laidLooks := .later }
def CoinTextUptoCardSaid : Prop := Claim7.holds Tryd.pinned (.plain (OpenSpec.upto coinTextSpec)) coinTextUptoCard

/-- THE SECOND FORM's CARD OF 'statutelaw1.CoinGrows'. -/
def coinGrowsUptoCard : Claim7 := { stood := { row := coinGrowsUptoRow, standIns := [], harness := (true, "0119255a03572fbfe5c27a1cb1ff56e3b4eb04de89ea2f7347a15e3a949ea720"), looks := true }, kinds := [], alts := [], laidByText := true, laidKinds := [.data, .data, .data, .data, .sentinel, .sentinel, .sentinel, .sentinel, .sentinel, .sentinel, .pinned], laidTests := true, laidLooks := .later }
def CoinGrowsUptoCardSaid : Prop := Claim7.holds Tryd.pinned (.plain (OpenSpec.upto coinGrowsSpec)) coinGrowsUptoCard

/-- THE SECOND FORM's CARD OF 'statutelaw1.CoinQuota'. -/
def coinQuotaUptoCard : Claim7 := { stood := { row := coinQuotaUptoRow, standIns := [], harness := (true, "0119255a03572fbfe5c27a1cb1ff56e3b4eb04de89ea2f7347a15e3a949ea720"), looks := true }, kinds := [], alts := [], laidByText := true, laidKinds := [.data, .data, .data, .data, .sentinel, .sentinel, .sentinel, .sentinel, .sentinel, .pinned], laidTests := true, laidLooks := .later }
def CoinQuotaUptoCardSaid : Prop := Claim7.holds Tryd.pinned (.plain (OpenSpec.upto coinQuotaSpec)) coinQuotaUptoCard
end Rows
end Go.Proofs.YtdfajigepchccaaDoor
