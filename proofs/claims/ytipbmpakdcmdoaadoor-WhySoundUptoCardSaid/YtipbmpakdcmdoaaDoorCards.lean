/-
  DERIVED. GIVEN WITH THE SEED: THE CARDS: each row of YtipbmpakdcmdoaaDoorRows.lean that lists a variable, with what it lists TIED to the program's text (the seventh form; the later family's looks); each row that meets fmt, with fmt's text TOLD by the authors' own Lean function (tested against real Go, not proved from fmt's source: count such statements apart). THE CARD IS WHAT COUNTS. Prove the row's statement (the work); the ties are given (YtipbmpakdcmdoaaDoorTie.lean); close each card by the builder's one call (the guide's Derived/Test/ToyasCard.lean, 'card_holds'). Laid BY PROGRAM, IN A SANDBOX (cutbox-door.mjs). By AI agents, Wed Nov 11 2026. No macro, syntax, notation, axiom, sorry.
-/
import Derived.Test.YtipbmpakdcmdoaaDoorRows
import GoSem.ClaimSeven
namespace Go.Proofs.YtipbmpakdcmdoaaDoor
namespace Rows

/-- THE TIED CARD OF 'statutelaw1.DayNext'. -/
def dayNextCard : Claim7 := { stood := { row := dayNextRow, standIns := [], harness := (true, "b7bf8193db383c4184fc13b36f8b3b5bba24ac327e773c2aeb9415d442956efe"), looks := true }, kinds := [], alts := [], laidByText := true, laidKinds := [.sentinel], laidTests := true, laidLooks := .later }
def DayNextCardSaid : Prop := Claim7.holds Tryd.pinned (.plain (OpenSpec.ofChange dayNextSpec)) dayNextCard

/-- THE TIED CARD OF 'statutelaw5.LedgerAnew'. -/
def ledgerAnewCard : Claim7 := { stood := { row := ledgerAnewRow, standIns := [], harness := (true, "b7bf8193db383c4184fc13b36f8b3b5bba24ac327e773c2aeb9415d442956efe"), looks := true }, kinds := [], alts := [], laidByText := true, laidKinds := [.sentinel, .sentinel, .sentinel, .sentinel], laidTests := true, laidLooks := .later }
def LedgerAnewCardSaid : Prop := Claim7.holds Tryd.pinned (.plain (OpenSpec.ofChange ledgerAnewSpec)) ledgerAnewCard

/-- THE TIED CARD OF 'statutelaw5.SumsSplit'. -/
def sumsSplitCard : Claim7 := { stood := { row := sumsSplitRow, standIns := [], harness := (true, "b7bf8193db383c4184fc13b36f8b3b5bba24ac327e773c2aeb9415d442956efe"), looks := true }, kinds := [], alts := [], laidByText := true, laidKinds := [.sentinel, .sentinel, .sentinel, .sentinel], laidTests := true, laidLooks := .later }
def SumsSplitCardSaid : Prop := Claim7.holds Tryd.pinned (.plain (OpenSpec.ofChange sumsSplitSpec)) sumsSplitCard

/-- THE TIED CARD OF 'statutelaw4.ReasonFirm'. -/
def reasonFirmCard : Claim7 := { stood := { row := reasonFirmRow, standIns := [], harness := (true, "b7bf8193db383c4184fc13b36f8b3b5bba24ac327e773c2aeb9415d442956efe"), looks := true }, kinds := [], alts := [], laidByText := true, laidKinds := [.sentinel, .sentinel, .sentinel, .sentinel], laidTests := true, laidLooks := .later }
def ReasonFirmCardSaid : Prop := Claim7.holds Tryd.pinned (.plain (OpenSpec.ofChange reasonFirmSpec)) reasonFirmCard

/-- THE TIED CARD OF 'statutelaw4.ReasonTotal'. -/
def reasonTotalCard : Claim7 := { stood := { row := reasonTotalRow, standIns := [], harness := (true, "b7bf8193db383c4184fc13b36f8b3b5bba24ac327e773c2aeb9415d442956efe"), looks := true }, kinds := [], alts := [], laidByText := true, laidKinds := [.sentinel, .sentinel, .sentinel, .sentinel], laidTests := true, laidLooks := .later }
def ReasonTotalCardSaid : Prop := Claim7.holds Tryd.pinned (.plain (OpenSpec.ofChange reasonTotalSpec)) reasonTotalCard

/-- THE TIED CARD OF 'statutelaw1.Names'. -/
def namesCard : Claim7 := { stood := { row := namesRow, standIns := [], harness := (true, "b7bf8193db383c4184fc13b36f8b3b5bba24ac327e773c2aeb9415d442956efe"), looks := true }, kinds := [], alts := [], laidByText := true, laidKinds := [.handle, .sentinel, .sentinel, .sentinel, .sentinel, .sentinel, .sentinel, .sentinel, .sentinel, .sentinel, .sentinel, .sentinel], laidTests := true, laidLooks := .later }
def NamesCardSaid : Prop := Claim7.holds Tryd.pinned (.plain (OpenSpec.ofChange namesSpec)) namesCard

/-- THE TIED CARD OF 'statutelaw4.WhySound'. -/
def whySoundCard : Claim7 := { stood := { row := whySoundRow, standIns := [], harness := (true, "b7bf8193db383c4184fc13b36f8b3b5bba24ac327e773c2aeb9415d442956efe"), looks := true }, kinds := [], alts := [], laidByText := true, laidKinds := [.sentinel, .sentinel, .sentinel, .sentinel], laidTests := true, laidLooks := .later }
def WhySoundCardSaid : Prop := Claim7.holds Tryd.pinned (.plain (OpenSpec.ofChange whySoundSpec)) whySoundCard

/-- THE TIED CARD OF 'statutelaw1.CoinPart'. -/
def coinPartCard : Claim7 := { stood := { row := coinPartRow, standIns := [], harness := (true, "b7bf8193db383c4184fc13b36f8b3b5bba24ac327e773c2aeb9415d442956efe"), looks := true }, kinds := [], alts := [], laidByText := true, laidKinds := [.handle, .sentinel, .sentinel, .sentinel, .sentinel, .sentinel, .sentinel, .sentinel, .sentinel, .sentinel, .sentinel, .sentinel], laidTests := true, laidLooks := .later }
def CoinPartCardSaid : Prop := Claim7.holds Tryd.pinned (.plain (OpenSpec.ofChange coinPartSpec)) coinPartCard

/-- THE TIED CARD OF 'statutelaw5.DutiesFirm'. -/
def dutiesFirmCard : Claim7 := { stood := { row := dutiesFirmRow, standIns := [], harness := (true, "b7bf8193db383c4184fc13b36f8b3b5bba24ac327e773c2aeb9415d442956efe"), looks := true }, kinds := [], alts := [], laidByText := true, laidKinds := [.sentinel, .sentinel, .sentinel], laidTests := true, laidLooks := .later }
def DutiesFirmCardSaid : Prop := Claim7.holds Tryd.pinned (.plain (OpenSpec.ofChange dutiesFirmSpec)) dutiesFirmCard

/-- THE TIED CARD OF 'statutelaw1.DayOf'. -/
def dayOfCard : Claim7 := { stood := { row := dayOfRow, standIns := [], harness := (true, "b7bf8193db383c4184fc13b36f8b3b5bba24ac327e773c2aeb9415d442956efe"), looks := true }, kinds := [], alts := [], laidByText := true, laidKinds := [.handle, .sentinel, .sentinel, .sentinel, .sentinel, .sentinel, .sentinel, .sentinel, .sentinel, .sentinel, .sentinel, .sentinel], laidTests := true, laidLooks := .later }
def DayOfCardSaid : Prop := Claim7.holds Tryd.pinned (.plain (OpenSpec.ofChange dayOfSpec)) dayOfCard

/-- THE TIED CARD OF 'statutelaw1.DayMonths'. -/
def dayMonthsCard : Claim7 := { stood := { row := dayMonthsRow, standIns := [], harness := (true, "b7bf8193db383c4184fc13b36f8b3b5bba24ac327e773c2aeb9415d442956efe"), looks := true }, kinds := [], alts := [], laidByText := true, laidKinds := [.handle, .sentinel, .sentinel, .sentinel, .sentinel, .sentinel, .sentinel, .sentinel, .sentinel, .sentinel, .sentinel, .sentinel], laidTests := true, laidLooks := .later }
def DayMonthsCardSaid : Prop := Claim7.holds Tryd.pinned (.plain (OpenSpec.ofChange dayMonthsSpec)) dayMonthsCard

/-- THE SECOND FORM's CARD OF 'statutelaw1.DayNext'. -/
def dayNextUptoCard : Claim7 := { stood := { row := dayNextUptoRow, standIns := [], harness := (true, "b7bf8193db383c4184fc13b36f8b3b5bba24ac327e773c2aeb9415d442956efe"), looks := true }, kinds := [], alts := [], laidByText := true, laidKinds := [.sentinel], laidTests := true, laidLooks := .later }
def DayNextUptoCardSaid : Prop := Claim7.holds Tryd.pinned (.plain (OpenSpec.upto dayNextSpec)) dayNextUptoCard

/-- THE SECOND FORM's CARD OF 'statutelaw5.LedgerAnew'. -/
def ledgerAnewUptoCard : Claim7 := { stood := { row := ledgerAnewUptoRow, standIns := [], harness := (true, "b7bf8193db383c4184fc13b36f8b3b5bba24ac327e773c2aeb9415d442956efe"), looks := true }, kinds := [], alts := [], laidByText := true, laidKinds := [.sentinel, .sentinel, .sentinel, .sentinel], laidTests := true, laidLooks := .later }
def LedgerAnewUptoCardSaid : Prop := Claim7.holds Tryd.pinned (.plain (OpenSpec.upto ledgerAnewSpec)) ledgerAnewUptoCard

/-- THE SECOND FORM's CARD OF 'statutelaw5.SumsSplit'. -/
def sumsSplitUptoCard : Claim7 := { stood := { row := sumsSplitUptoRow, standIns := [], harness := (true, "b7bf8193db383c4184fc13b36f8b3b5bba24ac327e773c2aeb9415d442956efe"), looks := true }, kinds := [], alts := [], laidByText := true, laidKinds := [.sentinel, .sentinel, .sentinel, .sentinel], laidTests := true, laidLooks := .later }
def SumsSplitUptoCardSaid : Prop := Claim7.holds Tryd.pinned (.plain (OpenSpec.upto sumsSplitSpec)) sumsSplitUptoCard

/-- THE SECOND FORM's CARD OF 'statutelaw4.ReasonFirm'. -/
def reasonFirmUptoCard : Claim7 := { stood := { row := reasonFirmUptoRow, standIns := [], harness := (true, "b7bf8193db383c4184fc13b36f8b3b5bba24ac327e773c2aeb9415d442956efe"), looks := true }, kinds := [], alts := [], laidByText := true, laidKinds := [.sentinel, .sentinel, .sentinel, .sentinel], laidTests := true, laidLooks := .later }
def ReasonFirmUptoCardSaid : Prop := Claim7.holds Tryd.pinned (.plain (OpenSpec.upto reasonFirmSpec)) reasonFirmUptoCard

/-- THE SECOND FORM's CARD OF 'statutelaw4.ReasonTotal'. -/
def reasonTotalUptoCard : Claim7 := { stood := { row := reasonTotalUptoRow, standIns := [], harness := (true, "b7bf8193db383c4184fc13b36f8b3b5bba24ac327e773c2aeb9415d442956efe"), looks := true }, kinds := [], alts := [], laidByText := true, laidKinds := [.sentinel, .sentinel, .sentinel, .sentinel], laidTests := true, laidLooks := .later }
def ReasonTotalUptoCardSaid : Prop := Claim7.holds Tryd.pinned (.plain (OpenSpec.upto reasonTotalSpec)) reasonTotalUptoCard

/-- THE SECOND FORM's CARD OF 'statutelaw1.Names'. -/
def namesUptoCard : Claim7 := { stood := { row := namesUptoRow, standIns := [], harness := (true, "b7bf8193db383c4184fc13b36f8b3b5bba24ac327e773c2aeb9415d442956efe"), looks := true }, kinds := [], alts := [], laidByText := true, laidKinds := [.handle, .sentinel, .sentinel, .sentinel, .sentinel, .sentinel, .sentinel, .sentinel, .sentinel, .sentinel, .sentinel, .sentinel], laidTests := true, laidLooks := .later }
def NamesUptoCardSaid : Prop := Claim7.holds Tryd.pinned (.plain (OpenSpec.upto namesSpec)) namesUptoCard

/-- THE SECOND FORM's CARD OF 'statutelaw4.WhySound'. -/
def whySoundUptoCard : Claim7 := { stood := { row := whySoundUptoRow, standIns := [], harness := (true, "b7bf8193db383c4184fc13b36f8b3b5bba24ac327e773c2aeb9415d442956efe"), looks := true }, kinds := [], alts := [], laidByText := true, laidKinds := [.sentinel, .sentinel, .sentinel, .sentinel], laidTests := true, laidLooks := .later }
def WhySoundUptoCardSaid : Prop := Claim7.holds Tryd.pinned (.plain (OpenSpec.upto whySoundSpec)) whySoundUptoCard

/-- THE SECOND FORM's CARD OF 'statutelaw1.CoinPart'. -/
def coinPartUptoCard : Claim7 := { stood := { row := coinPartUptoRow, standIns := [], harness := (true, "b7bf8193db383c4184fc13b36f8b3b5bba24ac327e773c2aeb9415d442956efe"), looks := true }, kinds := [], alts := [], laidByText := true, laidKinds := [.handle, .sentinel, .sentinel, .sentinel, .sentinel, .sentinel, .sentinel, .sentinel, .sentinel, .sentinel, .sentinel, .sentinel], laidTests := true, laidLooks := .later }
def CoinPartUptoCardSaid : Prop := Claim7.holds Tryd.pinned (.plain (OpenSpec.upto coinPartSpec)) coinPartUptoCard

/-- THE SECOND FORM's CARD OF 'statutelaw5.DutiesFirm'. -/
def dutiesFirmUptoCard : Claim7 := { stood := { row := dutiesFirmUptoRow, standIns := [], harness := (true, "b7bf8193db383c4184fc13b36f8b3b5bba24ac327e773c2aeb9415d442956efe"), looks := true }, kinds := [], alts := [], laidByText := true, laidKinds := [.sentinel, .sentinel, .sentinel], laidTests := true, laidLooks := .later }
def DutiesFirmUptoCardSaid : Prop := Claim7.holds Tryd.pinned (.plain (OpenSpec.upto dutiesFirmSpec)) dutiesFirmUptoCard

/-- THE SECOND FORM's CARD OF 'statutelaw1.DayOf'. -/
def dayOfUptoCard : Claim7 := { stood := { row := dayOfUptoRow, standIns := [], harness := (true, "b7bf8193db383c4184fc13b36f8b3b5bba24ac327e773c2aeb9415d442956efe"), looks := true }, kinds := [], alts := [], laidByText := true, laidKinds := [.handle, .sentinel, .sentinel, .sentinel, .sentinel, .sentinel, .sentinel, .sentinel, .sentinel, .sentinel, .sentinel, .sentinel], laidTests := true, laidLooks := .later }
def DayOfUptoCardSaid : Prop := Claim7.holds Tryd.pinned (.plain (OpenSpec.upto dayOfSpec)) dayOfUptoCard

/-- THE SECOND FORM's CARD OF 'statutelaw1.DayMonths'. -/
def dayMonthsUptoCard : Claim7 := { stood := { row := dayMonthsUptoRow, standIns := [], harness := (true, "b7bf8193db383c4184fc13b36f8b3b5bba24ac327e773c2aeb9415d442956efe"), looks := true }, kinds := [], alts := [], laidByText := true, laidKinds := [.handle, .sentinel, .sentinel, .sentinel, .sentinel, .sentinel, .sentinel, .sentinel, .sentinel, .sentinel, .sentinel, .sentinel], laidTests := true, laidLooks := .later }
def DayMonthsUptoCardSaid : Prop := Claim7.holds Tryd.pinned (.plain (OpenSpec.upto dayMonthsSpec)) dayMonthsUptoCard
end Rows
end Go.Proofs.YtipbmpakdcmdoaaDoor
