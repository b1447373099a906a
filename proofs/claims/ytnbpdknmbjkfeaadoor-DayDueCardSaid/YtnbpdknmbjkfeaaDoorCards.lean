/-
  DERIVED. GIVEN WITH THE SEED: THE CARDS: each row of YtnbpdknmbjkfeaaDoorRows.lean that lists a variable, with what it lists TIED to the program's text (the seventh form; the later family's looks); each row that meets fmt, with fmt's text TOLD by the authors' own Lean function (tested against real Go, not proved from fmt's source: count such statements apart). THE CARD IS WHAT COUNTS. Prove the row's statement (the work); the ties are given (YtnbpdknmbjkfeaaDoorTie.lean); close each card by the builder's one call (the guide's Derived/Test/ToyasCard.lean, 'card_holds'). Laid BY PROGRAM, IN A SANDBOX (cutbox-door.mjs). By AI agents, Wed Nov 11 2026. No macro, syntax, notation, axiom, sorry.
-/
import Derived.Test.YtnbpdknmbjkfeaaDoorRows
import GoSem.ClaimSeven
namespace Go.Proofs.YtnbpdknmbjkfeaaDoor
namespace Rows

/-- THE TIED CARD OF 'statutelaw5.DutiesFirm'. -/
def dutiesFirmCard : Claim7 := { stood := { row := dutiesFirmRow, standIns := [], harness := (true, "f856f4177ecfbe69d34566d0401f4fa869fafc0b09a95769a665d7410649bbce"), looks := true }, kinds := [], alts := [], laidByText := true, laidKinds := [.sentinel, .sentinel, .sentinel], laidTests := true, laidLooks := .later }
def DutiesFirmCardSaid : Prop := Claim7.holds Tryd.pinned (.plain (OpenSpec.ofChange dutiesFirmSpec)) dutiesFirmCard

/-- THE TIED CARD OF 'statutelaw1.DayWorks'. -/
def dayWorksCard : Claim7 := { stood := { row := dayWorksRow, standIns := [], harness := (true, "f856f4177ecfbe69d34566d0401f4fa869fafc0b09a95769a665d7410649bbce"), looks := true }, kinds := [], alts := [], laidByText := true, laidKinds := [.handle, .sentinel, .sentinel, .sentinel, .sentinel, .sentinel, .sentinel, .sentinel, .sentinel, .sentinel, .sentinel, .sentinel], laidTests := true, laidLooks := .later }
def DayWorksCardSaid : Prop := Claim7.holds Tryd.pinned (.plain (OpenSpec.ofChange dayWorksSpec)) dayWorksCard

/-- THE TIED CARD OF 'statutelaw1.DayAdds'. -/
def dayAddsCard : Claim7 := { stood := { row := dayAddsRow, standIns := [], harness := (true, "f856f4177ecfbe69d34566d0401f4fa869fafc0b09a95769a665d7410649bbce"), looks := true }, kinds := [], alts := [], laidByText := true, laidKinds := [.handle, .sentinel, .sentinel, .sentinel, .sentinel, .sentinel, .sentinel, .sentinel, .sentinel, .sentinel, .sentinel, .sentinel], laidTests := true, laidLooks := .later }
def DayAddsCardSaid : Prop := Claim7.holds Tryd.pinned (.plain (OpenSpec.ofChange dayAddsSpec)) dayAddsCard

/-- THE TIED CARD OF 'statutelaw5.SumsMonths'. -/
def sumsMonthsCard : Claim7 := { stood := { row := sumsMonthsRow, standIns := [], harness := (true, "f856f4177ecfbe69d34566d0401f4fa869fafc0b09a95769a665d7410649bbce"), looks := true }, kinds := [], alts := [], laidByText := true, laidKinds := [.handle, .sentinel, .sentinel, .sentinel, .sentinel, .sentinel, .sentinel, .sentinel, .sentinel, .sentinel, .sentinel, .sentinel], laidTests := true, laidLooks := .later }
def SumsMonthsCardSaid : Prop := Claim7.holds Tryd.pinned (.plain (OpenSpec.ofChange sumsMonthsSpec)) sumsMonthsCard

/-- THE TIED CARD OF 'statutelaw5.LedgerSettles'. -/
def ledgerSettlesCard : Claim7 := { stood := { row := ledgerSettlesRow, standIns := [], harness := (true, "f856f4177ecfbe69d34566d0401f4fa869fafc0b09a95769a665d7410649bbce"), looks := true }, kinds := [], alts := [], laidByText := true, laidKinds := [.handle, .sentinel, .sentinel, .sentinel, .sentinel, .sentinel, .sentinel, .sentinel, .sentinel, .sentinel, .sentinel, .sentinel], laidTests := true, laidLooks := .later }
def LedgerSettlesCardSaid : Prop := Claim7.holds Tryd.pinned (.plain (OpenSpec.ofChange ledgerSettlesSpec)) ledgerSettlesCard

/-- THE TIED CARD OF 'statutelaw1.DayDue'. -/
def dayDueCard : Claim7 := { stood := { row := dayDueRow, standIns := [], harness := (true, "f856f4177ecfbe69d34566d0401f4fa869fafc0b09a95769a665d7410649bbce"), looks := true }, kinds := [], alts := [], laidByText := true, laidKinds := [.handle, .sentinel, .sentinel, .sentinel, .sentinel, .sentinel, .sentinel, .sentinel, .sentinel, .sentinel, .sentinel, .sentinel], laidTests := true, laidLooks := .later }
def DayDueCardSaid : Prop := Claim7.holds Tryd.pinned (.plain (OpenSpec.ofChange dayDueSpec)) dayDueCard

/-- THE TIED CARD OF 'statutelaw4.WhyChecks'. -/
def whyChecksCard : Claim7 := { stood := { row := whyChecksRow, standIns := [], harness := (true, "f856f4177ecfbe69d34566d0401f4fa869fafc0b09a95769a665d7410649bbce"), looks := true }, kinds := [], alts := [], laidByText := true, laidKinds := [.handle, .sentinel, .sentinel, .sentinel, .sentinel, .sentinel, .sentinel, .sentinel, .sentinel, .sentinel, .sentinel, .sentinel], laidTests := true, laidLooks := .later }
def WhyChecksCardSaid : Prop := Claim7.holds Tryd.pinned (.plain (OpenSpec.ofChange whyChecksSpec)) whyChecksCard

/-- THE TIED CARD OF 'statutelaw4.ReasonSolves'. -/
def reasonSolvesCard : Claim7 := { stood := { row := reasonSolvesRow, standIns := [], harness := (true, "f856f4177ecfbe69d34566d0401f4fa869fafc0b09a95769a665d7410649bbce"), looks := true }, kinds := [], alts := [], laidByText := true, laidKinds := [.handle, .sentinel, .sentinel, .sentinel, .sentinel, .sentinel, .sentinel, .sentinel, .sentinel, .sentinel, .sentinel, .sentinel], laidTests := true, laidLooks := .later }
def ReasonSolvesCardSaid : Prop := Claim7.holds Tryd.pinned (.plain (OpenSpec.ofChange reasonSolvesSpec)) reasonSolvesCard

/-- THE TIED CARD OF 'statutelaw4.WhyExplains'. -/
def whyExplainsCard : Claim7 := { stood := { row := whyExplainsRow, standIns := [], harness := (true, "f856f4177ecfbe69d34566d0401f4fa869fafc0b09a95769a665d7410649bbce"), looks := true }, kinds := [], alts := [], laidByText := true, laidKinds := [.handle, .sentinel, .sentinel, .sentinel, .sentinel, .sentinel, .sentinel, .sentinel, .sentinel, .sentinel, .sentinel, .sentinel], laidTests := true, laidLooks := .later }
def WhyExplainsCardSaid : Prop := Claim7.holds Tryd.pinned (.plain (OpenSpec.ofChange whyExplainsSpec)) whyExplainsCard

/-- THE SECOND FORM's CARD OF 'statutelaw5.DutiesFirm'. -/
def dutiesFirmUptoCard : Claim7 := { stood := { row := dutiesFirmUptoRow, standIns := [], harness := (true, "f856f4177ecfbe69d34566d0401f4fa869fafc0b09a95769a665d7410649bbce"), looks := true }, kinds := [], alts := [], laidByText := true, laidKinds := [.sentinel, .sentinel, .sentinel], laidTests := true, laidLooks := .later }
def DutiesFirmUptoCardSaid : Prop := Claim7.holds Tryd.pinned (.plain (OpenSpec.upto dutiesFirmSpec)) dutiesFirmUptoCard

/-- THE SECOND FORM's CARD OF 'statutelaw1.DayWorks'. -/
def dayWorksUptoCard : Claim7 := { stood := { row := dayWorksUptoRow, standIns := [], harness := (true, "f856f4177ecfbe69d34566d0401f4fa869fafc0b09a95769a665d7410649bbce"), looks := true }, kinds := [], alts := [], laidByText := true, laidKinds := [.handle, .sentinel, .sentinel, .sentinel, .sentinel, .sentinel, .sentinel, .sentinel, .sentinel, .sentinel, .sentinel, .sentinel], laidTests := true, laidLooks := .later }
def DayWorksUptoCardSaid : Prop := Claim7.holds Tryd.pinned (.plain (OpenSpec.upto dayWorksSpec)) dayWorksUptoCard

/-- THE SECOND FORM's CARD OF 'statutelaw1.DayAdds'. -/
def dayAddsUptoCard : Claim7 := { stood := { row := dayAddsUptoRow, standIns := [], harness := (true, "f856f4177ecfbe69d34566d0401f4fa869fafc0b09a95769a665d7410649bbce"), looks := true }, kinds := [], alts := [], laidByText := true, laidKinds := [.handle, .sentinel, .sentinel, .sentinel, .sentinel, .sentinel, .sentinel, .sentinel, .sentinel, .sentinel, .sentinel, .sentinel], laidTests := true, laidLooks := .later }
def DayAddsUptoCardSaid : Prop := Claim7.holds Tryd.pinned (.plain (OpenSpec.upto dayAddsSpec)) dayAddsUptoCard

/-- THE SECOND FORM's CARD OF 'statutelaw5.SumsMonths'. -/
def sumsMonthsUptoCard : Claim7 := { stood := { row := sumsMonthsUptoRow, standIns := [], harness := (true, "f856f4177ecfbe69d34566d0401f4fa869fafc0b09a95769a665d7410649bbce"), looks := true }, kinds := [], alts := [], laidByText := true, laidKinds := [.handle, .sentinel, .sentinel, .sentinel, .sentinel, .sentinel, .sentinel, .sentinel, .sentinel, .sentinel, .sentinel, .sentinel], laidTests := true, laidLooks := .later }
def SumsMonthsUptoCardSaid : Prop := Claim7.holds Tryd.pinned (.plain (OpenSpec.upto sumsMonthsSpec)) sumsMonthsUptoCard

/-- THE SECOND FORM's CARD OF 'statutelaw5.LedgerSettles'. -/
def ledgerSettlesUptoCard : Claim7 := { stood := { row := ledgerSettlesUptoRow, standIns := [], harness := (true, "f856f4177ecfbe69d34566d0401f4fa869fafc0b09a95769a665d7410649bbce"), looks := true }, kinds := [], alts := [], laidByText := true, laidKinds := [.handle, .sentinel, .sentinel, .sentinel, .sentinel, .sentinel, .sentinel, .sentinel, .sentinel, .sentinel, .sentinel, .sentinel], laidTests := true, laidLooks := .later }
def LedgerSettlesUptoCardSaid : Prop := Claim7.holds Tryd.pinned (.plain (OpenSpec.upto ledgerSettlesSpec)) ledgerSettlesUptoCard

/-- THE SECOND FORM's CARD OF 'statutelaw1.DayDue'. -/
def dayDueUptoCard : Claim7 := { stood := { row := dayDueUptoRow, standIns := [], harness := (true, "f856f4177ecfbe69d34566d0401f4fa869fafc0b09a95769a665d7410649bbce"), looks := true }, kinds := [], alts := [], laidByText := true, laidKinds := [.handle, .sentinel, .sentinel, .sentinel, .sentinel, .sentinel, .sentinel, .sentinel, .sentinel, .sentinel, .sentinel, .sentinel], laidTests := true, laidLooks := .later }
def DayDueUptoCardSaid : Prop := Claim7.holds Tryd.pinned (.plain (OpenSpec.upto dayDueSpec)) dayDueUptoCard

/-- THE SECOND FORM's CARD OF 'statutelaw4.WhyChecks'. -/
def whyChecksUptoCard : Claim7 := { stood := { row := whyChecksUptoRow, standIns := [], harness := (true, "f856f4177ecfbe69d34566d0401f4fa869fafc0b09a95769a665d7410649bbce"), looks := true }, kinds := [], alts := [], laidByText := true, laidKinds := [.handle, .sentinel, .sentinel, .sentinel, .sentinel, .sentinel, .sentinel, .sentinel, .sentinel, .sentinel, .sentinel, .sentinel], laidTests := true, laidLooks := .later }
def WhyChecksUptoCardSaid : Prop := Claim7.holds Tryd.pinned (.plain (OpenSpec.upto whyChecksSpec)) whyChecksUptoCard

/-- THE SECOND FORM's CARD OF 'statutelaw4.ReasonSolves'. -/
def reasonSolvesUptoCard : Claim7 := { stood := { row := reasonSolvesUptoRow, standIns := [], harness := (true, "f856f4177ecfbe69d34566d0401f4fa869fafc0b09a95769a665d7410649bbce"), looks := true }, kinds := [], alts := [], laidByText := true, laidKinds := [.handle, .sentinel, .sentinel, .sentinel, .sentinel, .sentinel, .sentinel, .sentinel, .sentinel, .sentinel, .sentinel, .sentinel], laidTests := true, laidLooks := .later }
def ReasonSolvesUptoCardSaid : Prop := Claim7.holds Tryd.pinned (.plain (OpenSpec.upto reasonSolvesSpec)) reasonSolvesUptoCard

/-- THE SECOND FORM's CARD OF 'statutelaw4.WhyExplains'. -/
def whyExplainsUptoCard : Claim7 := { stood := { row := whyExplainsUptoRow, standIns := [], harness := (true, "f856f4177ecfbe69d34566d0401f4fa869fafc0b09a95769a665d7410649bbce"), looks := true }, kinds := [], alts := [], laidByText := true, laidKinds := [.handle, .sentinel, .sentinel, .sentinel, .sentinel, .sentinel, .sentinel, .sentinel, .sentinel, .sentinel, .sentinel, .sentinel], laidTests := true, laidLooks := .later }
def WhyExplainsUptoCardSaid : Prop := Claim7.holds Tryd.pinned (.plain (OpenSpec.upto whyExplainsSpec)) whyExplainsUptoCard
end Rows
end Go.Proofs.YtnbpdknmbjkfeaaDoor
