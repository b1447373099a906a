/-
  DERIVED. GIVEN WITH THE SEED: THE CARDS: each row of YtjnkcpeicocjhaaDoorRows.lean that lists a variable, with what it lists TIED to the program's text (the seventh form; the later family's looks); each row that meets fmt, with fmt's text TOLD by the authors' own Lean function (tested against real Go, not proved from fmt's source: count such statements apart). THE CARD IS WHAT COUNTS. Prove the row's statement (the work); the ties are given (YtjnkcpeicocjhaaDoorTie.lean); close each card by the builder's one call (the guide's Derived/Test/ToyasCard.lean, 'card_holds'). Laid BY PROGRAM, IN A SANDBOX (cutbox-door.mjs). By AI agents, Wed Nov 11 2026. No macro, syntax, notation, axiom, sorry.
-/
import Derived.Test.YtjnkcpeicocjhaaDoorRows
import GoSem.ClaimSeven
namespace Go.Proofs.YtjnkcpeicocjhaaDoor
namespace Rows

/-- THE TIED CARD OF 'statutelaw5.DutiesFirm'. -/
def dutiesFirmCard : Claim7 := { stood := { row := dutiesFirmRow, standIns := [], harness := (true, "c2aa6d6faa9a75d812d4670b53a058bae2b55e890ba8b386700295596d965fe9"), looks := true }, kinds := [], alts := [], laidByText := true, laidKinds := [.sentinel, .sentinel, .sentinel], laidTests := true, laidLooks := .later }
def DutiesFirmCardSaid : Prop := Claim7.holds Tryd.pinned (.plain (OpenSpec.ofChange dutiesFirmSpec)) dutiesFirmCard

/-- THE TIED CARD OF 'statutelaw5.LedgerSettles'. -/
def ledgerSettlesCard : Claim7 := { stood := { row := ledgerSettlesRow, standIns := [], harness := (true, "c2aa6d6faa9a75d812d4670b53a058bae2b55e890ba8b386700295596d965fe9"), looks := true }, kinds := [], alts := [], laidByText := true, laidKinds := [.handle, .sentinel, .sentinel, .sentinel, .sentinel, .sentinel, .sentinel, .sentinel, .sentinel, .sentinel, .sentinel, .sentinel], laidTests := true, laidLooks := .later }
def LedgerSettlesCardSaid : Prop := Claim7.holds Tryd.pinned (.plain (OpenSpec.ofChange ledgerSettlesSpec)) ledgerSettlesCard

/-- THE TIED CARD OF 'statutelaw4.WhyExplains'. -/
def whyExplainsCard : Claim7 := { stood := { row := whyExplainsRow, standIns := [], harness := (true, "c2aa6d6faa9a75d812d4670b53a058bae2b55e890ba8b386700295596d965fe9"), looks := true }, kinds := [], alts := [], laidByText := true, laidKinds := [.handle, .sentinel, .sentinel, .sentinel, .sentinel, .sentinel, .sentinel, .sentinel, .sentinel, .sentinel, .sentinel, .sentinel], laidTests := true, laidLooks := .later }
def WhyExplainsCardSaid : Prop := Claim7.holds Tryd.pinned (.plain (OpenSpec.ofChange whyExplainsSpec)) whyExplainsCard

/-- THE TIED CARD OF 'statutelaw1.ScriptLess'. -/
def scriptLessCard : Claim7 := { stood := { row := scriptLessRow, standIns := [], harness := (true, "c2aa6d6faa9a75d812d4670b53a058bae2b55e890ba8b386700295596d965fe9"), looks := true }, kinds := [], alts := [], laidByText := true, laidKinds := [.data, .data, .data, .sentinel, .sentinel], laidTests := true, laidLooks := .later }
def ScriptLessCardSaid : Prop := Claim7.holds Tryd.pinned (.plain (OpenSpec.ofChange scriptLessSpec)) scriptLessCard

/-- THE SECOND FORM's CARD OF 'statutelaw5.DutiesFirm'. -/
def dutiesFirmUptoCard : Claim7 := { stood := { row := dutiesFirmUptoRow, standIns := [], harness := (true, "c2aa6d6faa9a75d812d4670b53a058bae2b55e890ba8b386700295596d965fe9"), looks := true }, kinds := [], alts := [], laidByText := true, laidKinds := [.sentinel, .sentinel, .sentinel], laidTests := true, laidLooks := .later }
def DutiesFirmUptoCardSaid : Prop := Claim7.holds Tryd.pinned (.plain (OpenSpec.upto dutiesFirmSpec)) dutiesFirmUptoCard

/-- THE SECOND FORM's CARD OF 'statutelaw5.LedgerSettles'. -/
def ledgerSettlesUptoCard : Claim7 := { stood := { row := ledgerSettlesUptoRow, standIns := [], harness := (true, "c2aa6d6faa9a75d812d4670b53a058bae2b55e890ba8b386700295596d965fe9"), looks := true }, kinds := [], alts := [], laidByText := true, laidKinds := [.handle, .sentinel, .sentinel, .sentinel, .sentinel, .sentinel, .sentinel, .sentinel, .sentinel, .sentinel, .sentinel, .sentinel], laidTests := true, laidLooks := .later }
def LedgerSettlesUptoCardSaid : Prop := Claim7.holds Tryd.pinned (.plain (OpenSpec.upto ledgerSettlesSpec)) ledgerSettlesUptoCard

/-- THE SECOND FORM's CARD OF 'statutelaw4.WhyExplains'. -/
def whyExplainsUptoCard : Claim7 := { stood := { row := whyExplainsUptoRow, standIns := [], harness := (true, "c2aa6d6faa9a75d812d4670b53a058bae2b55e890ba8b386700295596d965fe9"), looks := true }, kinds := [], alts := [], laidByText := true, laidKinds := [.handle, .sentinel, .sentinel, .sentinel, .sentinel, .sentinel, .sentinel, .sentinel, .sentinel, .sentinel, .sentinel, .sentinel], laidTests := true, laidLooks := .later }
def WhyExplainsUptoCardSaid : Prop := Claim7.holds Tryd.pinned (.plain (OpenSpec.upto whyExplainsSpec)) whyExplainsUptoCard

/-- THE SECOND FORM's CARD OF 'statutelaw1.ScriptLess'. -/
def scriptLessUptoCard : Claim7 := { stood := { row := scriptLessUptoRow, standIns := [], harness := (true, "c2aa6d6faa9a75d812d4670b53a058bae2b55e890ba8b386700295596d965fe9"), looks := true }, kinds := [], alts := [], laidByText := true, laidKinds := [.data, .data, .data, .sentinel, .sentinel], laidTests := true, laidLooks := .later }
def ScriptLessUptoCardSaid : Prop := Claim7.holds Tryd.pinned (.plain (OpenSpec.upto scriptLessSpec)) scriptLessUptoCard
end Rows
end Go.Proofs.YtjnkcpeicocjhaaDoor
