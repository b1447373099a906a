/-
  DERIVED. GIVEN WITH THE SEED: THE CARDS: each row of YtcpcejmlnhflpaaDoorRows.lean that lists a variable, with what it lists TIED to the program's text (the seventh form; the later family's looks); each row that meets fmt, with fmt's text TOLD by the authors' own Lean function (tested against real Go, not proved from fmt's source: count such statements apart). THE CARD IS WHAT COUNTS. Prove the row's statement (the work); the ties are given (YtcpcejmlnhflpaaDoorTie.lean); close each card by the builder's one call (the guide's Derived/Test/ToyasCard.lean, 'card_holds'). Laid BY PROGRAM, IN A SANDBOX (cutbox-door.mjs). By AI agents, Wed Nov 11 2026. No macro, syntax, notation, axiom, sorry.
-/
import Derived.Test.YtcpcejmlnhflpaaDoorRows
import GoSem.ClaimSeven
namespace Go.Proofs.YtcpcejmlnhflpaaDoor
namespace Rows

/-- THE TIED CARD OF 'statutelaw3.FactsLater'. -/
def factsLaterCard : Claim7 := { stood := { row := factsLaterRow, standIns := [], harness := (true, "c4d1bae919cec986a17037e91b38bb056f28cd92e0412aba3ccd195735b28753"), looks := true }, kinds := [], alts := [], laidByText := true, laidKinds := [.handle, .sentinel, .sentinel, .sentinel, .sentinel, .sentinel, .sentinel, .sentinel, .sentinel, .sentinel, .sentinel, .sentinel], laidTests := true, laidLooks := .later }
def FactsLaterCardSaid : Prop := Claim7.holds Tryd.pinned (.plain (OpenSpec.ofChange factsLaterSpec)) factsLaterCard

/-- THE TIED CARD OF 'statutelaw3.FactsKept'. -/
def factsKeptCard : Claim7 := { stood := { row := factsKeptRow, standIns := [], harness := (true, "c4d1bae919cec986a17037e91b38bb056f28cd92e0412aba3ccd195735b28753"), looks := true }, kinds := [], alts := [], laidByText := true, laidKinds := [.handle, .sentinel, .sentinel, .sentinel, .sentinel, .sentinel, .sentinel, .sentinel, .sentinel, .sentinel, .sentinel, .sentinel], laidTests := true, laidLooks := .later }
def FactsKeptCardSaid : Prop := Claim7.holds Tryd.pinned (.plain (OpenSpec.ofChange factsKeptSpec)) factsKeptCard

/-- THE SECOND FORM's CARD OF 'statutelaw3.FactsLater'. -/
def factsLaterUptoCard : Claim7 := { stood := { row := factsLaterUptoRow, standIns := [], harness := (true, "c4d1bae919cec986a17037e91b38bb056f28cd92e0412aba3ccd195735b28753"), looks := true }, kinds := [], alts := [], laidByText := true, laidKinds := [.handle, .sentinel, .sentinel, .sentinel, .sentinel, .sentinel, .sentinel, .sentinel, .sentinel, .sentinel, .sentinel, .sentinel], laidTests := true, laidLooks := .later }
def FactsLaterUptoCardSaid : Prop := Claim7.holds Tryd.pinned (.plain (OpenSpec.upto factsLaterSpec)) factsLaterUptoCard

/-- THE SECOND FORM's CARD OF 'statutelaw3.FactsKept'. -/
def factsKeptUptoCard : Claim7 := { stood := { row := factsKeptUptoRow, standIns := [], harness := (true, "c4d1bae919cec986a17037e91b38bb056f28cd92e0412aba3ccd195735b28753"), looks := true }, kinds := [], alts := [], laidByText := true, laidKinds := [.handle, .sentinel, .sentinel, .sentinel, .sentinel, .sentinel, .sentinel, .sentinel, .sentinel, .sentinel, .sentinel, .sentinel], laidTests := true, laidLooks := .later }
def FactsKeptUptoCardSaid : Prop := Claim7.holds Tryd.pinned (.plain (OpenSpec.upto factsKeptSpec)) factsKeptUptoCard
end Rows
end Go.Proofs.YtcpcejmlnhflpaaDoor
