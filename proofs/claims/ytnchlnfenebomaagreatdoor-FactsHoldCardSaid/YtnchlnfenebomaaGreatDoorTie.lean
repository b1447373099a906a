/-
  DERIVED. GIVEN WITH THE SEED: THE PROGRAM's TIES (one call each: nine closed facts by the kernel) AND EACH ROW's TIE, after the 31st guide's Derived/Test/Toyas{Tie, Card}.lean. No idea stands in it: it is a product of the set-up. Laid BY PROGRAM, IN A SANDBOX (cutbox-door.mjs). By AI agents, Wed Nov 11 2026. No macro, syntax, notation, axiom, sorry.
-/
import Derived.Test.YtnchlnfenebomaaGreatDoorRows
import Derived.LaidByTextLater
import Derived.SevenTiedAt
import Derived.LaidSub
import Derived.LaidOnce
namespace Go.Proofs.YtnchlnfenebomaaGreatDoor
open Go
set_option maxRecDepth 100000
theorem seatTie1 : Tryz.prog.laidByTextLater [("errors.errorType", Rows.laid_errors_errorType), ("statute/api.ErrText", Rows.laid_statute_api_ErrText), ("statute/api.ErrBound", Rows.laid_statute_api_ErrBound), ("statute/api.ErrCoin", Rows.laid_statute_api_ErrCoin), ("statute/api.ErrDay", Rows.laid_statute_api_ErrDay), ("statute/api.ErrPath", Rows.laid_statute_api_ErrPath), ("statute/api.ErrWords", Rows.laid_statute_api_ErrWords), ("statute/api.ErrName", Rows.laid_statute_api_ErrName), ("statute/api.ErrOrder", Rows.laid_statute_api_ErrOrder), ("statute/api.ErrKind", Rows.laid_statute_api_ErrKind), ("statute/api.ErrProof", Rows.laid_statute_api_ErrProof), ("statute/api.ErrStage", Rows.laid_statute_api_ErrStage)] [.handle, .sentinel, .sentinel, .sentinel, .sentinel, .sentinel, .sentinel, .sentinel, .sentinel, .sentinel, .sentinel, .sentinel] true :=
  Program.laidByTextLater_by_one 225 8 2 (by kernel_rfl) (by kernel_rfl) (by kernel_rfl) (by kernel_rfl) (by kernel_rfl) (by kernel_rfl) (fun _ _ => by kernel_rfl)
theorem noOwnUnsafe : Tryz.pinned.checked.prog.headLifts.contains "ownunsafe" = false := by kernel_rfl
theorem tie : Tryz.prog.laidByTextLater [("errors.errorType", Rows.laid_errors_errorType), ("statute/api.ErrText", Rows.laid_statute_api_ErrText), ("statute/api.ErrBound", Rows.laid_statute_api_ErrBound), ("statute/api.ErrCoin", Rows.laid_statute_api_ErrCoin), ("statute/api.ErrDay", Rows.laid_statute_api_ErrDay), ("statute/api.ErrPath", Rows.laid_statute_api_ErrPath), ("statute/api.ErrWords", Rows.laid_statute_api_ErrWords), ("statute/api.ErrName", Rows.laid_statute_api_ErrName), ("statute/api.ErrOrder", Rows.laid_statute_api_ErrOrder), ("statute/api.ErrKind", Rows.laid_statute_api_ErrKind), ("statute/api.ErrProof", Rows.laid_statute_api_ErrProof), ("statute/api.ErrStage", Rows.laid_statute_api_ErrStage)] [.handle, .sentinel, .sentinel, .sentinel, .sentinel, .sentinel, .sentinel, .sentinel, .sentinel, .sentinel, .sentinel, .sentinel] true :=
  Program.laidByTextLater.sub seatTie1 ["errors.errorType", "statute/api.ErrText", "statute/api.ErrBound", "statute/api.ErrCoin", "statute/api.ErrDay", "statute/api.ErrPath", "statute/api.ErrWords", "statute/api.ErrName", "statute/api.ErrOrder", "statute/api.ErrKind", "statute/api.ErrProof", "statute/api.ErrStage"] (by kernel_rfl) (by kernel_rfl)
theorem factsHold_row_tie : Rows.factsHoldRow.laidByTextAt .later Tryz.pinned [.handle, .sentinel, .sentinel, .sentinel, .sentinel, .sentinel, .sentinel, .sentinel, .sentinel, .sentinel, .sentinel, .sentinel] true :=
  OpenClaim.laidByTextAt_later rfl rfl tie noOwnUnsafe
theorem casesGo_row_tie : Rows.casesGoRow.laidByTextAt .later Tryz.pinned [.handle, .sentinel, .sentinel, .sentinel, .sentinel, .sentinel, .sentinel, .sentinel, .sentinel, .sentinel, .sentinel, .sentinel] true :=
  OpenClaim.laidByTextAt_later rfl rfl tie noOwnUnsafe
theorem factsHoldUpto_row_tie : Rows.factsHoldUptoRow.laidByTextAt .later Tryz.pinned [.handle, .sentinel, .sentinel, .sentinel, .sentinel, .sentinel, .sentinel, .sentinel, .sentinel, .sentinel, .sentinel, .sentinel] true :=
  OpenClaim.laidByTextAt_later rfl rfl tie noOwnUnsafe
theorem casesGoUpto_row_tie : Rows.casesGoUptoRow.laidByTextAt .later Tryz.pinned [.handle, .sentinel, .sentinel, .sentinel, .sentinel, .sentinel, .sentinel, .sentinel, .sentinel, .sentinel, .sentinel, .sentinel] true :=
  OpenClaim.laidByTextAt_later rfl rfl tie noOwnUnsafe
end Go.Proofs.YtnchlnfenebomaaGreatDoor
