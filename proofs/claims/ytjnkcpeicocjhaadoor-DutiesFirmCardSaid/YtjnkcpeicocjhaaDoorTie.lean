/-
  DERIVED. GIVEN WITH THE SEED: THE PROGRAM's TIES (one call each: nine closed facts by the kernel) AND EACH ROW's TIE, after the 31st guide's Derived/Test/Toyas{Tie, Card}.lean. No idea stands in it: it is a product of the set-up. Laid BY PROGRAM, IN A SANDBOX (cutbox-door.mjs). By AI agents, Wed Nov 11 2026. No macro, syntax, notation, axiom, sorry.
-/
import Derived.Test.YtjnkcpeicocjhaaDoorRows
import Derived.LaidByTextLater
import Derived.SevenTiedAt
import Derived.LaidSub
import Derived.LaidOnce
namespace Go.Proofs.YtjnkcpeicocjhaaDoor
open Go
set_option maxRecDepth 100000
theorem seatTie1 : Tryd.prog.laidByTextLater [("math/bits.deBruijn32tab", Rows.laid_math_bits_deBruijn32tab), ("math/bits.deBruijn64tab", Rows.laid_math_bits_deBruijn64tab), ("internal/strconv.uint64pow10", Rows.laid_internal_strconv_uint64pow10), ("errors.errorType", Rows.laid_errors_errorType), ("statute/api.ErrText", Rows.laid_statute_api_ErrText), ("statute/api.ErrBound", Rows.laid_statute_api_ErrBound), ("statute/api.ErrCoin", Rows.laid_statute_api_ErrCoin), ("statute/api.ErrDay", Rows.laid_statute_api_ErrDay), ("statute/api.ErrPath", Rows.laid_statute_api_ErrPath), ("statute/api.ErrWords", Rows.laid_statute_api_ErrWords), ("statute/api.ErrName", Rows.laid_statute_api_ErrName), ("statute/api.ErrOrder", Rows.laid_statute_api_ErrOrder), ("statute/api.ErrKind", Rows.laid_statute_api_ErrKind), ("statute/api.ErrProof", Rows.laid_statute_api_ErrProof), ("statute/api.ErrStage", Rows.laid_statute_api_ErrStage), ("strconv.ErrRange", Rows.laid_strconv_ErrRange), ("strconv.ErrSyntax", Rows.laid_strconv_ErrSyntax)] [.data, .data, .data, .handle, .sentinel, .sentinel, .sentinel, .sentinel, .sentinel, .sentinel, .sentinel, .sentinel, .sentinel, .sentinel, .sentinel, .sentinel, .sentinel] true :=
  Program.laidByTextLater_by_one 278 8 65 (by kernel_rfl) (by kernel_rfl) (by kernel_rfl) (by kernel_rfl) (by kernel_rfl) (by kernel_rfl) (fun _ _ => by kernel_rfl)
theorem noOwnUnsafe : Tryd.pinned.checked.prog.headLifts.contains "ownunsafe" = false := by kernel_rfl
theorem tie : Tryd.prog.laidByTextLater [("statute/api.ErrBound", Rows.laid_statute_api_ErrBound), ("statute/api.ErrDay", Rows.laid_statute_api_ErrDay), ("statute/api.ErrKind", Rows.laid_statute_api_ErrKind)] [.sentinel, .sentinel, .sentinel] true :=
  Program.laidByTextLater.sub seatTie1 ["statute/api.ErrBound", "statute/api.ErrDay", "statute/api.ErrKind"] (by kernel_rfl) (by kernel_rfl)
theorem dutiesFirm_row_tie : Rows.dutiesFirmRow.laidByTextAt .later Tryd.pinned [.sentinel, .sentinel, .sentinel] true :=
  OpenClaim.laidByTextAt_later rfl rfl tie noOwnUnsafe
theorem tie2 : Tryd.prog.laidByTextLater [("errors.errorType", Rows.laid_errors_errorType), ("statute/api.ErrText", Rows.laid_statute_api_ErrText), ("statute/api.ErrBound", Rows.laid_statute_api_ErrBound), ("statute/api.ErrCoin", Rows.laid_statute_api_ErrCoin), ("statute/api.ErrDay", Rows.laid_statute_api_ErrDay), ("statute/api.ErrPath", Rows.laid_statute_api_ErrPath), ("statute/api.ErrWords", Rows.laid_statute_api_ErrWords), ("statute/api.ErrName", Rows.laid_statute_api_ErrName), ("statute/api.ErrOrder", Rows.laid_statute_api_ErrOrder), ("statute/api.ErrKind", Rows.laid_statute_api_ErrKind), ("statute/api.ErrProof", Rows.laid_statute_api_ErrProof), ("statute/api.ErrStage", Rows.laid_statute_api_ErrStage)] [.handle, .sentinel, .sentinel, .sentinel, .sentinel, .sentinel, .sentinel, .sentinel, .sentinel, .sentinel, .sentinel, .sentinel] true :=
  Program.laidByTextLater.sub seatTie1 ["errors.errorType", "statute/api.ErrText", "statute/api.ErrBound", "statute/api.ErrCoin", "statute/api.ErrDay", "statute/api.ErrPath", "statute/api.ErrWords", "statute/api.ErrName", "statute/api.ErrOrder", "statute/api.ErrKind", "statute/api.ErrProof", "statute/api.ErrStage"] (by kernel_rfl) (by kernel_rfl)
theorem ledgerSettles_row_tie : Rows.ledgerSettlesRow.laidByTextAt .later Tryd.pinned [.handle, .sentinel, .sentinel, .sentinel, .sentinel, .sentinel, .sentinel, .sentinel, .sentinel, .sentinel, .sentinel, .sentinel] true :=
  OpenClaim.laidByTextAt_later rfl rfl tie2 noOwnUnsafe
theorem whyExplains_row_tie : Rows.whyExplainsRow.laidByTextAt .later Tryd.pinned [.handle, .sentinel, .sentinel, .sentinel, .sentinel, .sentinel, .sentinel, .sentinel, .sentinel, .sentinel, .sentinel, .sentinel] true :=
  OpenClaim.laidByTextAt_later rfl rfl tie2 noOwnUnsafe
theorem tie3 : Tryd.prog.laidByTextLater [("math/bits.deBruijn32tab", Rows.laid_math_bits_deBruijn32tab), ("math/bits.deBruijn64tab", Rows.laid_math_bits_deBruijn64tab), ("internal/strconv.uint64pow10", Rows.laid_internal_strconv_uint64pow10), ("strconv.ErrRange", Rows.laid_strconv_ErrRange), ("strconv.ErrSyntax", Rows.laid_strconv_ErrSyntax)] [.data, .data, .data, .sentinel, .sentinel] true :=
  Program.laidByTextLater.sub seatTie1 ["math/bits.deBruijn32tab", "math/bits.deBruijn64tab", "internal/strconv.uint64pow10", "strconv.ErrRange", "strconv.ErrSyntax"] (by kernel_rfl) (by kernel_rfl)
theorem scriptLess_row_tie : Rows.scriptLessRow.laidByTextAt .later Tryd.pinned [.data, .data, .data, .sentinel, .sentinel] true :=
  OpenClaim.laidByTextAt_later rfl rfl tie3 noOwnUnsafe
theorem dutiesFirmUpto_row_tie : Rows.dutiesFirmUptoRow.laidByTextAt .later Tryd.pinned [.sentinel, .sentinel, .sentinel] true :=
  OpenClaim.laidByTextAt_later rfl rfl tie noOwnUnsafe
theorem ledgerSettlesUpto_row_tie : Rows.ledgerSettlesUptoRow.laidByTextAt .later Tryd.pinned [.handle, .sentinel, .sentinel, .sentinel, .sentinel, .sentinel, .sentinel, .sentinel, .sentinel, .sentinel, .sentinel, .sentinel] true :=
  OpenClaim.laidByTextAt_later rfl rfl tie2 noOwnUnsafe
theorem whyExplainsUpto_row_tie : Rows.whyExplainsUptoRow.laidByTextAt .later Tryd.pinned [.handle, .sentinel, .sentinel, .sentinel, .sentinel, .sentinel, .sentinel, .sentinel, .sentinel, .sentinel, .sentinel, .sentinel] true :=
  OpenClaim.laidByTextAt_later rfl rfl tie2 noOwnUnsafe
theorem scriptLessUpto_row_tie : Rows.scriptLessUptoRow.laidByTextAt .later Tryd.pinned [.data, .data, .data, .sentinel, .sentinel] true :=
  OpenClaim.laidByTextAt_later rfl rfl tie3 noOwnUnsafe
end Go.Proofs.YtjnkcpeicocjhaaDoor
