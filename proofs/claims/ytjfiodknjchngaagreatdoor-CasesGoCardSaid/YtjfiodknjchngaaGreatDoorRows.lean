/-
  NARROWER THAN 'FOR EVERY INPUT', by the rows' own cells (each row's printed sentence says how): CasesGo: laid · LedgerKeeps: laid.
  DERIVED. THE GIVEN ROWS OF THIS SEAT. 2 by the template 'for every input the law returns true; each argument reads behind the call as it read before'; 0 by the template 'total and deterministic' (their statements: YtjfiodknjchngaaGreatDoorTotals.lean).
  GIVEN WITH THE SEED: the statements are not yours to turn. If you find one false, say at which input.
  Laid BY PROGRAM, IN A SANDBOX (cutbox-rows.mjs): the forced cells as the released guide's own fill.sh prints them over the translation 1cad48c04189c579… (all of the seat's roots in one cut). By AI agents, Wed Nov 11 2026. No macro, syntax, notation, axiom, sorry.
-/
import Derived.Test.YtjfiodknjchngaaGreatDoorChecked
import GoSem.PinnedTables
import GoSem.Claim
import GoSem.ClaimJoined
import GoSem.ClaimMapViews
import Derived.JoinedTies
import Derived.KernelRfl
namespace Go.Proofs.YtjfiodknjchngaaGreatDoor
/- THE CELL 'sum', in the pinned program and in every row, IS THE sha256 OF THE DUMP (.gsa) THAT YtjfiodknjchngaaGreatDoorProg.lean LOADS. Nothing in Lean hashes anything: it is a label: what it is worth is what the hold of that sum in a sandbox is worth. -/
noncomputable def Tryz.pinned : Pinned := { name := "ytjfiodknjchngaagreatdoor", sum := "1cad48c04189c57967f572fdfa5d1dced62fa8aab5c1f7dcda00d9b99149431e", checked := Tryz.checked }
namespace Rows
def none {H : Type} : Left H := { results := [], args := [] }

/- WHAT THE LISTED PACKAGE-LEVEL VARIABLES READ AS WHEN THE CALL BEGINS. Each datum BY PROGRAM (the guide's laid-datum.mjs) off the statement by which the dump's own 'gosem.cut.vars' lays the variable. In a bare row this is a premise. The card (YtjfiodknjchngaaGreatDoorCards.lean) ties it to the program's text. -/
def laid_errors_errorType {H : Type} : DataW H := .iface "internal/reflectlite.rtype" (.agg [.ptr (.lit (.string [101, 114, 114, 111, 114]))])
def laid_statute_api_ErrText {H : Type} : DataW H := .iface "*errors.errorString" (.ptr (.agg [.lit (.string [115, 116, 97, 116, 117, 116, 101, 58, 32, 116, 101, 120, 116])]))
def laid_statute_api_ErrBound {H : Type} : DataW H := .iface "*errors.errorString" (.ptr (.agg [.lit (.string [115, 116, 97, 116, 117, 116, 101, 58, 32, 98, 111, 117, 110, 100])]))
def laid_statute_api_ErrCoin {H : Type} : DataW H := .iface "*errors.errorString" (.ptr (.agg [.lit (.string [115, 116, 97, 116, 117, 116, 101, 58, 32, 97, 109, 111, 117, 110, 116])]))
def laid_statute_api_ErrDay {H : Type} : DataW H := .iface "*errors.errorString" (.ptr (.agg [.lit (.string [115, 116, 97, 116, 117, 116, 101, 58, 32, 100, 97, 121])]))
def laid_statute_api_ErrPath {H : Type} : DataW H := .iface "*errors.errorString" (.ptr (.agg [.lit (.string [115, 116, 97, 116, 117, 116, 101, 58, 32, 112, 97, 116, 104])]))
def laid_statute_api_ErrWords {H : Type} : DataW H := .iface "*errors.errorString" (.ptr (.agg [.lit (.string [115, 116, 97, 116, 117, 116, 101, 58, 32, 119, 111, 114, 100, 115])]))
def laid_statute_api_ErrName {H : Type} : DataW H := .iface "*errors.errorString" (.ptr (.agg [.lit (.string [115, 116, 97, 116, 117, 116, 101, 58, 32, 110, 97, 109, 101])]))
def laid_statute_api_ErrOrder {H : Type} : DataW H := .iface "*errors.errorString" (.ptr (.agg [.lit (.string [115, 116, 97, 116, 117, 116, 101, 58, 32, 111, 114, 100, 101, 114])]))
def laid_statute_api_ErrKind {H : Type} : DataW H := .iface "*errors.errorString" (.ptr (.agg [.lit (.string [115, 116, 97, 116, 117, 116, 101, 58, 32, 107, 105, 110, 100])]))
def laid_statute_api_ErrProof {H : Type} : DataW H := .iface "*errors.errorString" (.ptr (.agg [.lit (.string [115, 116, 97, 116, 117, 116, 101, 58, 32, 101, 120, 112, 108, 97, 110, 97, 116, 105, 111, 110])]))
def laid_statute_api_ErrStage {H : Type} : DataW H := .iface "*errors.errorString" (.ptr (.agg [.lit (.string [115, 116, 97, 116, 117, 116, 101, 58, 32, 115, 116, 97, 103, 101])]))
def laid_unicode_utf8_acceptRanges {H : Type} : DataW H := .agg [.agg [.lit (.int .u8 128), .lit (.int .u8 191)], .agg [.lit (.int .u8 160), .lit (.int .u8 191)], .agg [.lit (.int .u8 128), .lit (.int .u8 159)], .agg [.lit (.int .u8 144), .lit (.int .u8 191)], .agg [.lit (.int .u8 128), .lit (.int .u8 143)], .agg [.lit (.int .u8 0), .lit (.int .u8 0)], .agg [.lit (.int .u8 0), .lit (.int .u8 0)], .agg [.lit (.int .u8 0), .lit (.int .u8 0)], .agg [.lit (.int .u8 0), .lit (.int .u8 0)], .agg [.lit (.int .u8 0), .lit (.int .u8 0)], .agg [.lit (.int .u8 0), .lit (.int .u8 0)], .agg [.lit (.int .u8 0), .lit (.int .u8 0)], .agg [.lit (.int .u8 0), .lit (.int .u8 0)], .agg [.lit (.int .u8 0), .lit (.int .u8 0)], .agg [.lit (.int .u8 0), .lit (.int .u8 0)], .agg [.lit (.int .u8 0), .lit (.int .u8 0)]]
/-- One of Go's own tables, pinned by name: the form's constant. -/
def laid_unicode_utf8_first : DataW Unit := Go.Pinned.utf8First

/-- 'statutelaw5.CasesGo': WHATEVER THE INPUT: true; the input reads as it did. -/
def casesGoSpec : ChangeSpec := { name := "casesGo", fn := fun _ => fun
  | [d1, d2, d3, d4, d5] => { results := [.lit (.bool true)], args := [d1, d2, d3, d4, d5] }
  | _ => none }
def casesGoRow : OpenClaim := { program := "ytjfiodknjchngaagreatdoor", sum := "1cad48c04189c57967f572fdfa5d1dced62fa8aab5c1f7dcda00d9b99149431e", func := "statute/statutelaw5.CasesGo", spec := "casesGo", inPlace := ["internal/reflectlite.ValueOf", "(internal/reflectlite.Value).Type", "(internal/reflectlite.Value).IsNil", "internal/reflectlite.TypeOf", "(internal/reflectlite.Value).Elem", "(internal/reflectlite.Value).Set"], unfollowed := true, recurses := true, named := ["statute/api.ErrDay", "statute/api.ErrBound", "statute/api.ErrName", "statute/api.ErrKind", "statute/api.ErrOrder", "statute/api.ErrText", "statute/api.ErrCoin", "statute/api.ErrPath", "statute/api.ErrWords", "statute/api.ErrProof", "statute/api.ErrStage", "errors.errorType"], apart := false, laid := [("errors.errorType", laid_errors_errorType), ("statute/api.ErrText", laid_statute_api_ErrText), ("statute/api.ErrBound", laid_statute_api_ErrBound), ("statute/api.ErrCoin", laid_statute_api_ErrCoin), ("statute/api.ErrDay", laid_statute_api_ErrDay), ("statute/api.ErrPath", laid_statute_api_ErrPath), ("statute/api.ErrWords", laid_statute_api_ErrWords), ("statute/api.ErrName", laid_statute_api_ErrName), ("statute/api.ErrOrder", laid_statute_api_ErrOrder), ("statute/api.ErrKind", laid_statute_api_ErrKind), ("statute/api.ErrProof", laid_statute_api_ErrProof), ("statute/api.ErrStage", laid_statute_api_ErrStage)] }
def CasesGoSaid : Prop := casesGoRow.holds Tryz.pinned (OpenSpec.ofChange casesGoSpec)

/-- ITS FALSE NEIGHBOUR: 'it returns false'. Refute it at one input. -/
def casesGoWrong : ChangeSpec := { name := "casesGo", fn := fun _ => fun
  | [d1, d2, d3, d4, d5] => { results := [.lit (.bool false)], args := [d1, d2, d3, d4, d5] }
  | _ => none }
def CasesGoWrongFalsely : Prop := casesGoRow.holds Tryz.pinned (OpenSpec.ofChange casesGoWrong)

/-- 'statutelaw5.LedgerKeeps': WHATEVER THE INPUT: true; the input reads as it did. -/
def ledgerKeepsSpec : ChangeSpec := { name := "ledgerKeeps", fn := fun _ => fun
  | [d1, d2, d3] => { results := [.lit (.bool true)], args := [d1, d2, d3] }
  | _ => none }
def ledgerKeepsRow : OpenClaim := { program := "ytjfiodknjchngaagreatdoor", sum := "1cad48c04189c57967f572fdfa5d1dced62fa8aab5c1f7dcda00d9b99149431e", func := "statute/statutelaw5.LedgerKeeps", spec := "ledgerKeeps", inPlace := ["internal/bytealg.IndexByteString", "internal/bytealg.IndexString", "internal/reflectlite.ValueOf", "(internal/reflectlite.Value).Type", "(internal/reflectlite.Value).IsNil", "internal/reflectlite.TypeOf", "(internal/reflectlite.Value).Elem", "(internal/reflectlite.Value).Set"], unfollowed := true, recurses := true, named := ["statute/api.ErrBound", "statute/api.ErrDay", "statute/api.ErrText", "statute/api.ErrName", "statute/api.ErrCoin", "statute/api.ErrOrder", "unicode/utf8.first", "unicode/utf8.acceptRanges", "statute/api.ErrPath", "statute/api.ErrWords", "statute/api.ErrKind", "statute/api.ErrProof", "statute/api.ErrStage", "errors.errorType", "internal/bytealg.MaxLen"], apart := false, laid := [("unicode/utf8.acceptRanges", laid_unicode_utf8_acceptRanges), ("errors.errorType", laid_errors_errorType), ("statute/api.ErrText", laid_statute_api_ErrText), ("statute/api.ErrBound", laid_statute_api_ErrBound), ("statute/api.ErrCoin", laid_statute_api_ErrCoin), ("statute/api.ErrDay", laid_statute_api_ErrDay), ("statute/api.ErrPath", laid_statute_api_ErrPath), ("statute/api.ErrWords", laid_statute_api_ErrWords), ("statute/api.ErrName", laid_statute_api_ErrName), ("statute/api.ErrOrder", laid_statute_api_ErrOrder), ("statute/api.ErrKind", laid_statute_api_ErrKind), ("statute/api.ErrProof", laid_statute_api_ErrProof), ("statute/api.ErrStage", laid_statute_api_ErrStage), ("unicode/utf8.first", laid_unicode_utf8_first)] }
def LedgerKeepsSaid : Prop := ledgerKeepsRow.holds Tryz.pinned (OpenSpec.ofChange ledgerKeepsSpec)

/-- ITS FALSE NEIGHBOUR: 'it returns false'. Refute it at one input. -/
def ledgerKeepsWrong : ChangeSpec := { name := "ledgerKeeps", fn := fun _ => fun
  | [d1, d2, d3] => { results := [.lit (.bool false)], args := [d1, d2, d3] }
  | _ => none }
def LedgerKeepsWrongFalsely : Prop := ledgerKeepsRow.holds Tryz.pinned (OpenSpec.ofChange ledgerKeepsWrong)

/- THE SECOND FORM. 'bulk': how many values and letters a reading holds, each counted each time it is reached (what is shared counts as often as it is met; a slice's spare places count too). A statement '..UptoSaid' is the law's where the arguments, and the package variables that the reading takes, are together of bulk at most 1048576: NARROWER than '..Said'. Prove '..Said' where nothing that the law and all that it calls make is longer than what came in: it says more and counts as full. Else prove '..UptoSaid'. A law counts once. -/
mutual
def uptoBulk {H : Type} : DataW H → Nat
  | .lit (.string bytes) => bytes.length + 1
  | .lit _ => 1
  | .nil => 1
  | .ptr d => uptoBulk d + 1
  | .slice elems spare => uptoBulkAll elems + uptoBulkAll spare + 1
  | .agg parts => uptoBulkAll parts + 1
  | .iface _ d => uptoBulk d + 1
  | .map entries => uptoBulkEntries entries + 1
  | .held _ => 1
def uptoBulkAll {H : Type} : List (DataW H) → Nat
  | [] => 0
  | d :: r => uptoBulk d + uptoBulkAll r
def uptoBulkEntries {H : Type} : List (Lit × DataW H) → Nat
  | [] => 0
  | x :: r => uptoBulkEntry x + uptoBulkEntries r
def uptoBulkEntry {H : Type} : Lit × DataW H → Nat
  | (.string bytes, d) => bytes.length + uptoBulk d + 1
  | (_, d) => uptoBulk d + 1
 end
def uptoSmall : (H : Type) → List (DataW H) → Bool := fun _ ds => decide (uptoBulkAll ds ≤ 1048576)
def OpenSpec.upto (s : _root_.Go.ChangeSpec) : _root_.Go.OpenSpec := { _root_.Go.OpenSpec.ofChange s with cond := some uptoSmall }

/-- 'statutelaw5.CasesGo', WHERE WHAT IT READS IS OF BULK AT MOST 1048576: true; the input reads as it did. -/
def casesGoUptoRow : OpenClaim := { program := "ytjfiodknjchngaagreatdoor", sum := "1cad48c04189c57967f572fdfa5d1dced62fa8aab5c1f7dcda00d9b99149431e", func := "statute/statutelaw5.CasesGo", spec := "casesGo", inPlace := ["internal/reflectlite.ValueOf", "(internal/reflectlite.Value).Type", "(internal/reflectlite.Value).IsNil", "internal/reflectlite.TypeOf", "(internal/reflectlite.Value).Elem", "(internal/reflectlite.Value).Set"], unfollowed := true, recurses := true, named := ["statute/api.ErrDay", "statute/api.ErrBound", "statute/api.ErrName", "statute/api.ErrKind", "statute/api.ErrOrder", "statute/api.ErrText", "statute/api.ErrCoin", "statute/api.ErrPath", "statute/api.ErrWords", "statute/api.ErrProof", "statute/api.ErrStage", "errors.errorType"], apart := false, laid := [("errors.errorType", laid_errors_errorType), ("statute/api.ErrText", laid_statute_api_ErrText), ("statute/api.ErrBound", laid_statute_api_ErrBound), ("statute/api.ErrCoin", laid_statute_api_ErrCoin), ("statute/api.ErrDay", laid_statute_api_ErrDay), ("statute/api.ErrPath", laid_statute_api_ErrPath), ("statute/api.ErrWords", laid_statute_api_ErrWords), ("statute/api.ErrName", laid_statute_api_ErrName), ("statute/api.ErrOrder", laid_statute_api_ErrOrder), ("statute/api.ErrKind", laid_statute_api_ErrKind), ("statute/api.ErrProof", laid_statute_api_ErrProof), ("statute/api.ErrStage", laid_statute_api_ErrStage)], narrowed := true }
def CasesGoUptoSaid : Prop := casesGoUptoRow.holds Tryz.pinned (OpenSpec.upto casesGoSpec)

/-- 'statutelaw5.LedgerKeeps', WHERE WHAT IT READS IS OF BULK AT MOST 1048576: true; the input reads as it did. -/
def ledgerKeepsUptoRow : OpenClaim := { program := "ytjfiodknjchngaagreatdoor", sum := "1cad48c04189c57967f572fdfa5d1dced62fa8aab5c1f7dcda00d9b99149431e", func := "statute/statutelaw5.LedgerKeeps", spec := "ledgerKeeps", inPlace := ["internal/bytealg.IndexByteString", "internal/bytealg.IndexString", "internal/reflectlite.ValueOf", "(internal/reflectlite.Value).Type", "(internal/reflectlite.Value).IsNil", "internal/reflectlite.TypeOf", "(internal/reflectlite.Value).Elem", "(internal/reflectlite.Value).Set"], unfollowed := true, recurses := true, named := ["statute/api.ErrBound", "statute/api.ErrDay", "statute/api.ErrText", "statute/api.ErrName", "statute/api.ErrCoin", "statute/api.ErrOrder", "unicode/utf8.first", "unicode/utf8.acceptRanges", "statute/api.ErrPath", "statute/api.ErrWords", "statute/api.ErrKind", "statute/api.ErrProof", "statute/api.ErrStage", "errors.errorType", "internal/bytealg.MaxLen"], apart := false, laid := [("unicode/utf8.acceptRanges", laid_unicode_utf8_acceptRanges), ("errors.errorType", laid_errors_errorType), ("statute/api.ErrText", laid_statute_api_ErrText), ("statute/api.ErrBound", laid_statute_api_ErrBound), ("statute/api.ErrCoin", laid_statute_api_ErrCoin), ("statute/api.ErrDay", laid_statute_api_ErrDay), ("statute/api.ErrPath", laid_statute_api_ErrPath), ("statute/api.ErrWords", laid_statute_api_ErrWords), ("statute/api.ErrName", laid_statute_api_ErrName), ("statute/api.ErrOrder", laid_statute_api_ErrOrder), ("statute/api.ErrKind", laid_statute_api_ErrKind), ("statute/api.ErrProof", laid_statute_api_ErrProof), ("statute/api.ErrStage", laid_statute_api_ErrStage), ("unicode/utf8.first", laid_unicode_utf8_first)], narrowed := true }
def LedgerKeepsUptoSaid : Prop := ledgerKeepsUptoRow.holds Tryz.pinned (OpenSpec.upto ledgerKeepsSpec)

end Rows
end Go.Proofs.YtjfiodknjchngaaGreatDoor
