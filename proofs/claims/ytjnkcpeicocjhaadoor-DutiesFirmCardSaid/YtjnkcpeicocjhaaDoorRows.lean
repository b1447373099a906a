/-
  NARROWER THAN 'FOR EVERY INPUT', by the rows' own cells (each row's printed sentence says how): DutiesFirm: laid · LedgerSettles: laid · WhyExplains: laid · ScriptLess: laid.
  DERIVED. THE GIVEN ROWS OF THIS SEAT. 4 by the template 'for every input the law returns true; each argument reads behind the call as it read before'; 0 by the template 'total and deterministic' (their statements: YtjnkcpeicocjhaaDoorTotals.lean).
  GIVEN WITH THE SEED: the statements are not yours to turn. If you find one false, say at which input.
  Laid BY PROGRAM, IN A SANDBOX (cutbox-rows.mjs): the forced cells as the released guide's own fill.sh prints them over the translation eaeb3271819b59b7… (all of the seat's roots in one cut). By AI agents, Wed Nov 11 2026. No macro, syntax, notation, axiom, sorry.
-/
import Derived.Test.YtjnkcpeicocjhaaDoorChecked
import GoSem.Claim
import GoSem.ClaimJoined
import GoSem.ClaimMapViews
import Derived.JoinedTies
import Derived.KernelRfl
namespace Go.Proofs.YtjnkcpeicocjhaaDoor
/- THE CELL 'sum', in the pinned program and in every row, IS THE sha256 OF THE DUMP (.gsa) THAT YtjnkcpeicocjhaaDoorProg.lean LOADS. Nothing in Lean hashes anything: it is a label: what it is worth is what the hold of that sum in a sandbox is worth. -/
noncomputable def Tryd.pinned : Pinned := { name := "ytjnkcpeicocjhaadoor", sum := "eaeb3271819b59b77a8158c484282ace7b04553d11b7c7bdc31c5d8dad3a0391", checked := Tryd.checked }
namespace Rows
def none {H : Type} : Left H := { results := [], args := [] }

/- WHAT THE LISTED PACKAGE-LEVEL VARIABLES READ AS WHEN THE CALL BEGINS. Each datum BY PROGRAM (the guide's laid-datum.mjs) off the statement by which the dump's own 'gosem.cut.vars' lays the variable. In a bare row this is a premise. The card (YtjnkcpeicocjhaaDoorCards.lean) ties it to the program's text. -/
def laid_statute_api_ErrBound {H : Type} : DataW H := .iface "*errors.errorString" (.ptr (.agg [.lit (.string [115, 116, 97, 116, 117, 116, 101, 58, 32, 98, 111, 117, 110, 100])]))
def laid_statute_api_ErrDay {H : Type} : DataW H := .iface "*errors.errorString" (.ptr (.agg [.lit (.string [115, 116, 97, 116, 117, 116, 101, 58, 32, 100, 97, 121])]))
def laid_statute_api_ErrKind {H : Type} : DataW H := .iface "*errors.errorString" (.ptr (.agg [.lit (.string [115, 116, 97, 116, 117, 116, 101, 58, 32, 107, 105, 110, 100])]))
def laid_errors_errorType {H : Type} : DataW H := .iface "internal/reflectlite.rtype" (.agg [.ptr (.lit (.string [101, 114, 114, 111, 114]))])
def laid_statute_api_ErrText {H : Type} : DataW H := .iface "*errors.errorString" (.ptr (.agg [.lit (.string [115, 116, 97, 116, 117, 116, 101, 58, 32, 116, 101, 120, 116])]))
def laid_statute_api_ErrCoin {H : Type} : DataW H := .iface "*errors.errorString" (.ptr (.agg [.lit (.string [115, 116, 97, 116, 117, 116, 101, 58, 32, 97, 109, 111, 117, 110, 116])]))
def laid_statute_api_ErrPath {H : Type} : DataW H := .iface "*errors.errorString" (.ptr (.agg [.lit (.string [115, 116, 97, 116, 117, 116, 101, 58, 32, 112, 97, 116, 104])]))
def laid_statute_api_ErrWords {H : Type} : DataW H := .iface "*errors.errorString" (.ptr (.agg [.lit (.string [115, 116, 97, 116, 117, 116, 101, 58, 32, 119, 111, 114, 100, 115])]))
def laid_statute_api_ErrName {H : Type} : DataW H := .iface "*errors.errorString" (.ptr (.agg [.lit (.string [115, 116, 97, 116, 117, 116, 101, 58, 32, 110, 97, 109, 101])]))
def laid_statute_api_ErrOrder {H : Type} : DataW H := .iface "*errors.errorString" (.ptr (.agg [.lit (.string [115, 116, 97, 116, 117, 116, 101, 58, 32, 111, 114, 100, 101, 114])]))
def laid_statute_api_ErrProof {H : Type} : DataW H := .iface "*errors.errorString" (.ptr (.agg [.lit (.string [115, 116, 97, 116, 117, 116, 101, 58, 32, 101, 120, 112, 108, 97, 110, 97, 116, 105, 111, 110])]))
def laid_statute_api_ErrStage {H : Type} : DataW H := .iface "*errors.errorString" (.ptr (.agg [.lit (.string [115, 116, 97, 116, 117, 116, 101, 58, 32, 115, 116, 97, 103, 101])]))
def laid_math_bits_deBruijn32tab {H : Type} : DataW H := .agg [.lit (.int .u8 0), .lit (.int .u8 1), .lit (.int .u8 28), .lit (.int .u8 2), .lit (.int .u8 29), .lit (.int .u8 14), .lit (.int .u8 24), .lit (.int .u8 3), .lit (.int .u8 30), .lit (.int .u8 22), .lit (.int .u8 20), .lit (.int .u8 15), .lit (.int .u8 25), .lit (.int .u8 17), .lit (.int .u8 4), .lit (.int .u8 8), .lit (.int .u8 31), .lit (.int .u8 27), .lit (.int .u8 13), .lit (.int .u8 23), .lit (.int .u8 21), .lit (.int .u8 19), .lit (.int .u8 16), .lit (.int .u8 7), .lit (.int .u8 26), .lit (.int .u8 12), .lit (.int .u8 18), .lit (.int .u8 6), .lit (.int .u8 11), .lit (.int .u8 5), .lit (.int .u8 10), .lit (.int .u8 9)]
def laid_math_bits_deBruijn64tab {H : Type} : DataW H := .agg [.lit (.int .u8 0), .lit (.int .u8 1), .lit (.int .u8 56), .lit (.int .u8 2), .lit (.int .u8 57), .lit (.int .u8 49), .lit (.int .u8 28), .lit (.int .u8 3), .lit (.int .u8 61), .lit (.int .u8 58), .lit (.int .u8 42), .lit (.int .u8 50), .lit (.int .u8 38), .lit (.int .u8 29), .lit (.int .u8 17), .lit (.int .u8 4), .lit (.int .u8 62), .lit (.int .u8 47), .lit (.int .u8 59), .lit (.int .u8 36), .lit (.int .u8 45), .lit (.int .u8 43), .lit (.int .u8 51), .lit (.int .u8 22), .lit (.int .u8 53), .lit (.int .u8 39), .lit (.int .u8 33), .lit (.int .u8 30), .lit (.int .u8 24), .lit (.int .u8 18), .lit (.int .u8 12), .lit (.int .u8 5), .lit (.int .u8 63), .lit (.int .u8 55), .lit (.int .u8 48), .lit (.int .u8 27), .lit (.int .u8 60), .lit (.int .u8 41), .lit (.int .u8 37), .lit (.int .u8 16), .lit (.int .u8 46), .lit (.int .u8 35), .lit (.int .u8 44), .lit (.int .u8 21), .lit (.int .u8 52), .lit (.int .u8 32), .lit (.int .u8 23), .lit (.int .u8 11), .lit (.int .u8 54), .lit (.int .u8 26), .lit (.int .u8 40), .lit (.int .u8 15), .lit (.int .u8 34), .lit (.int .u8 20), .lit (.int .u8 31), .lit (.int .u8 10), .lit (.int .u8 25), .lit (.int .u8 14), .lit (.int .u8 19), .lit (.int .u8 9), .lit (.int .u8 13), .lit (.int .u8 8), .lit (.int .u8 7), .lit (.int .u8 6)]
def laid_internal_strconv_uint64pow10 {H : Type} : DataW H := .agg [.lit (.int .u64 1), .lit (.int .u64 10), .lit (.int .u64 100), .lit (.int .u64 1000), .lit (.int .u64 10000), .lit (.int .u64 100000), .lit (.int .u64 1000000), .lit (.int .u64 10000000), .lit (.int .u64 100000000), .lit (.int .u64 1000000000), .lit (.int .u64 10000000000), .lit (.int .u64 100000000000), .lit (.int .u64 1000000000000), .lit (.int .u64 10000000000000), .lit (.int .u64 100000000000000), .lit (.int .u64 1000000000000000), .lit (.int .u64 10000000000000000), .lit (.int .u64 100000000000000000), .lit (.int .u64 1000000000000000000), .lit (.int .u64 10000000000000000000)]
def laid_strconv_ErrRange {H : Type} : DataW H := .iface "*errors.errorString" (.ptr (.agg [.lit (.string [118, 97, 108, 117, 101, 32, 111, 117, 116, 32, 111, 102, 32, 114, 97, 110, 103, 101])]))
def laid_strconv_ErrSyntax {H : Type} : DataW H := .iface "*errors.errorString" (.ptr (.agg [.lit (.string [105, 110, 118, 97, 108, 105, 100, 32, 115, 121, 110, 116, 97, 120])]))

/-- 'statutelaw5.DutiesFirm': WHATEVER THE INPUT: true; the input reads as it did. -/
def dutiesFirmSpec : ChangeSpec := { name := "dutiesFirm", fn := fun _ => fun
  | [d1, d2, d3, d4] => { results := [.lit (.bool true)], args := [d1, d2, d3, d4] }
  | _ => none }
def dutiesFirmRow : OpenClaim := { program := "ytjnkcpeicocjhaadoor", sum := "eaeb3271819b59b77a8158c484282ace7b04553d11b7c7bdc31c5d8dad3a0391", func := "statute/statutelaw5.DutiesFirm", spec := "dutiesFirm", unfollowed := true, recurses := true, named := ["statute/api.ErrBound", "statute/api.ErrDay", "statute/api.ErrKind"], plainKeys := false, apart := false, laid := [("statute/api.ErrBound", laid_statute_api_ErrBound), ("statute/api.ErrDay", laid_statute_api_ErrDay), ("statute/api.ErrKind", laid_statute_api_ErrKind)] }
def DutiesFirmSaid : Prop := dutiesFirmRow.holds Tryd.pinned (OpenSpec.ofChange dutiesFirmSpec)

/-- ITS FALSE NEIGHBOUR: 'it returns false'. Refute it at one input. -/
def dutiesFirmWrong : ChangeSpec := { name := "dutiesFirm", fn := fun _ => fun
  | [d1, d2, d3, d4] => { results := [.lit (.bool false)], args := [d1, d2, d3, d4] }
  | _ => none }
def DutiesFirmWrongFalsely : Prop := dutiesFirmRow.holds Tryd.pinned (OpenSpec.ofChange dutiesFirmWrong)

/-- 'statutelaw5.LedgerSettles': WHATEVER THE INPUT: true; the input reads as it did. -/
def ledgerSettlesSpec : ChangeSpec := { name := "ledgerSettles", fn := fun _ => fun
  | [d1, d2] => { results := [.lit (.bool true)], args := [d1, d2] }
  | _ => none }
def ledgerSettlesRow : OpenClaim := { program := "ytjnkcpeicocjhaadoor", sum := "eaeb3271819b59b77a8158c484282ace7b04553d11b7c7bdc31c5d8dad3a0391", func := "statute/statutelaw5.LedgerSettles", spec := "ledgerSettles", inPlace := ["internal/reflectlite.ValueOf", "(internal/reflectlite.Value).Type", "(internal/reflectlite.Value).IsNil", "internal/reflectlite.TypeOf", "(internal/reflectlite.Value).Elem", "(internal/reflectlite.Value).Set"], unfollowed := true, recurses := true, named := ["statute/api.ErrCoin", "statute/api.ErrBound", "statute/api.ErrDay", "statute/api.ErrKind", "statute/api.ErrText", "statute/api.ErrPath", "statute/api.ErrWords", "statute/api.ErrName", "statute/api.ErrOrder", "statute/api.ErrProof", "statute/api.ErrStage", "errors.errorType"], plainKeys := false, apart := false, laid := [("errors.errorType", laid_errors_errorType), ("statute/api.ErrText", laid_statute_api_ErrText), ("statute/api.ErrBound", laid_statute_api_ErrBound), ("statute/api.ErrCoin", laid_statute_api_ErrCoin), ("statute/api.ErrDay", laid_statute_api_ErrDay), ("statute/api.ErrPath", laid_statute_api_ErrPath), ("statute/api.ErrWords", laid_statute_api_ErrWords), ("statute/api.ErrName", laid_statute_api_ErrName), ("statute/api.ErrOrder", laid_statute_api_ErrOrder), ("statute/api.ErrKind", laid_statute_api_ErrKind), ("statute/api.ErrProof", laid_statute_api_ErrProof), ("statute/api.ErrStage", laid_statute_api_ErrStage)] }
def LedgerSettlesSaid : Prop := ledgerSettlesRow.holds Tryd.pinned (OpenSpec.ofChange ledgerSettlesSpec)

/-- ITS FALSE NEIGHBOUR: 'it returns false'. Refute it at one input. -/
def ledgerSettlesWrong : ChangeSpec := { name := "ledgerSettles", fn := fun _ => fun
  | [d1, d2] => { results := [.lit (.bool false)], args := [d1, d2] }
  | _ => none }
def LedgerSettlesWrongFalsely : Prop := ledgerSettlesRow.holds Tryd.pinned (OpenSpec.ofChange ledgerSettlesWrong)

/-- 'statutelaw4.WhyExplains': WHATEVER THE INPUT: true; the input reads as it did. -/
def whyExplainsSpec : ChangeSpec := { name := "whyExplains", fn := fun _ => fun
  | [d1, d2] => { results := [.lit (.bool true)], args := [d1, d2] }
  | _ => none }
def whyExplainsRow : OpenClaim := { program := "ytjnkcpeicocjhaadoor", sum := "eaeb3271819b59b77a8158c484282ace7b04553d11b7c7bdc31c5d8dad3a0391", func := "statute/statutelaw4.WhyExplains", spec := "whyExplains", inPlace := ["internal/reflectlite.ValueOf", "(internal/reflectlite.Value).Type", "(internal/reflectlite.Value).IsNil", "internal/reflectlite.TypeOf", "(internal/reflectlite.Value).Elem", "(internal/reflectlite.Value).Set"], unfollowed := true, recurses := true, named := ["statute/api.ErrBound", "statute/api.ErrKind", "statute/api.ErrName", "statute/api.ErrOrder", "statute/api.ErrText", "statute/api.ErrCoin", "statute/api.ErrDay", "statute/api.ErrPath", "statute/api.ErrWords", "statute/api.ErrProof", "statute/api.ErrStage", "errors.errorType"], plainKeys := false, apart := false, laid := [("errors.errorType", laid_errors_errorType), ("statute/api.ErrText", laid_statute_api_ErrText), ("statute/api.ErrBound", laid_statute_api_ErrBound), ("statute/api.ErrCoin", laid_statute_api_ErrCoin), ("statute/api.ErrDay", laid_statute_api_ErrDay), ("statute/api.ErrPath", laid_statute_api_ErrPath), ("statute/api.ErrWords", laid_statute_api_ErrWords), ("statute/api.ErrName", laid_statute_api_ErrName), ("statute/api.ErrOrder", laid_statute_api_ErrOrder), ("statute/api.ErrKind", laid_statute_api_ErrKind), ("statute/api.ErrProof", laid_statute_api_ErrProof), ("statute/api.ErrStage", laid_statute_api_ErrStage)] }
def WhyExplainsSaid : Prop := whyExplainsRow.holds Tryd.pinned (OpenSpec.ofChange whyExplainsSpec)

/-- ITS FALSE NEIGHBOUR: 'it returns false'. Refute it at one input. -/
def whyExplainsWrong : ChangeSpec := { name := "whyExplains", fn := fun _ => fun
  | [d1, d2] => { results := [.lit (.bool false)], args := [d1, d2] }
  | _ => none }
def WhyExplainsWrongFalsely : Prop := whyExplainsRow.holds Tryd.pinned (OpenSpec.ofChange whyExplainsWrong)

/-- 'statutelaw1.ScriptLess': WHATEVER THE INPUT: true; the input reads as it did. -/
def scriptLessSpec : ChangeSpec := { name := "scriptLess", fn := fun _ => fun
  | [d1, d2, d3] => { results := [.lit (.bool true)], args := [d1, d2, d3] }
  | _ => none }
def scriptLessRow : OpenClaim := { program := "ytjnkcpeicocjhaadoor", sum := "eaeb3271819b59b77a8158c484282ace7b04553d11b7c7bdc31c5d8dad3a0391", func := "statute/statutelaw1.ScriptLess", spec := "scriptLess", named := ["strconv.ErrSyntax", "strconv.ErrRange", "internal/strconv.uint64pow10", "math/bits.deBruijn32tab", "math/bits.deBruijn64tab"], plainKeys := false, apart := false, laid := [("math/bits.deBruijn32tab", laid_math_bits_deBruijn32tab), ("math/bits.deBruijn64tab", laid_math_bits_deBruijn64tab), ("internal/strconv.uint64pow10", laid_internal_strconv_uint64pow10), ("strconv.ErrRange", laid_strconv_ErrRange), ("strconv.ErrSyntax", laid_strconv_ErrSyntax)] }
def ScriptLessSaid : Prop := scriptLessRow.holds Tryd.pinned (OpenSpec.ofChange scriptLessSpec)

/-- ITS FALSE NEIGHBOUR: 'it returns false'. Refute it at one input. -/
def scriptLessWrong : ChangeSpec := { name := "scriptLess", fn := fun _ => fun
  | [d1, d2, d3] => { results := [.lit (.bool false)], args := [d1, d2, d3] }
  | _ => none }
def ScriptLessWrongFalsely : Prop := scriptLessRow.holds Tryd.pinned (OpenSpec.ofChange scriptLessWrong)

/- THE SECOND FORM. 'bulk': how many values and letters a reading holds, each counted each time it is reached (what is shared counts as often as it is met; a slice's spare places count too). A statement '..UptoSaid' is the law's where the arguments, and the package variables that the reading takes, are together of bulk at most 1048576: NARROWER than '..Said'. Prove '..Said' where nothing that the law and all that it calls make is longer than what came in: it says more and counts as full. Else prove '..UptoSaid'. A law counts once. -/
mutual
def uptoBulk {H : Type} : DataW H → Nat
  | .lit (.string bytes) => bytes.length + 1
  | .lit _ => 1
  | .nil => 1
  | .ptr d => uptoBulk d + 1
  | .slice elems spare => uptoBulkAll elems + uptoBulkAll spare + 1
  | .agg parts => uptoBulkAll parts + 1
  | .iface _ d => uptoBulk d + 1
  | .map entries => uptoBulkEntries entries + 1
  | .held _ => 1
def uptoBulkAll {H : Type} : List (DataW H) → Nat
  | [] => 0
  | d :: r => uptoBulk d + uptoBulkAll r
def uptoBulkEntries {H : Type} : List (Lit × DataW H) → Nat
  | [] => 0
  | x :: r => uptoBulkEntry x + uptoBulkEntries r
def uptoBulkEntry {H : Type} : Lit × DataW H → Nat
  | (.string bytes, d) => bytes.length + uptoBulk d + 1
  | (_, d) => uptoBulk d + 1
 end
def uptoSmall : (H : Type) → List (DataW H) → Bool := fun _ ds => decide (uptoBulkAll ds ≤ 1048576)
def OpenSpec.upto (s : _root_.Go.ChangeSpec) : _root_.Go.OpenSpec := { _root_.Go.OpenSpec.ofChange s with cond := some uptoSmall }

/-- 'statutelaw5.DutiesFirm', WHERE WHAT IT READS IS OF BULK AT MOST 1048576: true; the input reads as it did. -/
def dutiesFirmUptoRow : OpenClaim := { program := "ytjnkcpeicocjhaadoor", sum := "eaeb3271819b59b77a8158c484282ace7b04553d11b7c7bdc31c5d8dad3a0391", func := "statute/statutelaw5.DutiesFirm", spec := "dutiesFirm", unfollowed := true, recurses := true, named := ["statute/api.ErrBound", "statute/api.ErrDay", "statute/api.ErrKind"], plainKeys := false, apart := false, laid := [("statute/api.ErrBound", laid_statute_api_ErrBound), ("statute/api.ErrDay", laid_statute_api_ErrDay), ("statute/api.ErrKind", laid_statute_api_ErrKind)], narrowed := true }
def DutiesFirmUptoSaid : Prop := dutiesFirmUptoRow.holds Tryd.pinned (OpenSpec.upto dutiesFirmSpec)

/-- 'statutelaw5.LedgerSettles', WHERE WHAT IT READS IS OF BULK AT MOST 1048576: true; the input reads as it did. -/
def ledgerSettlesUptoRow : OpenClaim := { program := "ytjnkcpeicocjhaadoor", sum := "eaeb3271819b59b77a8158c484282ace7b04553d11b7c7bdc31c5d8dad3a0391", func := "statute/statutelaw5.LedgerSettles", spec := "ledgerSettles", inPlace := ["internal/reflectlite.ValueOf", "(internal/reflectlite.Value).Type", "(internal/reflectlite.Value).IsNil", "internal/reflectlite.TypeOf", "(internal/reflectlite.Value).Elem", "(internal/reflectlite.Value).Set"], unfollowed := true, recurses := true, named := ["statute/api.ErrCoin", "statute/api.ErrBound", "statute/api.ErrDay", "statute/api.ErrKind", "statute/api.ErrText", "statute/api.ErrPath", "statute/api.ErrWords", "statute/api.ErrName", "statute/api.ErrOrder", "statute/api.ErrProof", "statute/api.ErrStage", "errors.errorType"], plainKeys := false, apart := false, laid := [("errors.errorType", laid_errors_errorType), ("statute/api.ErrText", laid_statute_api_ErrText), ("statute/api.ErrBound", laid_statute_api_ErrBound), ("statute/api.ErrCoin", laid_statute_api_ErrCoin), ("statute/api.ErrDay", laid_statute_api_ErrDay), ("statute/api.ErrPath", laid_statute_api_ErrPath), ("statute/api.ErrWords", laid_statute_api_ErrWords), ("statute/api.ErrName", laid_statute_api_ErrName), ("statute/api.ErrOrder", laid_statute_api_ErrOrder), ("statute/api.ErrKind", laid_statute_api_ErrKind), ("statute/api.ErrProof", laid_statute_api_ErrProof), ("statute/api.ErrStage", laid_statute_api_ErrStage)], narrowed := true }
def LedgerSettlesUptoSaid : Prop := ledgerSettlesUptoRow.holds Tryd.pinned (OpenSpec.upto ledgerSettlesSpec)

/-- 'statutelaw4.WhyExplains', WHERE WHAT IT READS IS OF BULK AT MOST 1048576: true; the input reads as it did. -/
def whyExplainsUptoRow : OpenClaim := { program := "ytjnkcpeicocjhaadoor", sum := "eaeb3271819b59b77a8158c484282ace7b04553d11b7c7bdc31c5d8dad3a0391", func := "statute/statutelaw4.WhyExplains", spec := "whyExplains", inPlace := ["internal/reflectlite.ValueOf", "(internal/reflectlite.Value).Type", "(internal/reflectlite.Value).IsNil", "internal/reflectlite.TypeOf", "(internal/reflectlite.Value).Elem", "(internal/reflectlite.Value).Set"], unfollowed := true, recurses := true, named := ["statute/api.ErrBound", "statute/api.ErrKind", "statute/api.ErrName", "statute/api.ErrOrder", "statute/api.ErrText", "statute/api.ErrCoin", "statute/api.ErrDay", "statute/api.ErrPath", "statute/api.ErrWords", "statute/api.ErrProof", "statute/api.ErrStage", "errors.errorType"], plainKeys := false, apart := false, laid := [("errors.errorType", laid_errors_errorType), ("statute/api.ErrText", laid_statute_api_ErrText), ("statute/api.ErrBound", laid_statute_api_ErrBound), ("statute/api.ErrCoin", laid_statute_api_ErrCoin), ("statute/api.ErrDay", laid_statute_api_ErrDay), ("statute/api.ErrPath", laid_statute_api_ErrPath), ("statute/api.ErrWords", laid_statute_api_ErrWords), ("statute/api.ErrName", laid_statute_api_ErrName), ("statute/api.ErrOrder", laid_statute_api_ErrOrder), ("statute/api.ErrKind", laid_statute_api_ErrKind), ("statute/api.ErrProof", laid_statute_api_ErrProof), ("statute/api.ErrStage", laid_statute_api_ErrStage)], narrowed := true }
def WhyExplainsUptoSaid : Prop := whyExplainsUptoRow.holds Tryd.pinned (OpenSpec.upto whyExplainsSpec)

/-- 'statutelaw1.ScriptLess', WHERE WHAT IT READS IS OF BULK AT MOST 1048576: true; the input reads as it did. -/
def scriptLessUptoRow : OpenClaim := { program := "ytjnkcpeicocjhaadoor", sum := "eaeb3271819b59b77a8158c484282ace7b04553d11b7c7bdc31c5d8dad3a0391", func := "statute/statutelaw1.ScriptLess", spec := "scriptLess", named := ["strconv.ErrSyntax", "strconv.ErrRange", "internal/strconv.uint64pow10", "math/bits.deBruijn32tab", "math/bits.deBruijn64tab"], plainKeys := false, apart := false, laid := [("math/bits.deBruijn32tab", laid_math_bits_deBruijn32tab), ("math/bits.deBruijn64tab", laid_math_bits_deBruijn64tab), ("internal/strconv.uint64pow10", laid_internal_strconv_uint64pow10), ("strconv.ErrRange", laid_strconv_ErrRange), ("strconv.ErrSyntax", laid_strconv_ErrSyntax)], narrowed := true }
def ScriptLessUptoSaid : Prop := scriptLessUptoRow.holds Tryd.pinned (OpenSpec.upto scriptLessSpec)

end Rows
end Go.Proofs.YtjnkcpeicocjhaaDoor
