/-
  NARROWER THAN 'FOR EVERY INPUT', by the rows' own cells (each row's printed sentence says how): DayNext: laid · LedgerAnew: laid · SumsSplit: laid · ReasonFirm: laid · ReasonTotal: laid · Names: laid · WhySound: laid · CoinPart: laid · DutiesFirm: laid · DayOf: laid · DayMonths: laid.
  DERIVED. THE GIVEN ROWS OF THIS SEAT. 11 by the template 'for every input the law returns true; each argument reads behind the call as it read before'; 0 by the template 'total and deterministic' (their statements: YtipbmpakdcmdoaaDoorTotals.lean).
  GIVEN WITH THE SEED: the statements are not yours to turn. If you find one false, say at which input.
  Laid BY PROGRAM, IN A SANDBOX (cutbox-rows.mjs): the forced cells as the released guide's own fill.sh prints them over the translation f86db7cb68a8fb3c… (all of the seat's roots in one cut). By AI agents, Wed Nov 11 2026. No macro, syntax, notation, axiom, sorry.
-/
import Derived.Test.YtipbmpakdcmdoaaDoorChecked
import GoSem.Claim
import GoSem.ClaimJoined
import GoSem.ClaimMapViews
import Derived.JoinedTies
import Derived.KernelRfl
namespace Go.Proofs.YtipbmpakdcmdoaaDoor
/- THE CELL 'sum', in the pinned program and in every row, IS THE sha256 OF THE DUMP (.gsa) THAT YtipbmpakdcmdoaaDoorProg.lean LOADS. Nothing in Lean hashes anything: it is a label: what it is worth is what the hold of that sum in a sandbox is worth. -/
noncomputable def Tryd.pinned : Pinned := { name := "ytipbmpakdcmdoaadoor", sum := "f86db7cb68a8fb3c241a1c53626f0d879f86e52ec05372efbefcfea6e7dc97d6", checked := Tryd.checked }
namespace Rows
def none {H : Type} : Left H := { results := [], args := [] }

/- WHAT THE LISTED PACKAGE-LEVEL VARIABLES READ AS WHEN THE CALL BEGINS. Each datum BY PROGRAM (the guide's laid-datum.mjs) off the statement by which the dump's own 'gosem.cut.vars' lays the variable. In a bare row this is a premise. The card (YtipbmpakdcmdoaaDoorCards.lean) ties it to the program's text. -/
def laid_statute_api_ErrDay {H : Type} : DataW H := .iface "*errors.errorString" (.ptr (.agg [.lit (.string [115, 116, 97, 116, 117, 116, 101, 58, 32, 100, 97, 121])]))
def laid_statute_api_ErrBound {H : Type} : DataW H := .iface "*errors.errorString" (.ptr (.agg [.lit (.string [115, 116, 97, 116, 117, 116, 101, 58, 32, 98, 111, 117, 110, 100])]))
def laid_statute_api_ErrCoin {H : Type} : DataW H := .iface "*errors.errorString" (.ptr (.agg [.lit (.string [115, 116, 97, 116, 117, 116, 101, 58, 32, 97, 109, 111, 117, 110, 116])]))
def laid_statute_api_ErrKind {H : Type} : DataW H := .iface "*errors.errorString" (.ptr (.agg [.lit (.string [115, 116, 97, 116, 117, 116, 101, 58, 32, 107, 105, 110, 100])]))
def laid_statute_api_ErrName {H : Type} : DataW H := .iface "*errors.errorString" (.ptr (.agg [.lit (.string [115, 116, 97, 116, 117, 116, 101, 58, 32, 110, 97, 109, 101])]))
def laid_statute_api_ErrOrder {H : Type} : DataW H := .iface "*errors.errorString" (.ptr (.agg [.lit (.string [115, 116, 97, 116, 117, 116, 101, 58, 32, 111, 114, 100, 101, 114])]))
def laid_errors_errorType {H : Type} : DataW H := .iface "internal/reflectlite.rtype" (.agg [.ptr (.lit (.string [101, 114, 114, 111, 114]))])
def laid_statute_api_ErrText {H : Type} : DataW H := .iface "*errors.errorString" (.ptr (.agg [.lit (.string [115, 116, 97, 116, 117, 116, 101, 58, 32, 116, 101, 120, 116])]))
def laid_statute_api_ErrPath {H : Type} : DataW H := .iface "*errors.errorString" (.ptr (.agg [.lit (.string [115, 116, 97, 116, 117, 116, 101, 58, 32, 112, 97, 116, 104])]))
def laid_statute_api_ErrWords {H : Type} : DataW H := .iface "*errors.errorString" (.ptr (.agg [.lit (.string [115, 116, 97, 116, 117, 116, 101, 58, 32, 119, 111, 114, 100, 115])]))
def laid_statute_api_ErrProof {H : Type} : DataW H := .iface "*errors.errorString" (.ptr (.agg [.lit (.string [115, 116, 97, 116, 117, 116, 101, 58, 32, 101, 120, 112, 108, 97, 110, 97, 116, 105, 111, 110])]))
def laid_statute_api_ErrStage {H : Type} : DataW H := .iface "*errors.errorString" (.ptr (.agg [.lit (.string [115, 116, 97, 116, 117, 116, 101, 58, 32, 115, 116, 97, 103, 101])]))

/-- 'statutelaw1.DayNext': WHATEVER THE INPUT: true; the input reads as it did. -/
def dayNextSpec : ChangeSpec := { name := "dayNext", fn := fun _ => fun
  | [d] => { results := [.lit (.bool true)], args := [d] }
  | _ => none }
def dayNextRow : OpenClaim := { program := "ytipbmpakdcmdoaadoor", sum := "f86db7cb68a8fb3c241a1c53626f0d879f86e52ec05372efbefcfea6e7dc97d6", func := "statute/statutelaw1.DayNext", spec := "dayNext", named := ["statute/api.ErrDay"], plainKeys := false, apart := false, laid := [("statute/api.ErrDay", laid_statute_api_ErrDay)] }
def DayNextSaid : Prop := dayNextRow.holds Tryd.pinned (OpenSpec.ofChange dayNextSpec)

/-- ITS FALSE NEIGHBOUR: 'it returns false'. Refute it at one input. -/
def dayNextWrong : ChangeSpec := { name := "dayNext", fn := fun _ => fun
  | [d] => { results := [.lit (.bool false)], args := [d] }
  | _ => none }
def DayNextWrongFalsely : Prop := dayNextRow.holds Tryd.pinned (OpenSpec.ofChange dayNextWrong)

/-- 'statutelaw5.LedgerAnew': WHATEVER THE INPUT: true; the input reads as it did. -/
def ledgerAnewSpec : ChangeSpec := { name := "ledgerAnew", fn := fun _ => fun
  | [d1, d2] => { results := [.lit (.bool true)], args := [d1, d2] }
  | _ => none }
def ledgerAnewRow : OpenClaim := { program := "ytipbmpakdcmdoaadoor", sum := "f86db7cb68a8fb3c241a1c53626f0d879f86e52ec05372efbefcfea6e7dc97d6", func := "statute/statutelaw5.LedgerAnew", spec := "ledgerAnew", unfollowed := true, recurses := true, named := ["statute/api.ErrCoin", "statute/api.ErrBound", "statute/api.ErrDay", "statute/api.ErrKind"], plainKeys := false, apart := false, laid := [("statute/api.ErrBound", laid_statute_api_ErrBound), ("statute/api.ErrCoin", laid_statute_api_ErrCoin), ("statute/api.ErrDay", laid_statute_api_ErrDay), ("statute/api.ErrKind", laid_statute_api_ErrKind)] }
def LedgerAnewSaid : Prop := ledgerAnewRow.holds Tryd.pinned (OpenSpec.ofChange ledgerAnewSpec)

/-- ITS FALSE NEIGHBOUR: 'it returns false'. Refute it at one input. -/
def ledgerAnewWrong : ChangeSpec := { name := "ledgerAnew", fn := fun _ => fun
  | [d1, d2] => { results := [.lit (.bool false)], args := [d1, d2] }
  | _ => none }
def LedgerAnewWrongFalsely : Prop := ledgerAnewRow.holds Tryd.pinned (OpenSpec.ofChange ledgerAnewWrong)

/-- 'statutelaw5.SumsSplit': WHATEVER THE INPUT: true; the input reads as it did. -/
def sumsSplitSpec : ChangeSpec := { name := "sumsSplit", fn := fun _ => fun
  | [d1, d2, d3, d4] => { results := [.lit (.bool true)], args := [d1, d2, d3, d4] }
  | _ => none }
def sumsSplitRow : OpenClaim := { program := "ytipbmpakdcmdoaadoor", sum := "f86db7cb68a8fb3c241a1c53626f0d879f86e52ec05372efbefcfea6e7dc97d6", func := "statute/statutelaw5.SumsSplit", spec := "sumsSplit", unfollowed := true, recurses := true, named := ["statute/api.ErrKind", "statute/api.ErrBound", "statute/api.ErrDay", "statute/api.ErrCoin"], plainKeys := false, apart := false, laid := [("statute/api.ErrBound", laid_statute_api_ErrBound), ("statute/api.ErrCoin", laid_statute_api_ErrCoin), ("statute/api.ErrDay", laid_statute_api_ErrDay), ("statute/api.ErrKind", laid_statute_api_ErrKind)] }
def SumsSplitSaid : Prop := sumsSplitRow.holds Tryd.pinned (OpenSpec.ofChange sumsSplitSpec)

/-- ITS FALSE NEIGHBOUR: 'it returns false'. Refute it at one input. -/
def sumsSplitWrong : ChangeSpec := { name := "sumsSplit", fn := fun _ => fun
  | [d1, d2, d3, d4] => { results := [.lit (.bool false)], args := [d1, d2, d3, d4] }
  | _ => none }
def SumsSplitWrongFalsely : Prop := sumsSplitRow.holds Tryd.pinned (OpenSpec.ofChange sumsSplitWrong)

/-- 'statutelaw4.ReasonFirm': WHATEVER THE INPUT: true; the input reads as it did. -/
def reasonFirmSpec : ChangeSpec := { name := "reasonFirm", fn := fun _ => fun
  | [d] => { results := [.lit (.bool true)], args := [d] }
  | _ => none }
def reasonFirmRow : OpenClaim := { program := "ytipbmpakdcmdoaadoor", sum := "f86db7cb68a8fb3c241a1c53626f0d879f86e52ec05372efbefcfea6e7dc97d6", func := "statute/statutelaw4.ReasonFirm", spec := "reasonFirm", unfollowed := true, recurses := true, named := ["statute/api.ErrBound", "statute/api.ErrKind", "statute/api.ErrName", "statute/api.ErrOrder"], plainKeys := false, apart := false, laid := [("statute/api.ErrBound", laid_statute_api_ErrBound), ("statute/api.ErrName", laid_statute_api_ErrName), ("statute/api.ErrOrder", laid_statute_api_ErrOrder), ("statute/api.ErrKind", laid_statute_api_ErrKind)] }
def ReasonFirmSaid : Prop := reasonFirmRow.holds Tryd.pinned (OpenSpec.ofChange reasonFirmSpec)

/-- ITS FALSE NEIGHBOUR: 'it returns false'. Refute it at one input. -/
def reasonFirmWrong : ChangeSpec := { name := "reasonFirm", fn := fun _ => fun
  | [d] => { results := [.lit (.bool false)], args := [d] }
  | _ => none }
def ReasonFirmWrongFalsely : Prop := reasonFirmRow.holds Tryd.pinned (OpenSpec.ofChange reasonFirmWrong)

/-- 'statutelaw4.ReasonTotal': WHATEVER THE INPUT: true; the input reads as it did. -/
def reasonTotalSpec : ChangeSpec := { name := "reasonTotal", fn := fun _ => fun
  | [d] => { results := [.lit (.bool true)], args := [d] }
  | _ => none }
def reasonTotalRow : OpenClaim := { program := "ytipbmpakdcmdoaadoor", sum := "f86db7cb68a8fb3c241a1c53626f0d879f86e52ec05372efbefcfea6e7dc97d6", func := "statute/statutelaw4.ReasonTotal", spec := "reasonTotal", unfollowed := true, recurses := true, named := ["statute/api.ErrBound", "statute/api.ErrKind", "statute/api.ErrName", "statute/api.ErrOrder"], plainKeys := false, apart := false, laid := [("statute/api.ErrBound", laid_statute_api_ErrBound), ("statute/api.ErrName", laid_statute_api_ErrName), ("statute/api.ErrOrder", laid_statute_api_ErrOrder), ("statute/api.ErrKind", laid_statute_api_ErrKind)] }
def ReasonTotalSaid : Prop := reasonTotalRow.holds Tryd.pinned (OpenSpec.ofChange reasonTotalSpec)

/-- ITS FALSE NEIGHBOUR: 'it returns false'. Refute it at one input. -/
def reasonTotalWrong : ChangeSpec := { name := "reasonTotal", fn := fun _ => fun
  | [d] => { results := [.lit (.bool false)], args := [d] }
  | _ => none }
def ReasonTotalWrongFalsely : Prop := reasonTotalRow.holds Tryd.pinned (OpenSpec.ofChange reasonTotalWrong)

/-- 'statutelaw1.Names': WHATEVER THE INPUT: true; the input reads as it did. -/
def namesSpec : ChangeSpec := { name := "names", fn := fun _ => fun
  | [] => { results := [.lit (.bool true)], args := [] }
  | _ => none }
def namesRow : OpenClaim := { program := "ytipbmpakdcmdoaadoor", sum := "f86db7cb68a8fb3c241a1c53626f0d879f86e52ec05372efbefcfea6e7dc97d6", func := "statute/statutelaw1.Names", spec := "names", inPlace := ["internal/reflectlite.TypeOf", "internal/reflectlite.ValueOf", "(internal/reflectlite.Value).Type", "(internal/reflectlite.Value).IsNil", "(internal/reflectlite.Value).Elem", "(internal/reflectlite.Value).Set"], unfollowed := true, recurses := true, named := ["statute/api.ErrText", "statute/api.ErrBound", "statute/api.ErrCoin", "statute/api.ErrDay", "statute/api.ErrPath", "statute/api.ErrWords", "statute/api.ErrName", "statute/api.ErrOrder", "statute/api.ErrKind", "statute/api.ErrProof", "statute/api.ErrStage", "errors.errorType"], plainKeys := false, apart := false, laid := [("errors.errorType", laid_errors_errorType), ("statute/api.ErrText", laid_statute_api_ErrText), ("statute/api.ErrBound", laid_statute_api_ErrBound), ("statute/api.ErrCoin", laid_statute_api_ErrCoin), ("statute/api.ErrDay", laid_statute_api_ErrDay), ("statute/api.ErrPath", laid_statute_api_ErrPath), ("statute/api.ErrWords", laid_statute_api_ErrWords), ("statute/api.ErrName", laid_statute_api_ErrName), ("statute/api.ErrOrder", laid_statute_api_ErrOrder), ("statute/api.ErrKind", laid_statute_api_ErrKind), ("statute/api.ErrProof", laid_statute_api_ErrProof), ("statute/api.ErrStage", laid_statute_api_ErrStage)] }
def NamesSaid : Prop := namesRow.holds Tryd.pinned (OpenSpec.ofChange namesSpec)

/-- ITS FALSE NEIGHBOUR: 'it returns false'. Refute it at one input. -/
def namesWrong : ChangeSpec := { name := "names", fn := fun _ => fun
  | [] => { results := [.lit (.bool false)], args := [] }
  | _ => none }
def NamesWrongFalsely : Prop := namesRow.holds Tryd.pinned (OpenSpec.ofChange namesWrong)

/-- 'statutelaw4.WhySound': WHATEVER THE INPUT: true; the input reads as it did. -/
def whySoundSpec : ChangeSpec := { name := "whySound", fn := fun _ => fun
  | [d1, d2] => { results := [.lit (.bool true)], args := [d1, d2] }
  | _ => none }
def whySoundRow : OpenClaim := { program := "ytipbmpakdcmdoaadoor", sum := "f86db7cb68a8fb3c241a1c53626f0d879f86e52ec05372efbefcfea6e7dc97d6", func := "statute/statutelaw4.WhySound", spec := "whySound", unfollowed := true, recurses := true, named := ["statute/api.ErrBound", "statute/api.ErrKind", "statute/api.ErrName", "statute/api.ErrOrder"], plainKeys := false, apart := false, laid := [("statute/api.ErrBound", laid_statute_api_ErrBound), ("statute/api.ErrName", laid_statute_api_ErrName), ("statute/api.ErrOrder", laid_statute_api_ErrOrder), ("statute/api.ErrKind", laid_statute_api_ErrKind)] }
def WhySoundSaid : Prop := whySoundRow.holds Tryd.pinned (OpenSpec.ofChange whySoundSpec)

/-- ITS FALSE NEIGHBOUR: 'it returns false'. Refute it at one input. -/
def whySoundWrong : ChangeSpec := { name := "whySound", fn := fun _ => fun
  | [d1, d2] => { results := [.lit (.bool false)], args := [d1, d2] }
  | _ => none }
def WhySoundWrongFalsely : Prop := whySoundRow.holds Tryd.pinned (OpenSpec.ofChange whySoundWrong)

/-- 'statutelaw1.CoinPart': WHATEVER THE INPUT: true; the input reads as it did. -/
def coinPartSpec : ChangeSpec := { name := "coinPart", fn := fun _ => fun
  | [d1, d2, d3] => { results := [.lit (.bool true)], args := [d1, d2, d3] }
  | _ => none }
def coinPartRow : OpenClaim := { program := "ytipbmpakdcmdoaadoor", sum := "f86db7cb68a8fb3c241a1c53626f0d879f86e52ec05372efbefcfea6e7dc97d6", func := "statute/statutelaw1.CoinPart", spec := "coinPart", inPlace := ["internal/reflectlite.ValueOf", "(internal/reflectlite.Value).Type", "(internal/reflectlite.Value).IsNil", "internal/reflectlite.TypeOf", "(internal/reflectlite.Value).Elem", "(internal/reflectlite.Value).Set"], unfollowed := true, recurses := true, named := ["statute/api.ErrKind", "statute/api.ErrCoin", "statute/api.ErrText", "statute/api.ErrBound", "statute/api.ErrDay", "statute/api.ErrPath", "statute/api.ErrWords", "statute/api.ErrName", "statute/api.ErrOrder", "statute/api.ErrProof", "statute/api.ErrStage", "errors.errorType"], plainKeys := false, apart := false, laid := [("errors.errorType", laid_errors_errorType), ("statute/api.ErrText", laid_statute_api_ErrText), ("statute/api.ErrBound", laid_statute_api_ErrBound), ("statute/api.ErrCoin", laid_statute_api_ErrCoin), ("statute/api.ErrDay", laid_statute_api_ErrDay), ("statute/api.ErrPath", laid_statute_api_ErrPath), ("statute/api.ErrWords", laid_statute_api_ErrWords), ("statute/api.ErrName", laid_statute_api_ErrName), ("statute/api.ErrOrder", laid_statute_api_ErrOrder), ("statute/api.ErrKind", laid_statute_api_ErrKind), ("statute/api.ErrProof", laid_statute_api_ErrProof), ("statute/api.ErrStage", laid_statute_api_ErrStage)] }
def CoinPartSaid : Prop := coinPartRow.holds Tryd.pinned (OpenSpec.ofChange coinPartSpec)

/-- ITS FALSE NEIGHBOUR: 'it returns false'. Refute it at one input. -/
def coinPartWrong : ChangeSpec := { name := "coinPart", fn := fun _ => fun
  | [d1, d2, d3] => { results := [.lit (.bool false)], args := [d1, d2, d3] }
  | _ => none }
def CoinPartWrongFalsely : Prop := coinPartRow.holds Tryd.pinned (OpenSpec.ofChange coinPartWrong)

/-- 'statutelaw5.DutiesFirm': WHATEVER THE INPUT: true; the input reads as it did. -/
def dutiesFirmSpec : ChangeSpec := { name := "dutiesFirm", fn := fun _ => fun
  | [d1, d2, d3, d4] => { results := [.lit (.bool true)], args := [d1, d2, d3, d4] }
  | _ => none }
def dutiesFirmRow : OpenClaim := { program := "ytipbmpakdcmdoaadoor", sum := "f86db7cb68a8fb3c241a1c53626f0d879f86e52ec05372efbefcfea6e7dc97d6", func := "statute/statutelaw5.DutiesFirm", spec := "dutiesFirm", unfollowed := true, recurses := true, named := ["statute/api.ErrBound", "statute/api.ErrDay", "statute/api.ErrKind"], plainKeys := false, apart := false, laid := [("statute/api.ErrBound", laid_statute_api_ErrBound), ("statute/api.ErrDay", laid_statute_api_ErrDay), ("statute/api.ErrKind", laid_statute_api_ErrKind)] }
def DutiesFirmSaid : Prop := dutiesFirmRow.holds Tryd.pinned (OpenSpec.ofChange dutiesFirmSpec)

/-- ITS FALSE NEIGHBOUR: 'it returns false'. Refute it at one input. -/
def dutiesFirmWrong : ChangeSpec := { name := "dutiesFirm", fn := fun _ => fun
  | [d1, d2, d3, d4] => { results := [.lit (.bool false)], args := [d1, d2, d3, d4] }
  | _ => none }
def DutiesFirmWrongFalsely : Prop := dutiesFirmRow.holds Tryd.pinned (OpenSpec.ofChange dutiesFirmWrong)

/-- 'statutelaw1.DayOf': WHATEVER THE INPUT: true; the input reads as it did. -/
def dayOfSpec : ChangeSpec := { name := "dayOf", fn := fun _ => fun
  | [d1, d2, d3, d4] => { results := [.lit (.bool true)], args := [d1, d2, d3, d4] }
  | _ => none }
def dayOfRow : OpenClaim := { program := "ytipbmpakdcmdoaadoor", sum := "f86db7cb68a8fb3c241a1c53626f0d879f86e52ec05372efbefcfea6e7dc97d6", func := "statute/statutelaw1.DayOf", spec := "dayOf", inPlace := ["internal/reflectlite.ValueOf", "(internal/reflectlite.Value).Type", "(internal/reflectlite.Value).IsNil", "internal/reflectlite.TypeOf", "(internal/reflectlite.Value).Elem", "(internal/reflectlite.Value).Set"], unfollowed := true, recurses := true, named := ["statute/api.ErrDay", "statute/api.ErrText", "statute/api.ErrBound", "statute/api.ErrCoin", "statute/api.ErrPath", "statute/api.ErrWords", "statute/api.ErrName", "statute/api.ErrOrder", "statute/api.ErrKind", "statute/api.ErrProof", "statute/api.ErrStage", "errors.errorType"], plainKeys := false, apart := false, laid := [("errors.errorType", laid_errors_errorType), ("statute/api.ErrText", laid_statute_api_ErrText), ("statute/api.ErrBound", laid_statute_api_ErrBound), ("statute/api.ErrCoin", laid_statute_api_ErrCoin), ("statute/api.ErrDay", laid_statute_api_ErrDay), ("statute/api.ErrPath", laid_statute_api_ErrPath), ("statute/api.ErrWords", laid_statute_api_ErrWords), ("statute/api.ErrName", laid_statute_api_ErrName), ("statute/api.ErrOrder", laid_statute_api_ErrOrder), ("statute/api.ErrKind", laid_statute_api_ErrKind), ("statute/api.ErrProof", laid_statute_api_ErrProof), ("statute/api.ErrStage", laid_statute_api_ErrStage)] }
def DayOfSaid : Prop := dayOfRow.holds Tryd.pinned (OpenSpec.ofChange dayOfSpec)

/-- ITS FALSE NEIGHBOUR: 'it returns false'. Refute it at one input. -/
def dayOfWrong : ChangeSpec := { name := "dayOf", fn := fun _ => fun
  | [d1, d2, d3, d4] => { results := [.lit (.bool false)], args := [d1, d2, d3, d4] }
  | _ => none }
def DayOfWrongFalsely : Prop := dayOfRow.holds Tryd.pinned (OpenSpec.ofChange dayOfWrong)

/-- 'statutelaw1.DayMonths': WHATEVER THE INPUT: true; the input reads as it did. -/
def dayMonthsSpec : ChangeSpec := { name := "dayMonths", fn := fun _ => fun
  | [d1, d2] => { results := [.lit (.bool true)], args := [d1, d2] }
  | _ => none }
def dayMonthsRow : OpenClaim := { program := "ytipbmpakdcmdoaadoor", sum := "f86db7cb68a8fb3c241a1c53626f0d879f86e52ec05372efbefcfea6e7dc97d6", func := "statute/statutelaw1.DayMonths", spec := "dayMonths", inPlace := ["internal/reflectlite.ValueOf", "(internal/reflectlite.Value).Type", "(internal/reflectlite.Value).IsNil", "internal/reflectlite.TypeOf", "(internal/reflectlite.Value).Elem", "(internal/reflectlite.Value).Set"], unfollowed := true, recurses := true, named := ["statute/api.ErrDay", "statute/api.ErrText", "statute/api.ErrBound", "statute/api.ErrCoin", "statute/api.ErrPath", "statute/api.ErrWords", "statute/api.ErrName", "statute/api.ErrOrder", "statute/api.ErrKind", "statute/api.ErrProof", "statute/api.ErrStage", "errors.errorType"], plainKeys := false, apart := false, laid := [("errors.errorType", laid_errors_errorType), ("statute/api.ErrText", laid_statute_api_ErrText), ("statute/api.ErrBound", laid_statute_api_ErrBound), ("statute/api.ErrCoin", laid_statute_api_ErrCoin), ("statute/api.ErrDay", laid_statute_api_ErrDay), ("statute/api.ErrPath", laid_statute_api_ErrPath), ("statute/api.ErrWords", laid_statute_api_ErrWords), ("statute/api.ErrName", laid_statute_api_ErrName), ("statute/api.ErrOrder", laid_statute_api_ErrOrder), ("statute/api.ErrKind", laid_statute_api_ErrKind), ("statute/api.ErrProof", laid_statute_api_ErrProof), ("statute/api.ErrStage", laid_statute_api_ErrStage)] }
def DayMonthsSaid : Prop := dayMonthsRow.holds Tryd.pinned (OpenSpec.ofChange dayMonthsSpec)

/-- ITS FALSE NEIGHBOUR: 'it returns false'. Refute it at one input. -/
def dayMonthsWrong : ChangeSpec := { name := "dayMonths", fn := fun _ => fun
  | [d1, d2] => { results := [.lit (.bool false)], args := [d1, d2] }
  | _ => none }
def DayMonthsWrongFalsely : Prop := dayMonthsRow.holds Tryd.pinned (OpenSpec.ofChange dayMonthsWrong)

/- THE SECOND FORM. 'bulk': how many values and letters a reading holds, each counted each time it is reached (what is shared counts as often as it is met; a slice's spare places count too). A statement '..UptoSaid' is the law's where the arguments, and the package variables that the reading takes, are together of bulk at most 1048576: NARROWER than '..Said'. Prove '..Said' where nothing that the law and all that it calls make is longer than what came in: it says more and counts as full. Else prove '..UptoSaid'. A law counts once. -/
mutual
def uptoBulk {H : Type} : DataW H → Nat
  | .lit (.string bytes) => bytes.length + 1
  | .lit _ => 1
  | .nil => 1
  | .ptr d => uptoBulk d + 1
  | .slice elems spare => uptoBulkAll elems + uptoBulkAll spare + 1
  | .agg parts => uptoBulkAll parts + 1
  | .iface _ d => uptoBulk d + 1
  | .map entries => uptoBulkEntries entries + 1
  | .held _ => 1
def uptoBulkAll {H : Type} : List (DataW H) → Nat
  | [] => 0
  | d :: r => uptoBulk d + uptoBulkAll r
def uptoBulkEntries {H : Type} : List (Lit × DataW H) → Nat
  | [] => 0
  | x :: r => uptoBulkEntry x + uptoBulkEntries r
def uptoBulkEntry {H : Type} : Lit × DataW H → Nat
  | (.string bytes, d) => bytes.length + uptoBulk d + 1
  | (_, d) => uptoBulk d + 1
 end
def uptoSmall : (H : Type) → List (DataW H) → Bool := fun _ ds => decide (uptoBulkAll ds ≤ 1048576)
def OpenSpec.upto (s : _root_.Go.ChangeSpec) : _root_.Go.OpenSpec := { _root_.Go.OpenSpec.ofChange s with cond := some uptoSmall }

/-- 'statutelaw1.DayNext', WHERE WHAT IT READS IS OF BULK AT MOST 1048576: true; the input reads as it did. -/
def dayNextUptoRow : OpenClaim := { program := "ytipbmpakdcmdoaadoor", sum := "f86db7cb68a8fb3c241a1c53626f0d879f86e52ec05372efbefcfea6e7dc97d6", func := "statute/statutelaw1.DayNext", spec := "dayNext", named := ["statute/api.ErrDay"], plainKeys := false, apart := false, laid := [("statute/api.ErrDay", laid_statute_api_ErrDay)], narrowed := true }
def DayNextUptoSaid : Prop := dayNextUptoRow.holds Tryd.pinned (OpenSpec.upto dayNextSpec)

/-- 'statutelaw5.LedgerAnew', WHERE WHAT IT READS IS OF BULK AT MOST 1048576: true; the input reads as it did. -/
def ledgerAnewUptoRow : OpenClaim := { program := "ytipbmpakdcmdoaadoor", sum := "f86db7cb68a8fb3c241a1c53626f0d879f86e52ec05372efbefcfea6e7dc97d6", func := "statute/statutelaw5.LedgerAnew", spec := "ledgerAnew", unfollowed := true, recurses := true, named := ["statute/api.ErrCoin", "statute/api.ErrBound", "statute/api.ErrDay", "statute/api.ErrKind"], plainKeys := false, apart := false, laid := [("statute/api.ErrBound", laid_statute_api_ErrBound), ("statute/api.ErrCoin", laid_statute_api_ErrCoin), ("statute/api.ErrDay", laid_statute_api_ErrDay), ("statute/api.ErrKind", laid_statute_api_ErrKind)], narrowed := true }
def LedgerAnewUptoSaid : Prop := ledgerAnewUptoRow.holds Tryd.pinned (OpenSpec.upto ledgerAnewSpec)

/-- 'statutelaw5.SumsSplit', WHERE WHAT IT READS IS OF BULK AT MOST 1048576: true; the input reads as it did. -/
def sumsSplitUptoRow : OpenClaim := { program := "ytipbmpakdcmdoaadoor", sum := "f86db7cb68a8fb3c241a1c53626f0d879f86e52ec05372efbefcfea6e7dc97d6", func := "statute/statutelaw5.SumsSplit", spec := "sumsSplit", unfollowed := true, recurses := true, named := ["statute/api.ErrKind", "statute/api.ErrBound", "statute/api.ErrDay", "statute/api.ErrCoin"], plainKeys := false, apart := false, laid := [("statute/api.ErrBound", laid_statute_api_ErrBound), ("statute/api.ErrCoin", laid_statute_api_ErrCoin), ("statute/api.ErrDay", laid_statute_api_ErrDay), ("statute/api.ErrKind", laid_statute_api_ErrKind)], narrowed := true }
def SumsSplitUptoSaid : Prop := sumsSplitUptoRow.holds Tryd.pinned (OpenSpec.upto sumsSplitSpec)

/-- 'statutelaw4.ReasonFirm', WHERE WHAT IT READS IS OF BULK AT MOST 1048576: true; the input reads as it did. -/
def reasonFirmUptoRow : OpenClaim := { program := "ytipbmpakdcmdoaadoor", sum := "f86db7cb68a8fb3c241a1c53626f0d879f86e52ec05372efbefcfea6e7dc97d6", func := "statute/statutelaw4.ReasonFirm", spec := "reasonFirm", unfollowed := true, recurses := true, named := ["statute/api.ErrBound", "statute/api.ErrKind", "statute/api.ErrName", "statute/api.ErrOrder"], plainKeys := false, apart := false, laid := [("statute/api.ErrBound", laid_statute_api_ErrBound), ("statute/api.ErrName", laid_statute_api_ErrName), ("statute/api.ErrOrder", laid_statute_api_ErrOrder), ("statute/api.ErrKind", laid_statute_api_ErrKind)], narrowed := true }
def ReasonFirmUptoSaid : Prop := reasonFirmUptoRow.holds Tryd.pinned (OpenSpec.upto reasonFirmSpec)

/-- 'statutelaw4.ReasonTotal', WHERE WHAT IT READS IS OF BULK AT MOST 1048576: true; the input reads as it did. -/
def reasonTotalUptoRow : OpenClaim := { program := "ytipbmpakdcmdoaadoor", sum := "f86db7cb68a8fb3c241a1c53626f0d879f86e52ec05372efbefcfea6e7dc97d6", func := "statute/statutelaw4.ReasonTotal", spec := "reasonTotal", unfollowed := true, recurses := true, named := ["statute/api.ErrBound", "statute/api.ErrKind", "statute/api.ErrName", "statute/api.ErrOrder"], plainKeys := false, apart := false, laid := [("statute/api.ErrBound", laid_statute_api_ErrBound), ("statute/api.ErrName", laid_statute_api_ErrName), ("statute/api.ErrOrder", laid_statute_api_ErrOrder), ("statute/api.ErrKind", laid_statute_api_ErrKind)], narrowed := true }
def ReasonTotalUptoSaid : Prop := reasonTotalUptoRow.holds Tryd.pinned (OpenSpec.upto reasonTotalSpec)

/-- 'statutelaw1.Names', WHERE WHAT IT READS IS OF BULK AT MOST 1048576: true; the input reads as it did. -/
def namesUptoRow : OpenClaim := { program := "ytipbmpakdcmdoaadoor", sum := "f86db7cb68a8fb3c241a1c53626f0d879f86e52ec05372efbefcfea6e7dc97d6", func := "statute/statutelaw1.Names", spec := "names", inPlace := ["internal/reflectlite.TypeOf", "internal/reflectlite.ValueOf", "(internal/reflectlite.Value).Type", "(internal/reflectlite.Value).IsNil", "(internal/reflectlite.Value).Elem", "(internal/reflectlite.Value).Set"], unfollowed := true, recurses := true, named := ["statute/api.ErrText", "statute/api.ErrBound", "statute/api.ErrCoin", "statute/api.ErrDay", "statute/api.ErrPath", "statute/api.ErrWords", "statute/api.ErrName", "statute/api.ErrOrder", "statute/api.ErrKind", "statute/api.ErrProof", "statute/api.ErrStage", "errors.errorType"], plainKeys := false, apart := false, laid := [("errors.errorType", laid_errors_errorType), ("statute/api.ErrText", laid_statute_api_ErrText), ("statute/api.ErrBound", laid_statute_api_ErrBound), ("statute/api.ErrCoin", laid_statute_api_ErrCoin), ("statute/api.ErrDay", laid_statute_api_ErrDay), ("statute/api.ErrPath", laid_statute_api_ErrPath), ("statute/api.ErrWords", laid_statute_api_ErrWords), ("statute/api.ErrName", laid_statute_api_ErrName), ("statute/api.ErrOrder", laid_statute_api_ErrOrder), ("statute/api.ErrKind", laid_statute_api_ErrKind), ("statute/api.ErrProof", laid_statute_api_ErrProof), ("statute/api.ErrStage", laid_statute_api_ErrStage)], narrowed := true }
def NamesUptoSaid : Prop := namesUptoRow.holds Tryd.pinned (OpenSpec.upto namesSpec)

/-- 'statutelaw4.WhySound', WHERE WHAT IT READS IS OF BULK AT MOST 1048576: true; the input reads as it did. -/
def whySoundUptoRow : OpenClaim := { program := "ytipbmpakdcmdoaadoor", sum := "f86db7cb68a8fb3c241a1c53626f0d879f86e52ec05372efbefcfea6e7dc97d6", func := "statute/statutelaw4.WhySound", spec := "whySound", unfollowed := true, recurses := true, named := ["statute/api.ErrBound", "statute/api.ErrKind", "statute/api.ErrName", "statute/api.ErrOrder"], plainKeys := false, apart := false, laid := [("statute/api.ErrBound", laid_statute_api_ErrBound), ("statute/api.ErrName", laid_statute_api_ErrName), ("statute/api.ErrOrder", laid_statute_api_ErrOrder), ("statute/api.ErrKind", laid_statute_api_ErrKind)], narrowed := true }
def WhySoundUptoSaid : Prop := whySoundUptoRow.holds Tryd.pinned (OpenSpec.upto whySoundSpec)

/-- 'statutelaw1.CoinPart', WHERE WHAT IT READS IS OF BULK AT MOST 1048576: true; the input reads as it did. -/
def coinPartUptoRow : OpenClaim := { program := "ytipbmpakdcmdoaadoor", sum := "f86db7cb68a8fb3c241a1c53626f0d879f86e52ec05372efbefcfea6e7dc97d6", func := "statute/statutelaw1.CoinPart", spec := "coinPart", inPlace := ["internal/reflectlite.ValueOf", "(internal/reflectlite.Value).Type", "(internal/reflectlite.Value).IsNil", "internal/reflectlite.TypeOf", "(internal/reflectlite.Value).Elem", "(internal/reflectlite.Value).Set"], unfollowed := true, recurses := true, named := ["statute/api.ErrKind", "statute/api.ErrCoin", "statute/api.ErrText", "statute/api.ErrBound", "statute/api.ErrDay", "statute/api.ErrPath", "statute/api.ErrWords", "statute/api.ErrName", "statute/api.ErrOrder", "statute/api.ErrProof", "statute/api.ErrStage", "errors.errorType"], plainKeys := false, apart := false, laid := [("errors.errorType", laid_errors_errorType), ("statute/api.ErrText", laid_statute_api_ErrText), ("statute/api.ErrBound", laid_statute_api_ErrBound), ("statute/api.ErrCoin", laid_statute_api_ErrCoin), ("statute/api.ErrDay", laid_statute_api_ErrDay), ("statute/api.ErrPath", laid_statute_api_ErrPath), ("statute/api.ErrWords", laid_statute_api_ErrWords), ("statute/api.ErrName", laid_statute_api_ErrName), ("statute/api.ErrOrder", laid_statute_api_ErrOrder), ("statute/api.ErrKind", laid_statute_api_ErrKind), ("statute/api.ErrProof", laid_statute_api_ErrProof), ("statute/api.ErrStage", laid_statute_api_ErrStage)], narrowed := true }
def CoinPartUptoSaid : Prop := coinPartUptoRow.holds Tryd.pinned (OpenSpec.upto coinPartSpec)

/-- 'statutelaw5.DutiesFirm', WHERE WHAT IT READS IS OF BULK AT MOST 1048576: true; the input reads as it did. -/
def dutiesFirmUptoRow : OpenClaim := { program := "ytipbmpakdcmdoaadoor", sum := "f86db7cb68a8fb3c241a1c53626f0d879f86e52ec05372efbefcfea6e7dc97d6", func := "statute/statutelaw5.DutiesFirm", spec := "dutiesFirm", unfollowed := true, recurses := true, named := ["statute/api.ErrBound", "statute/api.ErrDay", "statute/api.ErrKind"], plainKeys := false, apart := false, laid := [("statute/api.ErrBound", laid_statute_api_ErrBound), ("statute/api.ErrDay", laid_statute_api_ErrDay), ("statute/api.ErrKind", laid_statute_api_ErrKind)], narrowed := true }
def DutiesFirmUptoSaid : Prop := dutiesFirmUptoRow.holds Tryd.pinned (OpenSpec.upto dutiesFirmSpec)

/-- 'statutelaw1.DayOf', WHERE WHAT IT READS IS OF BULK AT MOST 1048576: true; the input reads as it did. -/
def dayOfUptoRow : OpenClaim := { program := "ytipbmpakdcmdoaadoor", sum := "f86db7cb68a8fb3c241a1c53626f0d879f86e52ec05372efbefcfea6e7dc97d6", func := "statute/statutelaw1.DayOf", spec := "dayOf", inPlace := ["internal/reflectlite.ValueOf", "(internal/reflectlite.Value).Type", "(internal/reflectlite.Value).IsNil", "internal/reflectlite.TypeOf", "(internal/reflectlite.Value).Elem", "(internal/reflectlite.Value).Set"], unfollowed := true, recurses := true, named := ["statute/api.ErrDay", "statute/api.ErrText", "statute/api.ErrBound", "statute/api.ErrCoin", "statute/api.ErrPath", "statute/api.ErrWords", "statute/api.ErrName", "statute/api.ErrOrder", "statute/api.ErrKind", "statute/api.ErrProof", "statute/api.ErrStage", "errors.errorType"], plainKeys := false, apart := false, laid := [("errors.errorType", laid_errors_errorType), ("statute/api.ErrText", laid_statute_api_ErrText), ("statute/api.ErrBound", laid_statute_api_ErrBound), ("statute/api.ErrCoin", laid_statute_api_ErrCoin), ("statute/api.ErrDay", laid_statute_api_ErrDay), ("statute/api.ErrPath", laid_statute_api_ErrPath), ("statute/api.ErrWords", laid_statute_api_ErrWords), ("statute/api.ErrName", laid_statute_api_ErrName), ("statute/api.ErrOrder", laid_statute_api_ErrOrder), ("statute/api.ErrKind", laid_statute_api_ErrKind), ("statute/api.ErrProof", laid_statute_api_ErrProof), ("statute/api.ErrStage", laid_statute_api_ErrStage)], narrowed := true }
def DayOfUptoSaid : Prop := dayOfUptoRow.holds Tryd.pinned (OpenSpec.upto dayOfSpec)

/-- 'statutelaw1.DayMonths', WHERE WHAT IT READS IS OF BULK AT MOST 1048576: true; the input reads as it did. -/
def dayMonthsUptoRow : OpenClaim := { program := "ytipbmpakdcmdoaadoor", sum := "f86db7cb68a8fb3c241a1c53626f0d879f86e52ec05372efbefcfea6e7dc97d6", func := "statute/statutelaw1.DayMonths", spec := "dayMonths", inPlace := ["internal/reflectlite.ValueOf", "(internal/reflectlite.Value).Type", "(internal/reflectlite.Value).IsNil", "internal/reflectlite.TypeOf", "(internal/reflectlite.Value).Elem", "(internal/reflectlite.Value).Set"], unfollowed := true, recurses := true, named := ["statute/api.ErrDay", "statute/api.ErrText", "statute/api.ErrBound", "statute/api.ErrCoin", "statute/api.ErrPath", "statute/api.ErrWords", "statute/api.ErrName", "statute/api.ErrOrder", "statute/api.ErrKind", "statute/api.ErrProof", "statute/api.ErrStage", "errors.errorType"], plainKeys := false, apart := false, laid := [("errors.errorType", laid_errors_errorType), ("statute/api.ErrText", laid_statute_api_ErrText), ("statute/api.ErrBound", laid_statute_api_ErrBound), ("statute/api.ErrCoin", laid_statute_api_ErrCoin), ("statute/api.ErrDay", laid_statute_api_ErrDay), ("statute/api.ErrPath", laid_statute_api_ErrPath), ("statute/api.ErrWords", laid_statute_api_ErrWords), ("statute/api.ErrName", laid_statute_api_ErrName), ("statute/api.ErrOrder", laid_statute_api_ErrOrder), ("statute/api.ErrKind", laid_statute_api_ErrKind), ("statute/api.ErrProof", laid_statute_api_ErrProof), ("statute/api.ErrStage", laid_statute_api_ErrStage)], narrowed := true }
def DayMonthsUptoSaid : Prop := dayMonthsUptoRow.holds Tryd.pinned (OpenSpec.upto dayMonthsSpec)

end Rows
end Go.Proofs.YtipbmpakdcmdoaaDoor
