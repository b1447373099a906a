/-
  NARROWER THAN 'FOR EVERY INPUT', by the rows' own cells (each row's printed sentence says how): DutiesFirm: laid · DayWorks: laid · DayAdds: laid · SumsMonths: laid · LedgerSettles: laid · DayDue: laid · WhyChecks: laid · ReasonSolves: laid · WhyExplains: laid.
  DERIVED. THE GIVEN ROWS OF THIS SEAT. 9 by the template 'for every input the law returns true; each argument reads behind the call as it read before'; 0 by the template 'total and deterministic' (their statements: YtnbpdknmbjkfeaaDoorTotals.lean).
  GIVEN WITH THE SEED: the statements are not yours to turn. If you find one false, say at which input.
  Laid BY PROGRAM, IN A SANDBOX (cutbox-rows.mjs): the forced cells as the released guide's own fill.sh prints them over the translation c71d42126484342e… (all of the seat's roots in one cut). By AI agents, Wed Nov 11 2026. No macro, syntax, notation, axiom, sorry.
-/
import Derived.Test.YtnbpdknmbjkfeaaDoorChecked
import GoSem.Claim
import GoSem.ClaimJoined
import GoSem.ClaimMapViews
import Derived.JoinedTies
import Derived.KernelRfl
namespace Go.Proofs.YtnbpdknmbjkfeaaDoor
/- THE CELL 'sum', in the pinned program and in every row, IS THE sha256 OF THE DUMP (.gsa) THAT YtnbpdknmbjkfeaaDoorProg.lean LOADS. Nothing in Lean hashes anything: it is a label: what it is worth is what the hold of that sum in a sandbox is worth. -/
noncomputable def Tryd.pinned : Pinned := { name := "ytnbpdknmbjkfeaadoor", sum := "c71d42126484342ee3b48dda27a0d5bfb5d715287dac55fddefec80aad88205e", checked := Tryd.checked }
namespace Rows
def none {H : Type} : Left H := { results := [], args := [] }

/- WHAT THE LISTED PACKAGE-LEVEL VARIABLES READ AS WHEN THE CALL BEGINS. Each datum BY PROGRAM (the guide's laid-datum.mjs) off the statement by which the dump's own 'gosem.cut.vars' lays the variable. In a bare row this is a premise. The card (YtnbpdknmbjkfeaaDoorCards.lean) ties it to the program's text. -/
def laid_statute_api_ErrBound {H : Type} : DataW H := .iface "*errors.errorString" (.ptr (.agg [.lit (.string [115, 116, 97, 116, 117, 116, 101, 58, 32, 98, 111, 117, 110, 100])]))
def laid_statute_api_ErrDay {H : Type} : DataW H := .iface "*errors.errorString" (.ptr (.agg [.lit (.string [115, 116, 97, 116, 117, 116, 101, 58, 32, 100, 97, 121])]))
def laid_statute_api_ErrKind {H : Type} : DataW H := .iface "*errors.errorString" (.ptr (.agg [.lit (.string [115, 116, 97, 116, 117, 116, 101, 58, 32, 107, 105, 110, 100])]))
def laid_errors_errorType {H : Type} : DataW H := .iface "internal/reflectlite.rtype" (.agg [.ptr (.lit (.string [101, 114, 114, 111, 114]))])
def laid_statute_api_ErrText {H : Type} : DataW H := .iface "*errors.errorString" (.ptr (.agg [.lit (.string [115, 116, 97, 116, 117, 116, 101, 58, 32, 116, 101, 120, 116])]))
def laid_statute_api_ErrCoin {H : Type} : DataW H := .iface "*errors.errorString" (.ptr (.agg [.lit (.string [115, 116, 97, 116, 117, 116, 101, 58, 32, 97, 109, 111, 117, 110, 116])]))
def laid_statute_api_ErrPath {H : Type} : DataW H := .iface "*errors.errorString" (.ptr (.agg [.lit (.string [115, 116, 97, 116, 117, 116, 101, 58, 32, 112, 97, 116, 104])]))
def laid_statute_api_ErrWords {H : Type} : DataW H := .iface "*errors.errorString" (.ptr (.agg [.lit (.string [115, 116, 97, 116, 117, 116, 101, 58, 32, 119, 111, 114, 100, 115])]))
def laid_statute_api_ErrName {H : Type} : DataW H := .iface "*errors.errorString" (.ptr (.agg [.lit (.string [115, 116, 97, 116, 117, 116, 101, 58, 32, 110, 97, 109, 101])]))
def laid_statute_api_ErrOrder {H : Type} : DataW H := .iface "*errors.errorString" (.ptr (.agg [.lit (.string [115, 116, 97, 116, 117, 116, 101, 58, 32, 111, 114, 100, 101, 114])]))
def laid_statute_api_ErrProof {H : Type} : DataW H := .iface "*errors.errorString" (.ptr (.agg [.lit (.string [115, 116, 97, 116, 117, 116, 101, 58, 32, 101, 120, 112, 108, 97, 110, 97, 116, 105, 111, 110])]))
def laid_statute_api_ErrStage {H : Type} : DataW H := .iface "*errors.errorString" (.ptr (.agg [.lit (.string [115, 116, 97, 116, 117, 116, 101, 58, 32, 115, 116, 97, 103, 101])]))

/-- 'statutelaw5.DutiesFirm': WHATEVER THE INPUT: true; the input reads as it did. -/
def dutiesFirmSpec : ChangeSpec := { name := "dutiesFirm", fn := fun _ => fun
  | [d1, d2, d3, d4] => { results := [.lit (.bool true)], args := [d1, d2, d3, d4] }
  | _ => none }
def dutiesFirmRow : OpenClaim := { program := "ytnbpdknmbjkfeaadoor", sum := "c71d42126484342ee3b48dda27a0d5bfb5d715287dac55fddefec80aad88205e", func := "statute/statutelaw5.DutiesFirm", spec := "dutiesFirm", unfollowed := true, recurses := true, named := ["statute/api.ErrBound", "statute/api.ErrDay", "statute/api.ErrKind"], plainKeys := false, apart := false, laid := [("statute/api.ErrBound", laid_statute_api_ErrBound), ("statute/api.ErrDay", laid_statute_api_ErrDay), ("statute/api.ErrKind", laid_statute_api_ErrKind)] }
def DutiesFirmSaid : Prop := dutiesFirmRow.holds Tryd.pinned (OpenSpec.ofChange dutiesFirmSpec)

/-- ITS FALSE NEIGHBOUR: 'it returns false'. Refute it at one input. -/
def dutiesFirmWrong : ChangeSpec := { name := "dutiesFirm", fn := fun _ => fun
  | [d1, d2, d3, d4] => { results := [.lit (.bool false)], args := [d1, d2, d3, d4] }
  | _ => none }
def DutiesFirmWrongFalsely : Prop := dutiesFirmRow.holds Tryd.pinned (OpenSpec.ofChange dutiesFirmWrong)

/-- 'statutelaw1.DayWorks': WHATEVER THE INPUT: true; the input reads as it did. -/
def dayWorksSpec : ChangeSpec := { name := "dayWorks", fn := fun _ => fun
  | [d1, d2, d3, d4] => { results := [.lit (.bool true)], args := [d1, d2, d3, d4] }
  | _ => none }
def dayWorksRow : OpenClaim := { program := "ytnbpdknmbjkfeaadoor", sum := "c71d42126484342ee3b48dda27a0d5bfb5d715287dac55fddefec80aad88205e", func := "statute/statutelaw1.DayWorks", spec := "dayWorks", inPlace := ["internal/reflectlite.ValueOf", "(internal/reflectlite.Value).Type", "(internal/reflectlite.Value).IsNil", "internal/reflectlite.TypeOf", "(internal/reflectlite.Value).Elem", "(internal/reflectlite.Value).Set"], unfollowed := true, recurses := true, named := ["statute/api.ErrKind", "statute/api.ErrDay", "statute/api.ErrText", "statute/api.ErrBound", "statute/api.ErrCoin", "statute/api.ErrPath", "statute/api.ErrWords", "statute/api.ErrName", "statute/api.ErrOrder", "statute/api.ErrProof", "statute/api.ErrStage", "errors.errorType"], plainKeys := false, apart := false, laid := [("errors.errorType", laid_errors_errorType), ("statute/api.ErrText", laid_statute_api_ErrText), ("statute/api.ErrBound", laid_statute_api_ErrBound), ("statute/api.ErrCoin", laid_statute_api_ErrCoin), ("statute/api.ErrDay", laid_statute_api_ErrDay), ("statute/api.ErrPath", laid_statute_api_ErrPath), ("statute/api.ErrWords", laid_statute_api_ErrWords), ("statute/api.ErrName", laid_statute_api_ErrName), ("statute/api.ErrOrder", laid_statute_api_ErrOrder), ("statute/api.ErrKind", laid_statute_api_ErrKind), ("statute/api.ErrProof", laid_statute_api_ErrProof), ("statute/api.ErrStage", laid_statute_api_ErrStage)] }
def DayWorksSaid : Prop := dayWorksRow.holds Tryd.pinned (OpenSpec.ofChange dayWorksSpec)

/-- ITS FALSE NEIGHBOUR: 'it returns false'. Refute it at one input. -/
def dayWorksWrong : ChangeSpec := { name := "dayWorks", fn := fun _ => fun
  | [d1, d2, d3, d4] => { results := [.lit (.bool false)], args := [d1, d2, d3, d4] }
  | _ => none }
def DayWorksWrongFalsely : Prop := dayWorksRow.holds Tryd.pinned (OpenSpec.ofChange dayWorksWrong)

/-- 'statutelaw1.DayAdds': WHATEVER THE INPUT: true; the input reads as it did. -/
def dayAddsSpec : ChangeSpec := { name := "dayAdds", fn := fun _ => fun
  | [d1, d2, d3] => { results := [.lit (.bool true)], args := [d1, d2, d3] }
  | _ => none }
def dayAddsRow : OpenClaim := { program := "ytnbpdknmbjkfeaadoor", sum := "c71d42126484342ee3b48dda27a0d5bfb5d715287dac55fddefec80aad88205e", func := "statute/statutelaw1.DayAdds", spec := "dayAdds", inPlace := ["internal/reflectlite.ValueOf", "(internal/reflectlite.Value).Type", "(internal/reflectlite.Value).IsNil", "internal/reflectlite.TypeOf", "(internal/reflectlite.Value).Elem", "(internal/reflectlite.Value).Set"], unfollowed := true, recurses := true, named := ["statute/api.ErrBound", "statute/api.ErrDay", "statute/api.ErrText", "statute/api.ErrCoin", "statute/api.ErrPath", "statute/api.ErrWords", "statute/api.ErrName", "statute/api.ErrOrder", "statute/api.ErrKind", "statute/api.ErrProof", "statute/api.ErrStage", "errors.errorType"], plainKeys := false, apart := false, laid := [("errors.errorType", laid_errors_errorType), ("statute/api.ErrText", laid_statute_api_ErrText), ("statute/api.ErrBound", laid_statute_api_ErrBound), ("statute/api.ErrCoin", laid_statute_api_ErrCoin), ("statute/api.ErrDay", laid_statute_api_ErrDay), ("statute/api.ErrPath", laid_statute_api_ErrPath), ("statute/api.ErrWords", laid_statute_api_ErrWords), ("statute/api.ErrName", laid_statute_api_ErrName), ("statute/api.ErrOrder", laid_statute_api_ErrOrder), ("statute/api.ErrKind", laid_statute_api_ErrKind), ("statute/api.ErrProof", laid_statute_api_ErrProof), ("statute/api.ErrStage", laid_statute_api_ErrStage)] }
def DayAddsSaid : Prop := dayAddsRow.holds Tryd.pinned (OpenSpec.ofChange dayAddsSpec)

/-- ITS FALSE NEIGHBOUR: 'it returns false'. Refute it at one input. -/
def dayAddsWrong : ChangeSpec := { name := "dayAdds", fn := fun _ => fun
  | [d1, d2, d3] => { results := [.lit (.bool false)], args := [d1, d2, d3] }
  | _ => none }
def DayAddsWrongFalsely : Prop := dayAddsRow.holds Tryd.pinned (OpenSpec.ofChange dayAddsWrong)

/-- 'statutelaw5.SumsMonths': WHATEVER THE INPUT: true; the input reads as it did. -/
def sumsMonthsSpec : ChangeSpec := { name := "sumsMonths", fn := fun _ => fun
  | [d1, d2, d3] => { results := [.lit (.bool true)], args := [d1, d2, d3] }
  | _ => none }
def sumsMonthsRow : OpenClaim := { program := "ytnbpdknmbjkfeaadoor", sum := "c71d42126484342ee3b48dda27a0d5bfb5d715287dac55fddefec80aad88205e", func := "statute/statutelaw5.SumsMonths", spec := "sumsMonths", inPlace := ["internal/reflectlite.ValueOf", "(internal/reflectlite.Value).Type", "(internal/reflectlite.Value).IsNil", "internal/reflectlite.TypeOf", "(internal/reflectlite.Value).Elem", "(internal/reflectlite.Value).Set"], unfollowed := true, recurses := true, named := ["statute/api.ErrKind", "statute/api.ErrBound", "statute/api.ErrDay", "statute/api.ErrCoin", "statute/api.ErrText", "statute/api.ErrPath", "statute/api.ErrWords", "statute/api.ErrName", "statute/api.ErrOrder", "statute/api.ErrProof", "statute/api.ErrStage", "errors.errorType"], plainKeys := false, apart := false, laid := [("errors.errorType", laid_errors_errorType), ("statute/api.ErrText", laid_statute_api_ErrText), ("statute/api.ErrBound", laid_statute_api_ErrBound), ("statute/api.ErrCoin", laid_statute_api_ErrCoin), ("statute/api.ErrDay", laid_statute_api_ErrDay), ("statute/api.ErrPath", laid_statute_api_ErrPath), ("statute/api.ErrWords", laid_statute_api_ErrWords), ("statute/api.ErrName", laid_statute_api_ErrName), ("statute/api.ErrOrder", laid_statute_api_ErrOrder), ("statute/api.ErrKind", laid_statute_api_ErrKind), ("statute/api.ErrProof", laid_statute_api_ErrProof), ("statute/api.ErrStage", laid_statute_api_ErrStage)] }
def SumsMonthsSaid : Prop := sumsMonthsRow.holds Tryd.pinned (OpenSpec.ofChange sumsMonthsSpec)

/-- ITS FALSE NEIGHBOUR: 'it returns false'. Refute it at one input. -/
def sumsMonthsWrong : ChangeSpec := { name := "sumsMonths", fn := fun _ => fun
  | [d1, d2, d3] => { results := [.lit (.bool false)], args := [d1, d2, d3] }
  | _ => none }
def SumsMonthsWrongFalsely : Prop := sumsMonthsRow.holds Tryd.pinned (OpenSpec.ofChange sumsMonthsWrong)

/-- 'statutelaw5.LedgerSettles': WHATEVER THE INPUT: true; the input reads as it did. -/
def ledgerSettlesSpec : ChangeSpec := { name := "ledgerSettles", fn := fun _ => fun
  | [d1, d2] => { results := [.lit (.bool true)], args := [d1, d2] }
  | _ => none }
def ledgerSettlesRow : OpenClaim := { program := "ytnbpdknmbjkfeaadoor", sum := "c71d42126484342ee3b48dda27a0d5bfb5d715287dac55fddefec80aad88205e", func := "statute/statutelaw5.LedgerSettles", spec := "ledgerSettles", inPlace := ["internal/reflectlite.ValueOf", "(internal/reflectlite.Value).Type", "(internal/reflectlite.Value).IsNil", "internal/reflectlite.TypeOf", "(internal/reflectlite.Value).Elem", "(internal/reflectlite.Value).Set"], unfollowed := true, recurses := true, named := ["statute/api.ErrCoin", "statute/api.ErrBound", "statute/api.ErrDay", "statute/api.ErrKind", "statute/api.ErrText", "statute/api.ErrPath", "statute/api.ErrWords", "statute/api.ErrName", "statute/api.ErrOrder", "statute/api.ErrProof", "statute/api.ErrStage", "errors.errorType"], plainKeys := false, apart := false, laid := [("errors.errorType", laid_errors_errorType), ("statute/api.ErrText", laid_statute_api_ErrText), ("statute/api.ErrBound", laid_statute_api_ErrBound), ("statute/api.ErrCoin", laid_statute_api_ErrCoin), ("statute/api.ErrDay", laid_statute_api_ErrDay), ("statute/api.ErrPath", laid_statute_api_ErrPath), ("statute/api.ErrWords", laid_statute_api_ErrWords), ("statute/api.ErrName", laid_statute_api_ErrName), ("statute/api.ErrOrder", laid_statute_api_ErrOrder), ("statute/api.ErrKind", laid_statute_api_ErrKind), ("statute/api.ErrProof", laid_statute_api_ErrProof), ("statute/api.ErrStage", laid_statute_api_ErrStage)] }
def LedgerSettlesSaid : Prop := ledgerSettlesRow.holds Tryd.pinned (OpenSpec.ofChange ledgerSettlesSpec)

/-- ITS FALSE NEIGHBOUR: 'it returns false'. Refute it at one input. -/
def ledgerSettlesWrong : ChangeSpec := { name := "ledgerSettles", fn := fun _ => fun
  | [d1, d2] => { results := [.lit (.bool false)], args := [d1, d2] }
  | _ => none }
def LedgerSettlesWrongFalsely : Prop := ledgerSettlesRow.holds Tryd.pinned (OpenSpec.ofChange ledgerSettlesWrong)

/-- 'statutelaw1.DayDue': WHATEVER THE INPUT: true; the input reads as it did. -/
def dayDueSpec : ChangeSpec := { name := "dayDue", fn := fun _ => fun
  | [d1, d2, d3] => { results := [.lit (.bool true)], args := [d1, d2, d3] }
  | _ => none }
def dayDueRow : OpenClaim := { program := "ytnbpdknmbjkfeaadoor", sum := "c71d42126484342ee3b48dda27a0d5bfb5d715287dac55fddefec80aad88205e", func := "statute/statutelaw1.DayDue", spec := "dayDue", inPlace := ["internal/reflectlite.ValueOf", "(internal/reflectlite.Value).Type", "(internal/reflectlite.Value).IsNil", "internal/reflectlite.TypeOf", "(internal/reflectlite.Value).Elem", "(internal/reflectlite.Value).Set"], unfollowed := true, recurses := true, named := ["statute/api.ErrDay", "statute/api.ErrBound", "statute/api.ErrKind", "statute/api.ErrText", "statute/api.ErrCoin", "statute/api.ErrPath", "statute/api.ErrWords", "statute/api.ErrName", "statute/api.ErrOrder", "statute/api.ErrProof", "statute/api.ErrStage", "errors.errorType"], plainKeys := false, apart := false, laid := [("errors.errorType", laid_errors_errorType), ("statute/api.ErrText", laid_statute_api_ErrText), ("statute/api.ErrBound", laid_statute_api_ErrBound), ("statute/api.ErrCoin", laid_statute_api_ErrCoin), ("statute/api.ErrDay", laid_statute_api_ErrDay), ("statute/api.ErrPath", laid_statute_api_ErrPath), ("statute/api.ErrWords", laid_statute_api_ErrWords), ("statute/api.ErrName", laid_statute_api_ErrName), ("statute/api.ErrOrder", laid_statute_api_ErrOrder), ("statute/api.ErrKind", laid_statute_api_ErrKind), ("statute/api.ErrProof", laid_statute_api_ErrProof), ("statute/api.ErrStage", laid_statute_api_ErrStage)] }
def DayDueSaid : Prop := dayDueRow.holds Tryd.pinned (OpenSpec.ofChange dayDueSpec)

/-- ITS FALSE NEIGHBOUR: 'it returns false'. Refute it at one input. -/
def dayDueWrong : ChangeSpec := { name := "dayDue", fn := fun _ => fun
  | [d1, d2, d3] => { results := [.lit (.bool false)], args := [d1, d2, d3] }
  | _ => none }
def DayDueWrongFalsely : Prop := dayDueRow.holds Tryd.pinned (OpenSpec.ofChange dayDueWrong)

/-- 'statutelaw4.WhyChecks': WHATEVER THE INPUT: true; the input reads as it did. -/
def whyChecksSpec : ChangeSpec := { name := "whyChecks", fn := fun _ => fun
  | [d1, d2] => { results := [.lit (.bool true)], args := [d1, d2] }
  | _ => none }
def whyChecksRow : OpenClaim := { program := "ytnbpdknmbjkfeaadoor", sum := "c71d42126484342ee3b48dda27a0d5bfb5d715287dac55fddefec80aad88205e", func := "statute/statutelaw4.WhyChecks", spec := "whyChecks", inPlace := ["internal/reflectlite.ValueOf", "(internal/reflectlite.Value).Type", "(internal/reflectlite.Value).IsNil", "internal/reflectlite.TypeOf", "(internal/reflectlite.Value).Elem", "(internal/reflectlite.Value).Set"], unfollowed := true, recurses := true, named := ["statute/api.ErrBound", "statute/api.ErrKind", "statute/api.ErrName", "statute/api.ErrOrder", "statute/api.ErrText", "statute/api.ErrCoin", "statute/api.ErrDay", "statute/api.ErrPath", "statute/api.ErrWords", "statute/api.ErrProof", "statute/api.ErrStage", "errors.errorType"], plainKeys := false, apart := false, laid := [("errors.errorType", laid_errors_errorType), ("statute/api.ErrText", laid_statute_api_ErrText), ("statute/api.ErrBound", laid_statute_api_ErrBound), ("statute/api.ErrCoin", laid_statute_api_ErrCoin), ("statute/api.ErrDay", laid_statute_api_ErrDay), ("statute/api.ErrPath", laid_statute_api_ErrPath), ("statute/api.ErrWords", laid_statute_api_ErrWords), ("statute/api.ErrName", laid_statute_api_ErrName), ("statute/api.ErrOrder", laid_statute_api_ErrOrder), ("statute/api.ErrKind", laid_statute_api_ErrKind), ("statute/api.ErrProof", laid_statute_api_ErrProof), ("statute/api.ErrStage", laid_statute_api_ErrStage)] }
def WhyChecksSaid : Prop := whyChecksRow.holds Tryd.pinned (OpenSpec.ofChange whyChecksSpec)

/-- ITS FALSE NEIGHBOUR: 'it returns false'. Refute it at one input. -/
def whyChecksWrong : ChangeSpec := { name := "whyChecks", fn := fun _ => fun
  | [d1, d2] => { results := [.lit (.bool false)], args := [d1, d2] }
  | _ => none }
def WhyChecksWrongFalsely : Prop := whyChecksRow.holds Tryd.pinned (OpenSpec.ofChange whyChecksWrong)

/-- 'statutelaw4.ReasonSolves': WHATEVER THE INPUT: true; the input reads as it did. -/
def reasonSolvesSpec : ChangeSpec := { name := "reasonSolves", fn := fun _ => fun
  | [d] => { results := [.lit (.bool true)], args := [d] }
  | _ => none }
def reasonSolvesRow : OpenClaim := { program := "ytnbpdknmbjkfeaadoor", sum := "c71d42126484342ee3b48dda27a0d5bfb5d715287dac55fddefec80aad88205e", func := "statute/statutelaw4.ReasonSolves", spec := "reasonSolves", inPlace := ["internal/reflectlite.ValueOf", "(internal/reflectlite.Value).Type", "(internal/reflectlite.Value).IsNil", "internal/reflectlite.TypeOf", "(internal/reflectlite.Value).Elem", "(internal/reflectlite.Value).Set"], unfollowed := true, recurses := true, named := ["statute/api.ErrBound", "statute/api.ErrKind", "statute/api.ErrName", "statute/api.ErrOrder", "statute/api.ErrText", "statute/api.ErrCoin", "statute/api.ErrDay", "statute/api.ErrPath", "statute/api.ErrWords", "statute/api.ErrProof", "statute/api.ErrStage", "errors.errorType"], plainKeys := false, apart := false, laid := [("errors.errorType", laid_errors_errorType), ("statute/api.ErrText", laid_statute_api_ErrText), ("statute/api.ErrBound", laid_statute_api_ErrBound), ("statute/api.ErrCoin", laid_statute_api_ErrCoin), ("statute/api.ErrDay", laid_statute_api_ErrDay), ("statute/api.ErrPath", laid_statute_api_ErrPath), ("statute/api.ErrWords", laid_statute_api_ErrWords), ("statute/api.ErrName", laid_statute_api_ErrName), ("statute/api.ErrOrder", laid_statute_api_ErrOrder), ("statute/api.ErrKind", laid_statute_api_ErrKind), ("statute/api.ErrProof", laid_statute_api_ErrProof), ("statute/api.ErrStage", laid_statute_api_ErrStage)] }
def ReasonSolvesSaid : Prop := reasonSolvesRow.holds Tryd.pinned (OpenSpec.ofChange reasonSolvesSpec)

/-- ITS FALSE NEIGHBOUR: 'it returns false'. Refute it at one input. -/
def reasonSolvesWrong : ChangeSpec := { name := "reasonSolves", fn := fun _ => fun
  | [d] => { results := [.lit (.bool false)], args := [d] }
  | _ => none }
def ReasonSolvesWrongFalsely : Prop := reasonSolvesRow.holds Tryd.pinned (OpenSpec.ofChange reasonSolvesWrong)

/-- 'statutelaw4.WhyExplains': WHATEVER THE INPUT: true; the input reads as it did. -/
def whyExplainsSpec : ChangeSpec := { name := "whyExplains", fn := fun _ => fun
  | [d1, d2] => { results := [.lit (.bool true)], args := [d1, d2] }
  | _ => none }
def whyExplainsRow : OpenClaim := { program := "ytnbpdknmbjkfeaadoor", sum := "c71d42126484342ee3b48dda27a0d5bfb5d715287dac55fddefec80aad88205e", func := "statute/statutelaw4.WhyExplains", spec := "whyExplains", inPlace := ["internal/reflectlite.ValueOf", "(internal/reflectlite.Value).Type", "(internal/reflectlite.Value).IsNil", "internal/reflectlite.TypeOf", "(internal/reflectlite.Value).Elem", "(internal/reflectlite.Value).Set"], unfollowed := true, recurses := true, named := ["statute/api.ErrBound", "statute/api.ErrKind", "statute/api.ErrName", "statute/api.ErrOrder", "statute/api.ErrText", "statute/api.ErrCoin", "statute/api.ErrDay", "statute/api.ErrPath", "statute/api.ErrWords", "statute/api.ErrProof", "statute/api.ErrStage", "errors.errorType"], plainKeys := false, apart := false, laid := [("errors.errorType", laid_errors_errorType), ("statute/api.ErrText", laid_statute_api_ErrText), ("statute/api.ErrBound", laid_statute_api_ErrBound), ("statute/api.ErrCoin", laid_statute_api_ErrCoin), ("statute/api.ErrDay", laid_statute_api_ErrDay), ("statute/api.ErrPath", laid_statute_api_ErrPath), ("statute/api.ErrWords", laid_statute_api_ErrWords), ("statute/api.ErrName", laid_statute_api_ErrName), ("statute/api.ErrOrder", laid_statute_api_ErrOrder), ("statute/api.ErrKind", laid_statute_api_ErrKind), ("statute/api.ErrProof", laid_statute_api_ErrProof), ("statute/api.ErrStage", laid_statute_api_ErrStage)] }
def WhyExplainsSaid : Prop := whyExplainsRow.holds Tryd.pinned (OpenSpec.ofChange whyExplainsSpec)

/-- ITS FALSE NEIGHBOUR: 'it returns false'. Refute it at one input. -/
def whyExplainsWrong : ChangeSpec := { name := "whyExplains", fn := fun _ => fun
  | [d1, d2] => { results := [.lit (.bool false)], args := [d1, d2] }
  | _ => none }
def WhyExplainsWrongFalsely : Prop := whyExplainsRow.holds Tryd.pinned (OpenSpec.ofChange whyExplainsWrong)

/- THE SECOND FORM. 'bulk': how many values and letters a reading holds, each counted each time it is reached (what is shared counts as often as it is met; a slice's spare places count too). A statement '..UptoSaid' is the law's where the arguments, and the package variables that the reading takes, are together of bulk at most 1048576: NARROWER than '..Said'. Prove '..Said' where nothing that the law and all that it calls make is longer than what came in: it says more and counts as full. Else prove '..UptoSaid'. A law counts once. -/
mutual
def uptoBulk {H : Type} : DataW H → Nat
  | .lit (.string bytes) => bytes.length + 1
  | .lit _ => 1
  | .nil => 1
  | .ptr d => uptoBulk d + 1
  | .slice elems spare => uptoBulkAll elems + uptoBulkAll spare + 1
  | .agg parts => uptoBulkAll parts + 1
  | .iface _ d => uptoBulk d + 1
  | .map entries => uptoBulkEntries entries + 1
  | .held _ => 1
def uptoBulkAll {H : Type} : List (DataW H) → Nat
  | [] => 0
  | d :: r => uptoBulk d + uptoBulkAll r
def uptoBulkEntries {H : Type} : List (Lit × DataW H) → Nat
  | [] => 0
  | x :: r => uptoBulkEntry x + uptoBulkEntries r
def uptoBulkEntry {H : Type} : Lit × DataW H → Nat
  | (.string bytes, d) => bytes.length + uptoBulk d + 1
  | (_, d) => uptoBulk d + 1
 end
def uptoSmall : (H : Type) → List (DataW H) → Bool := fun _ ds => decide (uptoBulkAll ds ≤ 1048576)
def OpenSpec.upto (s : _root_.Go.ChangeSpec) : _root_.Go.OpenSpec := { _root_.Go.OpenSpec.ofChange s with cond := some uptoSmall }

/-- 'statutelaw5.DutiesFirm', WHERE WHAT IT READS IS OF BULK AT MOST 1048576: true; the input reads as it did. -/
def dutiesFirmUptoRow : OpenClaim := { program := "ytnbpdknmbjkfeaadoor", sum := "c71d42126484342ee3b48dda27a0d5bfb5d715287dac55fddefec80aad88205e", func := "statute/statutelaw5.DutiesFirm", spec := "dutiesFirm", unfollowed := true, recurses := true, named := ["statute/api.ErrBound", "statute/api.ErrDay", "statute/api.ErrKind"], plainKeys := false, apart := false, laid := [("statute/api.ErrBound", laid_statute_api_ErrBound), ("statute/api.ErrDay", laid_statute_api_ErrDay), ("statute/api.ErrKind", laid_statute_api_ErrKind)], narrowed := true }
def DutiesFirmUptoSaid : Prop := dutiesFirmUptoRow.holds Tryd.pinned (OpenSpec.upto dutiesFirmSpec)

/-- 'statutelaw1.DayWorks', WHERE WHAT IT READS IS OF BULK AT MOST 1048576: true; the input reads as it did. -/
def dayWorksUptoRow : OpenClaim := { program := "ytnbpdknmbjkfeaadoor", sum := "c71d42126484342ee3b48dda27a0d5bfb5d715287dac55fddefec80aad88205e", func := "statute/statutelaw1.DayWorks", spec := "dayWorks", inPlace := ["internal/reflectlite.ValueOf", "(internal/reflectlite.Value).Type", "(internal/reflectlite.Value).IsNil", "internal/reflectlite.TypeOf", "(internal/reflectlite.Value).Elem", "(internal/reflectlite.Value).Set"], unfollowed := true, recurses := true, named := ["statute/api.ErrKind", "statute/api.ErrDay", "statute/api.ErrText", "statute/api.ErrBound", "statute/api.ErrCoin", "statute/api.ErrPath", "statute/api.ErrWords", "statute/api.ErrName", "statute/api.ErrOrder", "statute/api.ErrProof", "statute/api.ErrStage", "errors.errorType"], plainKeys := false, apart := false, laid := [("errors.errorType", laid_errors_errorType), ("statute/api.ErrText", laid_statute_api_ErrText), ("statute/api.ErrBound", laid_statute_api_ErrBound), ("statute/api.ErrCoin", laid_statute_api_ErrCoin), ("statute/api.ErrDay", laid_statute_api_ErrDay), ("statute/api.ErrPath", laid_statute_api_ErrPath), ("statute/api.ErrWords", laid_statute_api_ErrWords), ("statute/api.ErrName", laid_statute_api_ErrName), ("statute/api.ErrOrder", laid_statute_api_ErrOrder), ("statute/api.ErrKind", laid_statute_api_ErrKind), ("statute/api.ErrProof", laid_statute_api_ErrProof), ("statute/api.ErrStage", laid_statute_api_ErrStage)], narrowed := true }
def DayWorksUptoSaid : Prop := dayWorksUptoRow.holds Tryd.pinned (OpenSpec.upto dayWorksSpec)

/-- 'statutelaw1.DayAdds', WHERE WHAT IT READS IS OF BULK AT MOST 1048576: true; the input reads as it did. -/
def dayAddsUptoRow : OpenClaim := { program := "ytnbpdknmbjkfeaadoor", sum := "c71d42126484342ee3b48dda27a0d5bfb5d715287dac55fddefec80aad88205e", func := "statute/statutelaw1.DayAdds", spec := "dayAdds", inPlace := ["internal/reflectlite.ValueOf", "(internal/reflectlite.Value).Type", "(internal/reflectlite.Value).IsNil", "internal/reflectlite.TypeOf", "(internal/reflectlite.Value).Elem", "(internal/reflectlite.Value).Set"], unfollowed := true, recurses := true, named := ["statute/api.ErrBound", "statute/api.ErrDay", "statute/api.ErrText", "statute/api.ErrCoin", "statute/api.ErrPath", "statute/api.ErrWords", "statute/api.ErrName", "statute/api.ErrOrder", "statute/api.ErrKind", "statute/api.ErrProof", "statute/api.ErrStage", "errors.errorType"], plainKeys := false, apart := false, laid := [("errors.errorType", laid_errors_errorType), ("statute/api.ErrText", laid_statute_api_ErrText), ("statute/api.ErrBound", laid_statute_api_ErrBound), ("statute/api.ErrCoin", laid_statute_api_ErrCoin), ("statute/api.ErrDay", laid_statute_api_ErrDay), ("statute/api.ErrPath", laid_statute_api_ErrPath), ("statute/api.ErrWords", laid_statute_api_ErrWords), ("statute/api.ErrName", laid_statute_api_ErrName), ("statute/api.ErrOrder", laid_statute_api_ErrOrder), ("statute/api.ErrKind", laid_statute_api_ErrKind), ("statute/api.ErrProof", laid_statute_api_ErrProof), ("statute/api.ErrStage", laid_statute_api_ErrStage)], narrowed := true }
def DayAddsUptoSaid : Prop := dayAddsUptoRow.holds Tryd.pinned (OpenSpec.upto dayAddsSpec)

/-- 'statutelaw5.SumsMonths', WHERE WHAT IT READS IS OF BULK AT MOST 1048576: true; the input reads as it did. -/
def sumsMonthsUptoRow : OpenClaim := { program := "ytnbpdknmbjkfeaadoor", sum := "c71d42126484342ee3b48dda27a0d5bfb5d715287dac55fddefec80aad88205e", func := "statute/statutelaw5.SumsMonths", spec := "sumsMonths", inPlace := ["internal/reflectlite.ValueOf", "(internal/reflectlite.Value).Type", "(internal/reflectlite.Value).IsNil", "internal/reflectlite.TypeOf", "(internal/reflectlite.Value).Elem", "(internal/reflectlite.Value).Set"], unfollowed := true, recurses := true, named := ["statute/api.ErrKind", "statute/api.ErrBound", "statute/api.ErrDay", "statute/api.ErrCoin", "statute/api.ErrText", "statute/api.ErrPath", "statute/api.ErrWords", "statute/api.ErrName", "statute/api.ErrOrder", "statute/api.ErrProof", "statute/api.ErrStage", "errors.errorType"], plainKeys := false, apart := false, laid := [("errors.errorType", laid_errors_errorType), ("statute/api.ErrText", laid_statute_api_ErrText), ("statute/api.ErrBound", laid_statute_api_ErrBound), ("statute/api.ErrCoin", laid_statute_api_ErrCoin), ("statute/api.ErrDay", laid_statute_api_ErrDay), ("statute/api.ErrPath", laid_statute_api_ErrPath), ("statute/api.ErrWords", laid_statute_api_ErrWords), ("statute/api.ErrName", laid_statute_api_ErrName), ("statute/api.ErrOrder", laid_statute_api_ErrOrder), ("statute/api.ErrKind", laid_statute_api_ErrKind), ("statute/api.ErrProof", laid_statute_api_ErrProof), ("statute/api.ErrStage", laid_statute_api_ErrStage)], narrowed := true }
def SumsMonthsUptoSaid : Prop := sumsMonthsUptoRow.holds Tryd.pinned (OpenSpec.upto sumsMonthsSpec)

/-- 'statutelaw5.LedgerSettles', WHERE WHAT IT READS IS OF BULK AT MOST 1048576: true; the input reads as it did. -/
def ledgerSettlesUptoRow : OpenClaim := { program := "ytnbpdknmbjkfeaadoor", sum := "c71d42126484342ee3b48dda27a0d5bfb5d715287dac55fddefec80aad88205e", func := "statute/statutelaw5.LedgerSettles", spec := "ledgerSettles", inPlace := ["internal/reflectlite.ValueOf", "(internal/reflectlite.Value).Type", "(internal/reflectlite.Value).IsNil", "internal/reflectlite.TypeOf", "(internal/reflectlite.Value).Elem", "(internal/reflectlite.Value).Set"], unfollowed := true, recurses := true, named := ["statute/api.ErrCoin", "statute/api.ErrBound", "statute/api.ErrDay", "statute/api.ErrKind", "statute/api.ErrText", "statute/api.ErrPath", "statute/api.ErrWords", "statute/api.ErrName", "statute/api.ErrOrder", "statute/api.ErrProof", "statute/api.ErrStage", "errors.errorType"], plainKeys := false, apart := false, laid := [("errors.errorType", laid_errors_errorType), ("statute/api.ErrText", laid_statute_api_ErrText), ("statute/api.ErrBound", laid_statute_api_ErrBound), ("statute/api.ErrCoin", laid_statute_api_ErrCoin), ("statute/api.ErrDay", laid_statute_api_ErrDay), ("statute/api.ErrPath", laid_statute_api_ErrPath), ("statute/api.ErrWords", laid_statute_api_ErrWords), ("statute/api.ErrName", laid_statute_api_ErrName), ("statute/api.ErrOrder", laid_statute_api_ErrOrder), ("statute/api.ErrKind", laid_statute_api_ErrKind), ("statute/api.ErrProof", laid_statute_api_ErrProof), ("statute/api.ErrStage", laid_statute_api_ErrStage)], narrowed := true }
def LedgerSettlesUptoSaid : Prop := ledgerSettlesUptoRow.holds Tryd.pinned (OpenSpec.upto ledgerSettlesSpec)

/-- 'statutelaw1.DayDue', WHERE WHAT IT READS IS OF BULK AT MOST 1048576: true; the input reads as it did. -/
def dayDueUptoRow : OpenClaim := { program := "ytnbpdknmbjkfeaadoor", sum := "c71d42126484342ee3b48dda27a0d5bfb5d715287dac55fddefec80aad88205e", func := "statute/statutelaw1.DayDue", spec := "dayDue", inPlace := ["internal/reflectlite.ValueOf", "(internal/reflectlite.Value).Type", "(internal/reflectlite.Value).IsNil", "internal/reflectlite.TypeOf", "(internal/reflectlite.Value).Elem", "(internal/reflectlite.Value).Set"], unfollowed := true, recurses := true, named := ["statute/api.ErrDay", "statute/api.ErrBound", "statute/api.ErrKind", "statute/api.ErrText", "statute/api.ErrCoin", "statute/api.ErrPath", "statute/api.ErrWords", "statute/api.ErrName", "statute/api.ErrOrder", "statute/api.ErrProof", "statute/api.ErrStage", "errors.errorType"], plainKeys := false, apart := false, laid := [("errors.errorType", laid_errors_errorType), ("statute/api.ErrText", laid_statute_api_ErrText), ("statute/api.ErrBound", laid_statute_api_ErrBound), ("statute/api.ErrCoin", laid_statute_api_ErrCoin), ("statute/api.ErrDay", laid_statute_api_ErrDay), ("statute/api.ErrPath", laid_statute_api_ErrPath), ("statute/api.ErrWords", laid_statute_api_ErrWords), ("statute/api.ErrName", laid_statute_api_ErrName), ("statute/api.ErrOrder", laid_statute_api_ErrOrder), ("statute/api.ErrKind", laid_statute_api_ErrKind), ("statute/api.ErrProof", laid_statute_api_ErrProof), ("statute/api.ErrStage", laid_statute_api_ErrStage)], narrowed := true }
def DayDueUptoSaid : Prop := dayDueUptoRow.holds Tryd.pinned (OpenSpec.upto dayDueSpec)

/-- 'statutelaw4.WhyChecks', WHERE WHAT IT READS IS OF BULK AT MOST 1048576: true; the input reads as it did. -/
def whyChecksUptoRow : OpenClaim := { program := "ytnbpdknmbjkfeaadoor", sum := "c71d42126484342ee3b48dda27a0d5bfb5d715287dac55fddefec80aad88205e", func := "statute/statutelaw4.WhyChecks", spec := "whyChecks", inPlace := ["internal/reflectlite.ValueOf", "(internal/reflectlite.Value).Type", "(internal/reflectlite.Value).IsNil", "internal/reflectlite.TypeOf", "(internal/reflectlite.Value).Elem", "(internal/reflectlite.Value).Set"], unfollowed := true, recurses := true, named := ["statute/api.ErrBound", "statute/api.ErrKind", "statute/api.ErrName", "statute/api.ErrOrder", "statute/api.ErrText", "statute/api.ErrCoin", "statute/api.ErrDay", "statute/api.ErrPath", "statute/api.ErrWords", "statute/api.ErrProof", "statute/api.ErrStage", "errors.errorType"], plainKeys := false, apart := false, laid := [("errors.errorType", laid_errors_errorType), ("statute/api.ErrText", laid_statute_api_ErrText), ("statute/api.ErrBound", laid_statute_api_ErrBound), ("statute/api.ErrCoin", laid_statute_api_ErrCoin), ("statute/api.ErrDay", laid_statute_api_ErrDay), ("statute/api.ErrPath", laid_statute_api_ErrPath), ("statute/api.ErrWords", laid_statute_api_ErrWords), ("statute/api.ErrName", laid_statute_api_ErrName), ("statute/api.ErrOrder", laid_statute_api_ErrOrder), ("statute/api.ErrKind", laid_statute_api_ErrKind), ("statute/api.ErrProof", laid_statute_api_ErrProof), ("statute/api.ErrStage", laid_statute_api_ErrStage)], narrowed := true }
def WhyChecksUptoSaid : Prop := whyChecksUptoRow.holds Tryd.pinned (OpenSpec.upto whyChecksSpec)

/-- 'statutelaw4.ReasonSolves', WHERE WHAT IT READS IS OF BULK AT MOST 1048576: true; the input reads as it did. -/
def reasonSolvesUptoRow : OpenClaim := { program := "ytnbpdknmbjkfeaadoor", sum := "c71d42126484342ee3b48dda27a0d5bfb5d715287dac55fddefec80aad88205e", func := "statute/statutelaw4.ReasonSolves", spec := "reasonSolves", inPlace := ["internal/reflectlite.ValueOf", "(internal/reflectlite.Value).Type", "(internal/reflectlite.Value).IsNil", "internal/reflectlite.TypeOf", "(internal/reflectlite.Value).Elem", "(internal/reflectlite.Value).Set"], unfollowed := true, recurses := true, named := ["statute/api.ErrBound", "statute/api.ErrKind", "statute/api.ErrName", "statute/api.ErrOrder", "statute/api.ErrText", "statute/api.ErrCoin", "statute/api.ErrDay", "statute/api.ErrPath", "statute/api.ErrWords", "statute/api.ErrProof", "statute/api.ErrStage", "errors.errorType"], plainKeys := false, apart := false, laid := [("errors.errorType", laid_errors_errorType), ("statute/api.ErrText", laid_statute_api_ErrText), ("statute/api.ErrBound", laid_statute_api_ErrBound), ("statute/api.ErrCoin", laid_statute_api_ErrCoin), ("statute/api.ErrDay", laid_statute_api_ErrDay), ("statute/api.ErrPath", laid_statute_api_ErrPath), ("statute/api.ErrWords", laid_statute_api_ErrWords), ("statute/api.ErrName", laid_statute_api_ErrName), ("statute/api.ErrOrder", laid_statute_api_ErrOrder), ("statute/api.ErrKind", laid_statute_api_ErrKind), ("statute/api.ErrProof", laid_statute_api_ErrProof), ("statute/api.ErrStage", laid_statute_api_ErrStage)], narrowed := true }
def ReasonSolvesUptoSaid : Prop := reasonSolvesUptoRow.holds Tryd.pinned (OpenSpec.upto reasonSolvesSpec)

/-- 'statutelaw4.WhyExplains', WHERE WHAT IT READS IS OF BULK AT MOST 1048576: true; the input reads as it did. -/
def whyExplainsUptoRow : OpenClaim := { program := "ytnbpdknmbjkfeaadoor", sum := "c71d42126484342ee3b48dda27a0d5bfb5d715287dac55fddefec80aad88205e", func := "statute/statutelaw4.WhyExplains", spec := "whyExplains", inPlace := ["internal/reflectlite.ValueOf", "(internal/reflectlite.Value).Type", "(internal/reflectlite.Value).IsNil", "internal/reflectlite.TypeOf", "(internal/reflectlite.Value).Elem", "(internal/reflectlite.Value).Set"], unfollowed := true, recurses := true, named := ["statute/api.ErrBound", "statute/api.ErrKind", "statute/api.ErrName", "statute/api.ErrOrder", "statute/api.ErrText", "statute/api.ErrCoin", "statute/api.ErrDay", "statute/api.ErrPath", "statute/api.ErrWords", "statute/api.ErrProof", "statute/api.ErrStage", "errors.errorType"], plainKeys := false, apart := false, laid := [("errors.errorType", laid_errors_errorType), ("statute/api.ErrText", laid_statute_api_ErrText), ("statute/api.ErrBound", laid_statute_api_ErrBound), ("statute/api.ErrCoin", laid_statute_api_ErrCoin), ("statute/api.ErrDay", laid_statute_api_ErrDay), ("statute/api.ErrPath", laid_statute_api_ErrPath), ("statute/api.ErrWords", laid_statute_api_ErrWords), ("statute/api.ErrName", laid_statute_api_ErrName), ("statute/api.ErrOrder", laid_statute_api_ErrOrder), ("statute/api.ErrKind", laid_statute_api_ErrKind), ("statute/api.ErrProof", laid_statute_api_ErrProof), ("statute/api.ErrStage", laid_statute_api_ErrStage)], narrowed := true }
def WhyExplainsUptoSaid : Prop := whyExplainsUptoRow.holds Tryd.pinned (OpenSpec.upto whyExplainsSpec)

end Rows
end Go.Proofs.YtnbpdknmbjkfeaaDoor
