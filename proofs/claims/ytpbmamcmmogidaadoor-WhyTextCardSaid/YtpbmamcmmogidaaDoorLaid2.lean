/- What a longer list of laid variables gives: the errors, the table of powers of ten. -/
import Derived.Test.YtpbmamcmmogidaaDoorLaid
import Derived.Test.YtpbmamcmmogidaaDoorTabs
namespace Go.Proofs.YtpbmamcmmogidaaDoor.Laid2
open Go.RowKit Go.ChangeShapes Err Tabs

def errNames : List String := ["errors.errorType", "statute/api.ErrText", "statute/api.ErrBound", "statute/api.ErrCoin", "statute/api.ErrDay", "statute/api.ErrPath", "statute/api.ErrWords", "statute/api.ErrName", "statute/api.ErrOrder", "statute/api.ErrKind", "statute/api.ErrProof", "statute/api.ErrStage"]
theorem errs_of {W : World} {L : List (String × DataW Unit)} (h : laidMetH Tryd.prog L W) (hf : (L.filter fun x => errNames.contains x.1) = allL) : ∃ A, Errs W A :=
  errs_of_laid (hf ▸ h.filter fun x => errNames.contains x.1)
def powName : String := "internal/strconv.uint64pow10"
theorem gPow : Tryd.prog.globalNamed powName = some 14 := by kernel_rfl
theorem tPow : (Tryd.prog.globals[14]?).map (·.type) = some 329 := by kernel_rfl
theorem cPow : Tryd.prog.cellsOf 174 = 1 := by kernel_rfl
theorem cPow2 : Tryd.prog.cellsOf 329 = 20 := by kernel_rfl
theorem pow_of {W : World} {L : List (String × DataW Unit)} (h : laidMetH Tryd.prog L W) (hf : ((L.filter fun x => x.2.handleName?.isNone).filter fun x => x.1 == powName) = [(powName, Lib.tabData .u64 Lib.pow10Tab)]) : Pow W := by
  obtain ⟨h1, _⟩ := laidMetH_iff.1 h
  have h2 := h1.filter fun x => x.1 == powName
  rw [hf] at h2
  exact Lib.tabIs_of_head gPow tPow Tryd.underlying329 Tryd.underlying174 cPow cPow2 h2
end Go.Proofs.YtpbmamcmmogidaaDoor.Laid2
