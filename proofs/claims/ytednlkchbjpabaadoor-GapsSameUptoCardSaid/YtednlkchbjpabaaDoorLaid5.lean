/- What a longer list of laid variables gives: the errors. -/
import Derived.Test.YtednlkchbjpabaaDoorLaid
namespace Go.Proofs.YtednlkchbjpabaaDoor.Laid5
open Go.RowKit Go.ChangeShapes Err

def errNames : List String := ["errors.errorType", "statute/api.ErrText", "statute/api.ErrBound", "statute/api.ErrCoin", "statute/api.ErrDay", "statute/api.ErrPath", "statute/api.ErrWords", "statute/api.ErrName", "statute/api.ErrOrder", "statute/api.ErrKind", "statute/api.ErrProof", "statute/api.ErrStage"]
theorem errs_of {W : World} {L : List (String × DataW Unit)} (h : laidMetH Tryd.prog L W) (hf : (L.filter fun x => errNames.contains x.1) = allL) : ∃ A, Errs W A :=
  errs_of_laid (hf ▸ h.filter fun x => errNames.contains x.1)
end Go.Proofs.YtednlkchbjpabaaDoor.Laid5
