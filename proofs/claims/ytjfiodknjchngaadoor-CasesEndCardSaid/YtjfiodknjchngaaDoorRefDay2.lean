/- What the document's answer computes of days, on: DayOf, PartsOf. -/
import Derived.Test.YtjfiodknjchngaaDoorRefDay
namespace Go.Proofs.YtjfiodknjchngaaDoor.RefDay
open Go.RowKit Cal Day

theorem aheadY_400 (q : Int) : aheadY (400 * q + 1) = 146097 * q := by unfold aheadY; omega
end Go.Proofs.YtjfiodknjchngaaDoor.RefDay
