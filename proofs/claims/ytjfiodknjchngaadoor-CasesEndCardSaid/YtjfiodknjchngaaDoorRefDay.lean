/- What the document's answer computes of days (package statuteref1): isLeap, daysOf, yearLong, IsDay, DayOf, PartsOf, WeekOf. -/
import Derived.Test.YtjfiodknjchngaaDoorDay
namespace Go.Proofs.YtjfiodknjchngaaDoor.RefDay
open Go.RowKit Cal Day

end Go.Proofs.YtjfiodknjchngaaDoor.RefDay
