/- Walking working days: the program's Works and step. -/
import Derived.Test.YtjnkcpeicocjhaaDoorCdSet
import Derived.Test.YtjnkcpeicocjhaaDoorCdR
import Derived.Test.YtjnkcpeicocjhaaDoorDay
import Derived.Test.YtjnkcpeicocjhaaDoorSolve
namespace Go.Proofs.YtjnkcpeicocjhaaDoor.CdM
open Go.RowKit Mem CdP MapSet Solve CdR Day Nest

end Go.Proofs.YtjnkcpeicocjhaaDoor.CdM
