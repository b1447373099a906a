/- Facts: the program's turns. -/
import Derived.Test.YtnchlnfenebomaaGreatDoorFkS
namespace Go.Proofs.YtnchlnfenebomaaGreatDoor.Fk
open Go.RowKit Mem Nest Err App Go.Sort

theorem ints_app (a b : List Int) : ints (a ++ b) = ints a ++ ints b := by simp [ints]
end Go.Proofs.YtnchlnfenebomaaGreatDoor.Fk
