/- What the program's day functions compute: leap, long, ahead, Good, Week, Of, Parts. -/
import Derived.Test.YtdfajigepchccaaGreatDoorCal
import Derived.Test.YtdfajigepchccaaGreatDoorProg
import Derived.WalkKit
import Derived.WalkSpells
import Derived.WalkSmall
import Derived.BigQuiet
import Derived.Deep.QuietTactic
import Derived.Lib.Hide
namespace Go.Proofs.YtdfajigepchccaaGreatDoor.Day
open Go.RowKit Cal

theorem ret_int {k : IntKind} {a b : Int} (h : a = b) : Ending.returned (.int k a) = .returned (.int k b) := by rw [h]
theorem ret_bool {a b : Bool} (h : a = b) : Ending.returned (.bool a) = .returned (.bool b) := by rw [h]
def goodB (d : Int) : Bool := decide (1 ≤ d) && decide (d ≤ 3652059)

theorem num_of (n y k : Int) : num y k (n - aheadY y - cum y k) = n := by unfold num; omega
end Go.Proofs.YtdfajigepchccaaGreatDoor.Day
