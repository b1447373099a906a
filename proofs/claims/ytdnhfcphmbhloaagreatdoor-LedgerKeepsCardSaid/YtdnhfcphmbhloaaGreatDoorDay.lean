/- What the program's day functions compute: leap, long, ahead, Good, Week, Of, Parts. -/
import Derived.Test.YtdnhfcphmbhloaaGreatDoorCal
import Derived.Test.YtdnhfcphmbhloaaGreatDoorProg
import Derived.WalkKit
import Derived.WalkSpells
import Derived.WalkSmall
import Derived.BigQuiet
import Derived.Deep.QuietTactic
import Derived.Lib.Hide
namespace Go.Proofs.YtdnhfcphmbhloaaGreatDoor.Day
open Go.RowKit Cal

theorem ret_int {k : IntKind} {a b : Int} (h : a = b) : Ending.returned (.int k a) = .returned (.int k b) := by rw [h]
theorem ret_bool {a b : Bool} (h : a = b) : Ending.returned (.bool a) = .returned (.bool b) := by rw [h]
def goodB (d : Int) : Bool := decide (1 ≤ d) && decide (d ≤ 3652059)

set_option maxHeartbeats 400000 in
theorem good_yes (d : Int) (h1 : 1 ≤ d) (h2 : d ≤ 3652059) (w : World) :
    Calls Tryz.prog 41 #[.int .i64 d] w fun e w' => e = .returned (.bool true) ∧ w = w' := by
  go_enter Tryz.func41, Tryz.ntmps41
  go_wp2
  go_ret
  exact ⟨ret_bool (by simp; try omega), rfl⟩
set_option maxHeartbeats 400000 in
theorem good_no (d : Int) (h : d < 1 ∨ 3652059 < d) (w : World) :
    Calls Tryz.prog 41 #[.int .i64 d] w fun e w' => e = .returned (.bool false) ∧ w = w' := by
  by_cases h1 : 1 ≤ d
  · have h2 : 3652059 < d := by omega
    clear h
    go_enter Tryz.func41, Tryz.ntmps41
    go_wp2
    go_ret
    exact ⟨ret_bool (by simp; omega), rfl⟩
  · clear h
    go_enter Tryz.func41, Tryz.ntmps41
    go_wp2
    go_ret
    exact ⟨ret_bool (by simp), rfl⟩
theorem num_of (n y k : Int) : num y k (n - aheadY y - cum y k) = n := by unfold num; omega
end Go.Proofs.YtdnhfcphmbhloaaGreatDoor.Day
