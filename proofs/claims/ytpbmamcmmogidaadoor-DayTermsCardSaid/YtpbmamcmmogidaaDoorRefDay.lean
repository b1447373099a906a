/- What the document's answer computes of days (package statuteref1): isLeap, daysOf, yearLong, IsDay, DayOf, PartsOf, WeekOf. -/
import Derived.Test.YtpbmamcmmogidaaDoorDay
namespace Go.Proofs.YtpbmamcmmogidaaDoor.RefDay
open Go.RowKit Cal Day

set_option maxHeartbeats 400000 in
theorem isday_yes (d : Int) (h1 : 1 ≤ d) (h2 : d ≤ 3652059) (w : World) :
    Calls Tryd.prog 150 #[.int .i64 d] w fun e w' => e = .returned (.bool true) ∧ w = w' := by
  go_enter Tryd.func150, Tryd.ntmps150
  go_wp2
  go_ret
  exact ⟨ret_bool (by simp; try omega), rfl⟩
set_option maxHeartbeats 400000 in
theorem isday_no (d : Int) (h : d < 1 ∨ 3652059 < d) (w : World) :
    Calls Tryd.prog 150 #[.int .i64 d] w fun e w' => e = .returned (.bool false) ∧ w = w' := by
  by_cases h1 : 1 ≤ d
  · have h2 : 3652059 < d := by omega
    have h3 : 0 < d := by omega
    clear h
    go_enter Tryd.func150, Tryd.ntmps150
    go_wp2
    go_ret
    exact ⟨ret_bool (by simp; omega), rfl⟩
  · have h3 : d ≤ 0 := by omega
    clear h
    go_enter Tryd.func150, Tryd.ntmps150
    go_wp2
    go_ret
    exact ⟨ret_bool (by simp), rfl⟩
end Go.Proofs.YtpbmamcmmogidaaDoor.RefDay
