/- What the document's answer computes of days (package statuteref1): isLeap, daysOf, yearLong, IsDay, DayOf, PartsOf, WeekOf. -/
import Derived.Test.YtjfiodknjchngaaGreatDoorDay
namespace Go.Proofs.YtjfiodknjchngaaGreatDoor.RefDay
open Go.RowKit Cal Day

set_option maxHeartbeats 400000 in
theorem isday_yes (d : Int) (h1 : 1 ≤ d) (h2 : d ≤ 3652059) (w : World) :
    Calls Tryz.prog 13 #[.int .i64 d] w fun e w' => e = .returned (.bool true) ∧ w = w' := by
  go_enter Tryz.func13, Tryz.ntmps13
  go_wp2
  go_ret
  exact ⟨ret_bool (by simp; try omega), rfl⟩
set_option maxHeartbeats 400000 in
theorem isday_no (d : Int) (h : d < 1 ∨ 3652059 < d) (w : World) :
    Calls Tryz.prog 13 #[.int .i64 d] w fun e w' => e = .returned (.bool false) ∧ w = w' := by
  by_cases h1 : 1 ≤ d
  · have h2 : 3652059 < d := by omega
    have h3 : 0 < d := by omega
    clear h
    go_enter Tryz.func13, Tryz.ntmps13
    go_wp2
    go_ret
    exact ⟨ret_bool (by simp; omega), rfl⟩
  · have h3 : d ≤ 0 := by omega
    clear h
    go_enter Tryz.func13, Tryz.ntmps13
    go_wp2
    go_ret
    exact ⟨ret_bool (by simp), rfl⟩
set_option maxHeartbeats 400000 in
theorem weekof_yes (d : Int) (h1 : 1 ≤ d) (h2 : d ≤ 3652059) (w : World) :
    Calls Tryz.prog 134 #[.int .i64 d] w fun e w' => e = .returned (.int .i64 ((d - 1) % 7)) ∧ w = w' := by
  go_enter Tryz.func134, Tryz.ntmps134
  go_wp2_with (go_at_call 13; refine (isday_yes _ (by omega) (by omega) _).mono ?_; rintro e w' ⟨rfl, rfl⟩)
  go_ret
  exact ⟨ret_int (by omega), rfl⟩
set_option maxHeartbeats 400000 in
theorem weekof_no (d : Int) (h : d < 1 ∨ 3652059 < d) (w : World) :
    Calls Tryz.prog 134 #[.int .i64 d] w fun e w' => e = .returned (.int .i64 (-1)) ∧ w = w' := by
  go_enter Tryz.func134, Tryz.ntmps134
  go_wp2_with (go_at_call 13; refine (isday_no _ h _).mono ?_; rintro e w' ⟨rfl, rfl⟩)
  go_ret
  exact ⟨rfl, rfl⟩
set_option maxHeartbeats 400000 in
theorem leap_any (y : Int) (h0 : 0 ≤ y) (w : World) :
    Calls Tryz.prog 133 #[.int .i64 y] w fun e w' => e = .returned (.bool (decide (lp y = 1))) ∧ w = w' := by
  by_cases c : y % 400 = 0
  · have C : ((y % 400) == 0) = true := by simp [c]
    have R := Lib.hid (show lp y = 1 by unfold lp; rw [if_pos (by omega)])
    clear c
    go_enter Tryz.func133, Tryz.ntmps133
    go_wp2
    go_ret
    exact ⟨ret_bool (by simp [R.out]), rfl⟩
  · have C : ((y % 400) == 0) = false := by simp [c]
    by_cases a : y % 4 = 0
    · have A : ((y % 4) == 0) = true := by simp [a]
      by_cases b : y % 100 = 0
      · have B : ((y % 100) != 0) = false := by simp [b]
        have R := Lib.hid (show lp y = 0 by unfold lp; rw [if_neg (by omega)])
        clear a b c
        go_enter Tryz.func133, Tryz.ntmps133
        go_wp2
        go_ret
        exact ⟨ret_bool (by simp [R.out]), rfl⟩
      · have B : ((y % 100) != 0) = true := by simp [b]
        have R := Lib.hid (show lp y = 1 by unfold lp; rw [if_pos (by omega)])
        clear a b c
        go_enter Tryz.func133, Tryz.ntmps133
        go_wp2
        go_ret
        exact ⟨ret_bool (by simp [R.out]), rfl⟩
    · have A : ((y % 4) == 0) = false := by simp [a]
      have R := Lib.hid (show lp y = 0 by unfold lp; rw [if_neg (by omega)])
      clear a c
      go_enter Tryz.func133, Tryz.ntmps133
      go_wp2
      go_ret
      exact ⟨ret_bool (by simp [R.out]), rfl⟩
set_option maxHeartbeats 400000 in
theorem yearlong_any (y : Int) (h0 : 0 ≤ y) (w : World) :
    Calls Tryz.prog 132 #[.int .i64 y] w fun e w' => e = .returned (.int .i64 (365 + lp y)) ∧ w = w' := by
  go_enter Tryz.func132, Tryz.ntmps132
  go_wp2_with (go_at_call 133; refine (leap_any _ h0 _).mono ?_; rintro e w' ⟨rfl, rfl⟩)
  all_goals
    go_ret
    refine ⟨ret_int ?_, rfl⟩
    have := lp_01 y
    omega
set_option maxHeartbeats 1000000 in
theorem daysof_any (y m : Int) (h0 : 0 ≤ y) (h1 : 1 ≤ m) (h2 : m ≤ 12) (w : World) :
    Calls Tryz.prog 101 #[.int .i64 y, .int .i64 m] w fun e w' => e = .returned (.int .i64 (dim y m)) ∧ Below w.heap.size w w' := by
  have hl := lp_01 y
  rcases cum_cases h1 h2 with rfl | rfl | rfl | rfl | rfl | rfl | rfl | rfl | rfl | rfl | rfl | rfl
  all_goals
    clear h1 h2
    go_enter Tryz.func101, Tryz.ntmps101
    go_wp2_with (go_at_call 133; refine (leap_any _ h0 _).mono ?_; rintro e w' ⟨rfl, rfl⟩)
    all_goals
      go_ret
      refine ⟨ret_int ?_, (Below.refl _ _).alloc (Nat.le_refl _) _⟩
      unfold dim
      simp <;> omega
end Go.Proofs.YtjfiodknjchngaaGreatDoor.RefDay
