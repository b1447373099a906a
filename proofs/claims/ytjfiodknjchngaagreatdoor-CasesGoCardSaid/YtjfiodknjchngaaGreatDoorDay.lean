/- What the program's day functions compute: leap, long, ahead, Good, Week, Of, Parts. -/
import Derived.Test.YtjfiodknjchngaaGreatDoorCal
import Derived.Test.YtjfiodknjchngaaGreatDoorProg
import Derived.WalkKit
import Derived.WalkSpells
import Derived.WalkSmall
import Derived.BigQuiet
import Derived.Deep.QuietTactic
import Derived.Lib.Hide
namespace Go.Proofs.YtjfiodknjchngaaGreatDoor.Day
open Go.RowKit Cal

theorem ret_int {k : IntKind} {a b : Int} (h : a = b) : Ending.returned (.int k a) = .returned (.int k b) := by rw [h]
theorem ret_bool {a b : Bool} (h : a = b) : Ending.returned (.bool a) = .returned (.bool b) := by rw [h]
def goodB (d : Int) : Bool := decide (1 ≤ d) && decide (d ≤ 3652059)

set_option maxHeartbeats 400000 in
theorem good_yes (d : Int) (h1 : 1 ≤ d) (h2 : d ≤ 3652059) (w : World) :
    Calls Tryz.prog 34 #[.int .i64 d] w fun e w' => e = .returned (.bool true) ∧ w = w' := by
  go_enter Tryz.func34, Tryz.ntmps34
  go_wp2
  go_ret
  exact ⟨ret_bool (by simp; try omega), rfl⟩
set_option maxHeartbeats 400000 in
theorem good_no (d : Int) (h : d < 1 ∨ 3652059 < d) (w : World) :
    Calls Tryz.prog 34 #[.int .i64 d] w fun e w' => e = .returned (.bool false) ∧ w = w' := by
  by_cases h1 : 1 ≤ d
  · have h2 : 3652059 < d := by omega
    clear h
    go_enter Tryz.func34, Tryz.ntmps34
    go_wp2
    go_ret
    exact ⟨ret_bool (by simp; omega), rfl⟩
  · clear h
    go_enter Tryz.func34, Tryz.ntmps34
    go_wp2
    go_ret
    exact ⟨ret_bool (by simp), rfl⟩
set_option maxHeartbeats 400000 in
theorem week_yes (d : Int) (h1 : 1 ≤ d) (h2 : d ≤ 3652059) (w : World) :
    Calls Tryz.prog 135 #[.int .i64 d] w fun e w' => e = .returned (.int .i64 ((d - 1) % 7)) ∧ w = w' := by
  go_enter Tryz.func135, Tryz.ntmps135
  go_wp2_with (go_at_call 34; refine (good_yes _ (by omega) (by omega) _).mono ?_; rintro e w' ⟨rfl, rfl⟩)
  go_ret
  exact ⟨rfl, rfl⟩
set_option maxHeartbeats 400000 in
theorem week_no (d : Int) (h : d < 1 ∨ 3652059 < d) (w : World) :
    Calls Tryz.prog 135 #[.int .i64 d] w fun e w' => e = .returned (.int .i64 (-1)) ∧ w = w' := by
  go_enter Tryz.func135, Tryz.ntmps135
  go_wp2_with (go_at_call 34; refine (good_no _ h _).mono ?_; rintro e w' ⟨rfl, rfl⟩)
  go_ret
  exact ⟨rfl, rfl⟩
set_option maxHeartbeats 400000 in
theorem leap_any (y : Int) (h0 : 0 ≤ y) (w : World) :
    Calls Tryz.prog 137 #[.int .i64 y] w fun e w' => e = .returned (.bool (decide (lp y = 1))) ∧ w = w' := by
  by_cases a : y % 4 = 0
  · by_cases b : y % 100 = 0
    · by_cases c : y % 400 = 0
      · have A : ((y % 4) == 0) = true := by simp [a]
        have B : ((y % 100) != 0) = false := by simp [b]
        have C : ((y % 400) == 0) = true := by simp [c]
        have R := Lib.hid (show lp y = 1 by simp [lp, a, b, c])
        clear a b c
        go_enter Tryz.func137, Tryz.ntmps137
        go_wp2
        go_ret
        exact ⟨ret_bool (by simp [R.out]), rfl⟩
      · have A : ((y % 4) == 0) = true := by simp [a]
        have B : ((y % 100) != 0) = false := by simp [b]
        have C : ((y % 400) == 0) = false := by simp [c]
        have R := Lib.hid (show lp y = 0 by simp [lp, b, c])
        clear a b c
        go_enter Tryz.func137, Tryz.ntmps137
        go_wp2
        go_ret
        exact ⟨ret_bool (by simp [R.out]), rfl⟩
    · have A : ((y % 4) == 0) = true := by simp [a]
      have B : ((y % 100) != 0) = true := by simp [b]
      have R := Lib.hid (show lp y = 1 by simp [lp, a, b])
      clear a b
      go_enter Tryz.func137, Tryz.ntmps137
      go_wp2
      go_ret
      exact ⟨ret_bool (by simp [R.out]), rfl⟩
  · have A : ((y % 4) == 0) = false := by simp [a]
    have R := Lib.hid (show lp y = 0 by simp [lp, a])
    clear a
    go_enter Tryz.func137, Tryz.ntmps137
    go_wp2
    go_ret
    exact ⟨ret_bool (by simp [R.out]), rfl⟩
set_option maxHeartbeats 400000 in
theorem ahead_any (y : Int) (h0 : 1 ≤ y) (h : y ≤ 10000) (w : World) :
    Calls Tryz.prog 136 #[.int .i64 y] w fun e w' => e = .returned (.int .i64 (aheadY y)) ∧ w = w' := by
  go_enter Tryz.func136, Tryz.ntmps136
  go_wp2
  go_ret
  exact ⟨ret_int (by unfold aheadY; omega), rfl⟩
set_option maxHeartbeats 400000 in
theorem long_any (y m : Int) (h0 : 0 ≤ y) (w : World) :
    Calls Tryz.prog 107 #[.int .i64 y, .int .i64 m] w fun e w' => e = .returned (.int .i64 (dim y m)) ∧ w = w' := by
  go_enter Tryz.func107, Tryz.ntmps107
  go_wp2_with (go_at_call 137; refine (leap_any _ h0 _).mono ?_; rintro e w' ⟨rfl, rfl⟩)
  all_goals
    go_ret
    refine ⟨ret_int ?_, rfl⟩
    simp only [beq_iff_eq, beq_eq_false_iff_ne] at *
    have := lp_01 y
    unfold dim
    repeat' split
    all_goals omega
set_option maxHeartbeats 400000 in
theorem of_no (y m d : Int) (h : ¬ Vld y m d) (E : Value) (w : World) (hE : w.cell? ⟨0, 0, none⟩ = some E) :
    Calls Tryz.prog 106 #[.int .i64 y, .int .i64 m, .int .i64 d] w fun e w' => e = .returned (.tuple #[.int .i64 0, E]) ∧ ∃ n, w' = w.drewN n := by
  by_cases c1 : 1 ≤ y
  · have c1' : decide (y < 1) = false := by simp; omega
    by_cases c2 : y ≤ 9999
    · have c2' : decide (9999 < y) = false := by simp; omega
      by_cases c3 : 1 ≤ m
      · have c3' : decide (m < 1) = false := by simp; omega
        by_cases c4 : m ≤ 12
        · have c4' : decide (12 < m) = false := by simp; omega
          by_cases c5 : 1 ≤ d
          · have c5' : decide (d < 1) = false := by simp; omega
            have c6 : dim y m < d := by unfold Vld at h; omega
            clear h
            go_enter Tryz.func106, Tryz.ntmps106
            go_wp2_with (go_at_call 107; refine (long_any _ _ (by omega) _).mono ?_; rintro e w' ⟨rfl, rfl⟩)
            go_quiet (fail)
            go_wp2
            go_ret2
            exact ⟨rfl, nq, rfl⟩
          · have c5' : decide (d < 1) = true := by simp; omega
            clear h
            go_enter Tryz.func106, Tryz.ntmps106
            go_wp2
            go_quiet (fail)
            go_wp2
            go_ret2
            exact ⟨rfl, nq, rfl⟩
        · have c4' : decide (12 < m) = true := by simp; omega
          clear h
          go_enter Tryz.func106, Tryz.ntmps106
          go_wp2
          go_quiet (fail)
          go_wp2
          go_ret2
          exact ⟨rfl, nq, rfl⟩
      · have c3' : decide (m < 1) = true := by simp; omega
        clear h
        go_enter Tryz.func106, Tryz.ntmps106
        go_wp2
        go_quiet (fail)
        go_wp2
        go_ret2
        exact ⟨rfl, nq, rfl⟩
    · have c2' : decide (9999 < y) = true := by simp; omega
      clear h
      go_enter Tryz.func106, Tryz.ntmps106
      go_wp2
      go_quiet (fail)
      go_wp2
      go_ret2
      exact ⟨rfl, nq, rfl⟩
  · have c1' : decide (y < 1) = true := by simp; omega
    clear h
    go_enter Tryz.func106, Tryz.ntmps106
    go_wp2
    go_quiet (fail)
    go_wp2
    go_ret2
    exact ⟨rfl, nq, rfl⟩
set_option maxHeartbeats 400000 in
theorem of_yes (y m d : Int) (h : Vld y m d) (w : World) :
    Calls Tryz.prog 106 #[.int .i64 y, .int .i64 m, .int .i64 d] w fun e w' => e = .returned (.tuple #[.int .i64 (num y m d), .nilIface]) ∧ w = w' := by
  obtain ⟨h1, h2, h3, h4, h5, h6⟩ := h
  have hb := aheadY_bd y h1 (by omega)
  have c1 : decide (y < 1) = false := by simp; omega
  have c2 : decide (9999 < y) = false := by simp; omega
  have c3 : decide (m < 1) = false := by simp; omega
  have c4 : decide (12 < m) = false := by simp; omega
  have c5 : decide (d < 1) = false := by simp; omega
  have c6 : decide (dim y m < d) = false := by simp; omega
  have hd := dim_bd y m
  go_enter Tryz.func106, Tryz.ntmps106
  go_wp2_with (first | (go_at_call 107; refine (long_any _ _ (by omega) _).mono ?_; rintro e w' ⟨rfl, rfl⟩) | (go_at_call 136; refine (ahead_any _ (by omega) (by omega) _).mono ?_; rintro e w' ⟨rfl, rfl⟩))
  go_loop [8, 9] (fun t i => ∃ k : Int, 1 ≤ k ∧ k ≤ m ∧ i = .int .i64 k ∧ t = .int .i64 (aheadY y + cum y k)) (fun _ i => (m - intOf i).toNat)
  case atStart => exact ⟨1, by omega, by omega, rfl, by rw [cum_one]; simp⟩
  case round =>
    obtain ⟨k, hk1, hk2, rfl, rfl⟩ := hrel
    have cb := cum_bd y k hk1 (by omega)
    have cs := Lib.hid (cum_succ y k hk1 (by omega))
    by_cases hlt : k < m
    · have hdk := dim_bd y k
      go_wp2_with (go_at_call 107; refine (long_any _ _ (by omega) _).mono ?_; rintro e w' ⟨rfl, rfl⟩)
      go_round
      case rel => exact ⟨k + 1, by omega, by omega, rfl, by rw [cs.out, Int.add_assoc]⟩
      case measure => simp [intOf]; omega
    · obtain rfl : k = m := by omega
      go_wp2
      go_ret2
      exact ⟨rfl, rfl⟩
theorem num_of (n y k : Int) : num y k (n - aheadY y - cum y k) = n := by unfold num; omega
set_option maxHeartbeats 1000000 in
theorem parts_yes (n : Int) (h1 : 1 ≤ n) (h2 : n ≤ 3652059) (w : World) :
    Calls Tryz.prog 105 #[.int .i64 n] w fun e w' => ∃ y m d : Int, e = .returned (.tuple #[.int .i64 y, .int .i64 m, .int .i64 d]) ∧ Vld y m d ∧ num y m d = n ∧ w = w' := by
  have g0 := aheadY_guess n h1 h2
  go_enter Tryz.func105, Tryz.ntmps105
  go_wp2_with (go_at_call 34; refine (good_yes _ (by omega) (by omega) _).mono ?_; rintro e w' ⟨rfl, rfl⟩)
  go_loop [2] (fun t => ∃ y : Int, 1 ≤ y ∧ y ≤ 9999 ∧ aheadY y < n ∧ t = .int .i64 y) (fun t => (9999 - intOf t).toNat)
  case atStart => exact ⟨_, by omega, by omega, g0, rfl⟩
  case round =>
    obtain ⟨y, hy1, hy2, hy3, rfl⟩ := hrel
    by_cases hc : y < 9999 ∧ aheadY (y + 1) < n
    · obtain ⟨hlt, hd⟩ := hc
      go_wp2_with (go_at_call 136; refine (ahead_any _ (by omega) (by omega) _).mono ?_; rintro e w' ⟨rfl, rfl⟩)
      go_round
      case rel => exact ⟨y + 1, by omega, by omega, hd, rfl⟩
      case measure => simp [intOf]; omega
    · have hz : n ≤ aheadY (y + 1) := by
        by_cases e : y = 9999
        · have := aheadY_max; rw [e]; show _ ≤ aheadY 10000; omega
        · omega
      have hb := aheadY_bd y hy1 (by omega)
      have hs := aheadY_succ y
      have hl := lp_bd y
      clear hc g0
      by_cases hlt : y < 9999
      all_goals
        go_wp2_with (go_at_call 136; refine (ahead_any _ (by omega) (by omega) _).mono ?_; rintro e w' ⟨rfl, rfl⟩)
        go_loop [3, 4] (fun k r => ∃ m : Int, 1 ≤ m ∧ m ≤ 12 ∧ k = .int .i64 m ∧ 1 ≤ n - aheadY y - cum y m ∧ r = .int .i64 (n - aheadY y - cum y m)) (fun k _ => (12 - intOf k).toNat)
        case atStart => exact ⟨1, by omega, by omega, rfl, by rw [cum_one]; omega, by rw [cum_one]; simp⟩
        case round =>
          obtain ⟨m, hm1, hm2, rfl, hr, rfl⟩ := hrel
          have cb := cum_bd y m hm1 (by omega)
          have db := dim_bd y m
          have cs := cum_succ y m hm1 hm2
          by_cases hd : dim y m < n - aheadY y - cum y m
          · have hm : m < 12 := by
              by_cases e : m = 12
              · have h13 := cum_end y; subst e; simp at cs; omega
              · omega
            go_wp2_with (go_at_call 107; refine (long_any _ _ (by omega) _).mono ?_; rintro e w' ⟨rfl, rfl⟩)
            go_round
            case rel => exact ⟨m + 1, by omega, by omega, rfl, by rw [cs]; omega, by rw [cs]; go_num⟩
            case measure => simp [intOf]; omega
          · go_wp2_with (go_at_call 107; refine (long_any _ _ (by omega) _).mono ?_; rintro e w' ⟨rfl, rfl⟩)
            go_ret3
            exact ⟨y, m, _, rfl, ⟨hy1, hy2, hm1, hm2, by omega, by omega⟩, num_of n y m, rfl⟩
set_option maxHeartbeats 400000 in
theorem parts_no (n : Int) (h : n < 1 ∨ 3652059 < n) (w : World) :
    Calls Tryz.prog 105 #[.int .i64 n] w fun e w' => e = .returned (.tuple #[.int .i64 0, .int .i64 0, .int .i64 0]) ∧ w = w' := by
  go_enter Tryz.func105, Tryz.ntmps105
  go_wp2_with (go_at_call 34; refine (good_no _ h _).mono ?_; rintro e w' ⟨rfl, rfl⟩)
  go_ret3
  exact ⟨rfl, rfl⟩
end Go.Proofs.YtjfiodknjchngaaGreatDoor.Day
