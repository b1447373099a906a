/- Rounding and parts of amounts: what the program's and the document's functions compute. Floor, Round, IsWay, Small of the document; Good and Way of the program. Parts of amounts: Way, Good, Part of the program; IsWay, Small, Part of the document. -/
import Derived.Test.YtnchlnfenebomaaGreatDoorRnd
import Derived.Test.YtnchlnfenebomaaGreatDoorProg
import Derived.WalkKit
import Derived.WalkSpells
import Derived.WalkSmall
import Derived.BigQuiet
import Derived.Deep.QuietTactic
import Derived.Lib.Hide
namespace Go.Proofs.YtnchlnfenebomaaGreatDoor.Coin
open Go.RowKit Rnd

theorem ret_int {k : IntKind} {a b : Int} (h : a = b) : Ending.returned (.int k a) = .returned (.int k b) := by rw [h]
theorem ret_bool {a b : Bool} (h : a = b) : Ending.returned (.bool a) = .returned (.bool b) := by rw [h]

set_option maxHeartbeats 1000000 in
theorem rounded_pos (a b way : Int) (h0 : 0 ≤ a) (h1 : a ≤ 4000000000000000000) (hb : 0 < b) (hb1 : b ≤ 4000000000000000000) (hw0 : 0 ≤ way) (hw5 : way ≤ 5) (w : World) :
    Calls Tryz.prog 116 #[.int .i64 a, .int .i64 b, .int .i64 way] w fun e w' => e = .returned (.int .i64 (rnd a b way)) ∧ ∃ n, w' = w.drewN n := by
  obtain ⟨p1, p2, p3, _, p5, _⟩ := parts_of (a := a) hb (by omega)
  have hn : decide (a < 0) = false := by simp; omega
  have hbz : (b == 0) = false := by simp; omega
  have hwc : way = 0 ∨ way = 1 ∨ way = 2 ∨ way = 3 ∨ way = 4 ∨ way = 5 := by omega
  clear hw0 hw5
  have HR := Lib.hid (show rnd a b way = if upB false (a / b) (a % b) b way then a / b + 1 else a / b by unfold rnd; rw [if_neg (by omega)])
  by_cases c1 : b - a % b < a % b
  · have c1' : decide (b - a % b < a % b) = true := by simp; omega
    rcases hwc with rfl | rfl | rfl | rfl | rfl | rfl
    all_goals
      go_enter Tryz.func116, Tryz.ntmps116
      go_wp2
      go_quiet (fail)
      go_wp2
      all_goals
        go_ret
        refine ⟨ret_int ?_, nq, rfl⟩
        rw [HR.out]
        first | (exfalso; omega) | (simp [upB]; done) | (rw [if_pos (by simp [upB]; omega)]) | (rw [if_neg (by simp [upB]; omega)])
  · have c1' : decide (b - a % b < a % b) = false := by simp; omega
    by_cases c2 : a % b = b - a % b
    · have c2' : (a % b == b - a % b) = true := by simp; omega
      have C2 := Lib.hid c2
      clear c2
      by_cases c3 : (a / b) % 2 = 1
      · have c3' : ((a / b) % 2 == 1) = true := by simp; omega
        have C3 := Lib.hid c3
        clear c3
        rcases hwc with rfl | rfl | rfl | rfl | rfl | rfl
        all_goals
          go_enter Tryz.func116, Tryz.ntmps116
          go_wp2
          go_quiet (fail)
          go_wp2
          all_goals
            go_ret
            refine ⟨ret_int ?_, nq, rfl⟩
            rw [HR.out]
            have c2o := C2.out
            have c3o := C3.out
            first | (exfalso; omega) | (simp [upB]; done) | (rw [if_pos (by simp [upB]; omega)]) | (rw [if_neg (by simp [upB]; omega)])
      · have c3' : ((a / b) % 2 == 1) = false := by simp; omega
        have C3 := Lib.hid c3
        clear c3
        rcases hwc with rfl | rfl | rfl | rfl | rfl | rfl
        all_goals
          go_enter Tryz.func116, Tryz.ntmps116
          go_wp2
          go_quiet (fail)
          go_wp2
          all_goals
            go_ret
            refine ⟨ret_int ?_, nq, rfl⟩
            rw [HR.out]
            have c2o := C2.out
            have c3o := C3.out
            first | (exfalso; omega) | (simp [upB]; done) | (rw [if_pos (by simp [upB]; omega)]) | (rw [if_neg (by simp [upB]; omega)])
    · have c2' : (a % b == b - a % b) = false := by simp; omega
      have C2 := Lib.hid c2
      clear c2
      rcases hwc with rfl | rfl | rfl | rfl | rfl | rfl
      all_goals
        go_enter Tryz.func116, Tryz.ntmps116
        go_wp2
        go_quiet (fail)
        go_wp2
        all_goals
          go_ret
          refine ⟨ret_int ?_, nq, rfl⟩
          rw [HR.out]
          have c2o := C2.out
          first | (exfalso; omega) | (simp [upB]; done) | (rw [if_pos (by simp [upB]; omega)]) | (rw [if_neg (by simp [upB]; omega)])
set_option maxHeartbeats 1000000 in
theorem rounded_neg (c b way : Int) (h0 : 0 < c) (h1 : c ≤ 4000000000000000000) (hb : 0 < b) (hb1 : b ≤ 4000000000000000000) (hw0 : 0 ≤ way) (hw5 : way ≤ 5) (w : World) :
    Calls Tryz.prog 116 #[.int .i64 (-c), .int .i64 b, .int .i64 way] w fun e w' => e = .returned (.int .i64 (rnd (-c) b way)) ∧ ∃ n, w' = w.drewN n := by
  obtain ⟨p1, p2, p3, _, p5, _⟩ := parts_of (a := c) hb (by omega)
  have hn : decide (-c < 0) = true := by simp; omega
  have hbz : (b == 0) = false := by simp; omega
  have hwc : way = 0 ∨ way = 1 ∨ way = 2 ∨ way = 3 ∨ way = 4 ∨ way = 5 := by omega
  clear hw0 hw5
  have HR := Lib.hid (show rnd (-c) b way = -(if upB true (c / b) (c % b) b way then c / b + 1 else c / b) by unfold rnd; rw [if_pos (by omega), Int.neg_neg])
  by_cases c1 : b - c % b < c % b
  · have c1' : decide (b - c % b < c % b) = true := by simp; omega
    rcases hwc with rfl | rfl | rfl | rfl | rfl | rfl
    all_goals
      go_enter Tryz.func116, Tryz.ntmps116
      go_wp2
      go_quiet (fail)
      go_wp2
      all_goals
        go_ret
        refine ⟨ret_int ?_, nq, rfl⟩
        rw [HR.out]
        first | (exfalso; omega) | (simp [upB]; done) | (rw [if_pos (by simp [upB]; omega)]) | (rw [if_neg (by simp [upB]; omega)])
  · have c1' : decide (b - c % b < c % b) = false := by simp; omega
    by_cases c2 : c % b = b - c % b
    · have c2' : (c % b == b - c % b) = true := by simp; omega
      have C2 := Lib.hid c2
      clear c2
      by_cases c3 : (c / b) % 2 = 1
      · have c3' : ((c / b) % 2 == 1) = true := by simp; omega
        have C3 := Lib.hid c3
        clear c3
        rcases hwc with rfl | rfl | rfl | rfl | rfl | rfl
        all_goals
          go_enter Tryz.func116, Tryz.ntmps116
          go_wp2
          go_quiet (fail)
          go_wp2
          all_goals
            go_ret
            refine ⟨ret_int ?_, nq, rfl⟩
            rw [HR.out]
            have c2o := C2.out
            have c3o := C3.out
            first | (exfalso; omega) | (simp [upB]; done) | (rw [if_pos (by simp [upB]; omega)]) | (rw [if_neg (by simp [upB]; omega)])
      · have c3' : ((c / b) % 2 == 1) = false := by simp; omega
        have C3 := Lib.hid c3
        clear c3
        rcases hwc with rfl | rfl | rfl | rfl | rfl | rfl
        all_goals
          go_enter Tryz.func116, Tryz.ntmps116
          go_wp2
          go_quiet (fail)
          go_wp2
          all_goals
            go_ret
            refine ⟨ret_int ?_, nq, rfl⟩
            rw [HR.out]
            have c2o := C2.out
            have c3o := C3.out
            first | (exfalso; omega) | (simp [upB]; done) | (rw [if_pos (by simp [upB]; omega)]) | (rw [if_neg (by simp [upB]; omega)])
    · have c2' : (c % b == b - c % b) = false := by simp; omega
      have C2 := Lib.hid c2
      clear c2
      rcases hwc with rfl | rfl | rfl | rfl | rfl | rfl
      all_goals
        go_enter Tryz.func116, Tryz.ntmps116
        go_wp2
        go_quiet (fail)
        go_wp2
        all_goals
          go_ret
          refine ⟨ret_int ?_, nq, rfl⟩
          rw [HR.out]
          have c2o := C2.out
          first | (exfalso; omega) | (simp [upB]; done) | (rw [if_pos (by simp [upB]; omega)]) | (rw [if_neg (by simp [upB]; omega)])
theorem rounded_any (a b way : Int) (h0 : -4000000000000000000 ≤ a) (h1 : a ≤ 4000000000000000000) (hb : 0 < b) (hb1 : b ≤ 4000000000000000000) (hw0 : 0 ≤ way) (hw5 : way ≤ 5) (w : World) :
    Calls Tryz.prog 116 #[.int .i64 a, .int .i64 b, .int .i64 way] w fun e w' => e = .returned (.int .i64 (rnd a b way)) ∧ ∃ n, w' = w.drewN n := by
  by_cases h : a < 0
  · have := rounded_neg (-a) b way (by omega) (by omega) hb hb1 hw0 hw5 w
    rwa [Int.neg_neg] at this
  · exact rounded_pos a b way (by omega) h1 hb hb1 hw0 hw5 w
end Go.Proofs.YtnchlnfenebomaaGreatDoor.Coin
namespace Go.Proofs.YtnchlnfenebomaaGreatDoor.Coin
open Go.RowKit Rnd

set_option maxHeartbeats 400000 in
theorem floor_pos (a b : Int) (h0 : 0 ≤ a) (h1 : a ≤ 4000000000000000000) (hb : 0 < b) (hb1 : b ≤ 4000000000000000000) (w : World) :
    Calls Tryz.prog 117 #[.int .i64 a, .int .i64 b] w fun e w' => e = .returned (.int .i64 (low a b)) ∧ w = w' := by
  obtain ⟨p1, p2, p3, _, p5, p6, p7⟩ := parts_of (a := a) hb (by omega)
  have hbz : (b == 0) = false := by simp; omega
  have HR := Lib.hid (show low a b = a / b by unfold low; rw [if_neg (by omega)])
  go_enter Tryz.func117, Tryz.ntmps117
  go_wp2
  go_ret
  exact ⟨ret_int (by rw [HR.out]), rfl⟩
set_option maxHeartbeats 400000 in
theorem floor_neg (c b : Int) (h0 : 0 < c) (h1 : c ≤ 4000000000000000000) (hb : 0 < b) (hb1 : b ≤ 4000000000000000000) (w : World) :
    Calls Tryz.prog 117 #[.int .i64 (-c), .int .i64 b] w fun e w' => e = .returned (.int .i64 (low (-c) b)) ∧ w = w' := by
  obtain ⟨p1, p2, p3, p4, p5, p6, p7⟩ := parts_of (a := c) hb (by omega)
  have hbz : (b == 0) = false := by simp; omega
  have P4 := Lib.hid p4
  clear p4
  have ht : c.tdiv b = c / b := Int.tdiv_eq_ediv_of_nonneg (by omega)
  have hwr : wrap64 (-(c / b) * b) = -(c / b * b) := by rw [Int.neg_mul]; unfold wrap64; omega
  have HR := Lib.hid (show low (-c) b = if c % b = 0 then -(c / b) else -(c / b) - 1 by unfold low; rw [if_pos (by omega), Int.neg_neg])
  go_enter Tryz.func117, Tryz.ntmps117
  go_wp2
  all_goals
    go_ret
    refine ⟨ret_int ?_, rfl⟩
    rw [HR.out]
    have p4 := P4.out
    split <;> omega
theorem floor_any (a b : Int) (h0 : -4000000000000000000 ≤ a) (h1 : a ≤ 4000000000000000000) (hb : 0 < b) (hb1 : b ≤ 4000000000000000000) (w : World) :
    Calls Tryz.prog 117 #[.int .i64 a, .int .i64 b] w fun e w' => e = .returned (.int .i64 (low a b)) ∧ w = w' := by
  by_cases h : a < 0
  · have := floor_neg (-a) b (by omega) (by omega) hb hb1 w
    rwa [Int.neg_neg] at this
  · exact floor_pos a b (by omega) h1 hb hb1 w
theorem low_bd (a b : Int) (hb : 0 < b) : low a b * b ≤ a ∧ a < low a b * b + b ∧ (0 ≤ a → 0 ≤ low a b ∧ low a b ≤ a) ∧ (a < 0 → a ≤ low a b ∧ low a b < 0) := by
  unfold low
  by_cases h : a < 0
  · obtain ⟨p1, p2, p3, p4, p5, p6, p7⟩ := parts_of (a := -a) hb (by omega)
    rw [if_pos h]
    generalize -a / b = q at *
    generalize -a % b = r at *
    by_cases hr : r = 0
    · rw [if_pos hr, Int.neg_mul]
      subst hr
      refine ⟨by omega, by omega, by omega, fun _ => ⟨by omega, ?_⟩⟩
      by_cases hq : q = 0
      · subst hq; simp at p4; omega
      · omega
    · rw [if_neg hr, Rnd.neg_mul_sub]
      refine ⟨by omega, by omega, by omega, fun _ => ⟨?_, by omega⟩⟩
      have : q * 1 ≤ q * b := Int.mul_le_mul_of_nonneg_left (by omega) p1
      omega
  · obtain ⟨p1, p2, p3, p4, p5, p6, p7⟩ := parts_of (a := a) hb (by omega)
    rw [if_neg h]
    exact ⟨by omega, by omega, fun _ => ⟨p1, p5⟩, by omega⟩
theorem tmod2 (x : Int) : x.tmod 2 = 0 ↔ x % 2 = 0 := by rw [← Int.dvd_iff_tmod_eq_zero, Int.dvd_iff_emod_eq_zero]
set_option maxHeartbeats 1000000 in
theorem round_any (a b way : Int) (h0 : -4000000000000000000 ≤ a) (h1 : a ≤ 4000000000000000000) (hb : 0 < b) (hb1 : b ≤ 4000000000000000000) (hw0 : 0 ≤ way) (hw5 : way ≤ 5) (w : World) :
    Calls Tryz.prog 92 #[.int .i64 a, .int .i64 b, .int .i64 way] w fun e w' => e = .returned (.int .i64 (rnd a b way)) ∧ w = w' := by
  have HQ := Lib.hid (rnd_eq a b way hb hw0 hw5)
  obtain ⟨l1, l2, l3, l4⟩ := low_bd a b hb
  have hl : -4000000000000000000 ≤ low a b ∧ low a b ≤ 4000000000000000000 := by
    by_cases h : a < 0
    · have := l4 h; omega
    · have := l3 (by omega); omega
  obtain ⟨l5, l6⟩ := hl
  clear l3 l4
  have hwc : way = 0 ∨ way = 1 ∨ way = 2 ∨ way = 3 ∨ way = 4 ∨ way = 5 := by omega
  clear hw0 hw5
  by_cases hr : a - low a b * b = 0
  · have hr' : (a - low a b * b == 0) = true := by simp; omega
    have HR := Lib.hid hr
    clear hr
    go_enter Tryz.func92, Tryz.ntmps92
    go_wp2_with (go_at_call 117; refine (floor_any _ _ (by omega) (by omega) (by omega) (by omega) _).mono ?_; rintro e w' ⟨rfl, rfl⟩)
    go_ret
    exact ⟨ret_int (by rw [← HQ.out]; unfold rndR; rw [if_pos HR.out]), rfl⟩
  · have hr' : (a - low a b * b == 0) = false := by simp; omega
    have HR := Lib.hid hr
    clear hr
    by_cases hm : low a b % 2 = 0
    · have hm' : ((low a b).tmod 2 == 0) = true := by simp [tmod2, hm]
      have HM := Lib.hid hm
      clear hm
      rcases hwc with rfl | rfl | rfl | rfl | rfl | rfl
      all_goals
        go_enter Tryz.func92, Tryz.ntmps92
        go_wp2_with (go_at_call 117; refine (floor_any _ _ (by omega) (by omega) (by omega) (by omega) _).mono ?_; rintro e w' ⟨rfl, rfl⟩)
        all_goals
          go_ret
          refine ⟨ret_int ?_, rfl⟩
          rw [← HQ.out]
          unfold rndR
          rw [if_neg HR.out]
          have hm := HM.out
          simp
          repeat' split
          all_goals omega
    · have hm' : ((low a b).tmod 2 == 0) = false := by simp [tmod2]; omega
      have HM := Lib.hid hm
      clear hm
      rcases hwc with rfl | rfl | rfl | rfl | rfl | rfl
      all_goals
        go_enter Tryz.func92, Tryz.ntmps92
        go_wp2_with (go_at_call 117; refine (floor_any _ _ (by omega) (by omega) (by omega) (by omega) _).mono ?_; rintro e w' ⟨rfl, rfl⟩)
        all_goals
          go_ret
          refine ⟨ret_int ?_, rfl⟩
          rw [← HQ.out]
          unfold rndR
          rw [if_neg HR.out]
          have hm := HM.out
          simp
          repeat' split
          all_goals omega
end Go.Proofs.YtnchlnfenebomaaGreatDoor.Coin
namespace Go.Proofs.YtnchlnfenebomaaGreatDoor.Coin
open Go.RowKit Rnd

set_option maxHeartbeats 400000 in
theorem good_yes (n : Int) (h1 : -1000000000000 ≤ n) (h2 : n ≤ 1000000000000) (w : World) :
    Calls Tryz.prog 79 #[.int .i64 n] w fun e w' => e = .returned (.bool true) ∧ w = w' := by
  go_enter Tryz.func79, Tryz.ntmps79
  go_wp2
  go_ret
  exact ⟨ret_bool (by simp; try omega), rfl⟩
set_option maxHeartbeats 400000 in
theorem good_no (n : Int) (h : n < -1000000000000 ∨ 1000000000000 < n) (w : World) :
    Calls Tryz.prog 79 #[.int .i64 n] w fun e w' => e = .returned (.bool false) ∧ w = w' := by
  by_cases h1 : n ≤ 1000000000000
  · have h2 : n < -1000000000000 := by omega
    clear h
    go_enter Tryz.func79, Tryz.ntmps79
    go_wp2
    go_ret
    exact ⟨ret_bool (by simp; try omega), rfl⟩
  · clear h
    go_enter Tryz.func79, Tryz.ntmps79
    go_wp2
    go_ret
    exact ⟨ret_bool (by simp; try omega), rfl⟩
set_option maxHeartbeats 400000 in
theorem small_yes (n : Int) (h1 : -1000000000000 ≤ n) (h2 : n ≤ 1000000000000) (w : World) :
    Calls Tryz.prog 49 #[.int .i64 n] w fun e w' => e = .returned (.bool true) ∧ w = w' := by
  go_enter Tryz.func49, Tryz.ntmps49
  go_wp2
  go_ret
  exact ⟨ret_bool (by simp; try omega), rfl⟩
set_option maxHeartbeats 400000 in
theorem small_no (n : Int) (h : n < -1000000000000 ∨ 1000000000000 < n) (w : World) :
    Calls Tryz.prog 49 #[.int .i64 n] w fun e w' => e = .returned (.bool false) ∧ w = w' := by
  by_cases h1 : n ≤ 1000000000000
  · have h2 : n < -1000000000000 := by omega
    clear h
    go_enter Tryz.func49, Tryz.ntmps49
    go_wp2
    go_ret
    exact ⟨ret_bool (by simp; try omega), rfl⟩
  · clear h
    go_enter Tryz.func49, Tryz.ntmps49
    go_wp2
    go_ret
    exact ⟨ret_bool (by simp; try omega), rfl⟩
set_option maxHeartbeats 400000 in
theorem way_yes (n : Int) (h1 : 0 ≤ n) (h2 : n ≤ 5) (w : World) :
    Calls Tryz.prog 115 #[.int .i64 n] w fun e w' => e = .returned (.bool true) ∧ w = w' := by
  go_enter Tryz.func115, Tryz.ntmps115
  go_wp2
  go_ret
  exact ⟨ret_bool (by simp; try omega), rfl⟩
set_option maxHeartbeats 400000 in
theorem way_no (n : Int) (h : n < 0 ∨ 5 < n) (w : World) :
    Calls Tryz.prog 115 #[.int .i64 n] w fun e w' => e = .returned (.bool false) ∧ w = w' := by
  by_cases h1 : 0 ≤ n
  · have h2 : 5 < n := by omega
    clear h
    go_enter Tryz.func115, Tryz.ntmps115
    go_wp2
    go_ret
    exact ⟨ret_bool (by simp; try omega), rfl⟩
  · clear h
    go_enter Tryz.func115, Tryz.ntmps115
    go_wp2
    go_ret
    exact ⟨ret_bool (by simp; try omega), rfl⟩
set_option maxHeartbeats 400000 in
theorem isway_yes (n : Int) (h1 : 0 ≤ n) (h2 : n ≤ 5) (w : World) :
    Calls Tryz.prog 91 #[.int .i64 n] w fun e w' => e = .returned (.bool true) ∧ w = w' := by
  have hwc : n = 0 ∨ n = 1 ∨ n = 2 ∨ n = 3 ∨ n = 4 ∨ n = 5 := by omega
  clear h1 h2
  rcases hwc with rfl | rfl | rfl | rfl | rfl | rfl
  all_goals
    go_enter Tryz.func91, Tryz.ntmps91
    go_wp2
    go_ret
    exact ⟨rfl, rfl⟩
set_option maxHeartbeats 400000 in
theorem isway_no (n : Int) (h : n < 0 ∨ 5 < n) (w : World) :
    Calls Tryz.prog 91 #[.int .i64 n] w fun e w' => e = .returned (.bool false) ∧ w = w' := by
  have h0 : (n == 0) = false := by simp; omega
  have h1 : (n == 1) = false := by simp; omega
  have h2 : (n == 2) = false := by simp; omega
  have h3 : (n == 3) = false := by simp; omega
  have h4 : (n == 4) = false := by simp; omega
  have h5 : (n == 5) = false := by simp; omega
  clear h
  go_enter Tryz.func91, Tryz.ntmps91
  go_wp2
  go_ret
  exact ⟨rfl, rfl⟩

/-- what both Parts come to: the number and the error's number -/
def partV (amount rate way : Int) : Int × Nat :=
  if way < 0 ∨ 5 < way then (0, 9)
  else if amount < -1000000000000 ∨ 1000000000000 < amount ∨ 1000000 < rate ∨ rate < -1000000 then (0, 3)
  else if rnd (amount * rate) 10000 way < -1000000000000 ∨ 1000000000000 < rnd (amount * rate) 10000 way then (0, 3)
  else (rnd (amount * rate) 10000 way, 0)
/-- the error of such a number -/
def partE (c : Nat) (EC EK : Value) : Value := if c = 0 then .nilIface else if c = 3 then EC else EK
theorem partV_high {amount rate way : Int} (c1 : ¬ (way < 0 ∨ 5 < way)) (nb : ¬ (amount < -1000000000000 ∨ 1000000000000 < amount ∨ 1000000 < rate ∨ rate < -1000000))
    (c6 : rnd (amount * rate) 10000 way < -1000000000000 ∨ 1000000000000 < rnd (amount * rate) 10000 way) : partV amount rate way = (0, 3) := by
  unfold partV
  generalize rnd (amount * rate) 10000 way = r at *
  rw [if_neg c1, if_neg nb, if_pos c6]
theorem partV_ok {amount rate way : Int} (c1 : ¬ (way < 0 ∨ 5 < way)) (nb : ¬ (amount < -1000000000000 ∨ 1000000000000 < amount ∨ 1000000 < rate ∨ rate < -1000000))
    (c6 : ¬ (rnd (amount * rate) 10000 way < -1000000000000 ∨ 1000000000000 < rnd (amount * rate) 10000 way)) : partV amount rate way = (rnd (amount * rate) 10000 way, 0) := by
  unfold partV
  generalize rnd (amount * rate) 10000 way = r at *
  rw [if_neg c1, if_neg nb, if_neg c6]
theorem prod_bd {a r : Int} (h1 : -1000000000000 ≤ a) (h2 : a ≤ 1000000000000) (h3 : -1000000 ≤ r) (h4 : r ≤ 1000000) : -1000000000000000000 ≤ a * r ∧ a * r ≤ 1000000000000000000 := by
  have e1 : (1000000000000 - a) * (1000000 - r) ≥ 0 := Int.mul_nonneg (by omega) (by omega)
  have e2 : (1000000000000 + a) * (1000000 + r) ≥ 0 := Int.mul_nonneg (by omega) (by omega)
  have e3 : (1000000000000 - a) * (1000000 + r) ≥ 0 := Int.mul_nonneg (by omega) (by omega)
  have e4 : (1000000000000 + a) * (1000000 - r) ≥ 0 := Int.mul_nonneg (by omega) (by omega)
  simp only [Int.sub_mul, Int.add_mul, Int.mul_sub, Int.mul_add] at e1 e2 e3 e4
  omega

set_option maxHeartbeats 1000000 in
theorem part_any (amount rate way : Int) (EC EK : Value) (w : World) (hC : w.cell? ⟨6, 0, none⟩ = some EC) (hK : w.cell? ⟨0, 0, none⟩ = some EK) :
    Calls Tryz.prog 89 #[.int .i64 amount, .int .i64 rate, .int .i64 way] w fun e w' =>
      e = .returned (.tuple #[.int .i64 (partV amount rate way).1, partE (partV amount rate way).2 EC EK]) ∧ ∃ n, w' = w.drewN n := by
  by_cases c1 : way < 0 ∨ 5 < way
  · have HP := Lib.hid (show partV amount rate way = (0, 9) by unfold partV; rw [if_pos c1])
    go_enter Tryz.func89, Tryz.ntmps89
    go_wp2_with (go_at_call 115; refine (way_no _ c1 _).mono ?_; rintro e w' ⟨rfl, rfl⟩)
    go_quiet (fail)
    go_wp2
    go_ret2
    exact ⟨by rw [HP.out]; rfl, nq, rfl⟩
  · by_cases c2 : amount < -1000000000000 ∨ 1000000000000 < amount
    · have HP := Lib.hid (show partV amount rate way = (0, 3) by unfold partV; rw [if_neg c1, if_pos (by omega)])
      have c1a : 0 ≤ way := by omega
      have c1b : way ≤ 5 := by omega
      clear c1
      go_enter Tryz.func89, Tryz.ntmps89
      go_wp2_with (first | (go_at_call 115; refine (way_yes _ c1a c1b _).mono ?_; rintro e w' ⟨rfl, rfl⟩) | (go_at_call 79; refine (good_no _ c2 _).mono ?_; rintro e w' ⟨rfl, rfl⟩))
      go_quiet (fail)
      go_wp2
      go_ret2
      exact ⟨by rw [HP.out]; rfl, nq, rfl⟩
    · have c1a : 0 ≤ way := by omega
      have c1b : way ≤ 5 := by omega
      have c2a : -1000000000000 ≤ amount := by omega
      have c2b : amount ≤ 1000000000000 := by omega
      by_cases c3 : 1000000 < rate ∨ rate < -1000000
      · have HP := Lib.hid (show partV amount rate way = (0, 3) by unfold partV; rw [if_neg c1, if_pos (by omega)])
        clear c1 c2
        by_cases c4 : 1000000 < rate
        · have c4' : decide (1000000 < rate) = true := by simp; omega
          clear c3
          go_enter Tryz.func89, Tryz.ntmps89
          go_wp2_with (first | (go_at_call 115; refine (way_yes _ c1a c1b _).mono ?_; rintro e w' ⟨rfl, rfl⟩) | (go_at_call 79; refine (good_yes _ c2a c2b _).mono ?_; rintro e w' ⟨rfl, rfl⟩))
          go_quiet (fail)
          go_wp2
          go_ret2
          exact ⟨by rw [HP.out]; rfl, nq, rfl⟩
        · have c4' : decide (1000000 < rate) = false := by simp; omega
          have c5 : rate < -1000000 := by omega
          have c5' : decide (rate < -1000000) = true := by simp; omega
          clear c3
          go_enter Tryz.func89, Tryz.ntmps89
          go_wp2_with (first | (go_at_call 115; refine (way_yes _ c1a c1b _).mono ?_; rintro e w' ⟨rfl, rfl⟩) | (go_at_call 79; refine (good_yes _ c2a c2b _).mono ?_; rintro e w' ⟨rfl, rfl⟩))
          go_quiet (fail)
          go_wp2
          go_ret2
          exact ⟨by rw [HP.out]; rfl, nq, rfl⟩
      · have c3a : rate ≤ 1000000 := by omega
        have c3b : -1000000 ≤ rate := by omega
        have c3a' : decide (1000000 < rate) = false := by simp; omega
        have c3b' : decide (rate < -1000000) = false := by simp; omega
        have nb : ¬ (amount < -1000000000000 ∨ 1000000000000 < amount ∨ 1000000 < rate ∨ rate < -1000000) := by omega
        obtain ⟨pb1, pb2⟩ := prod_bd c2a c2b c3b c3a
        by_cases c6 : rnd (amount * rate) 10000 way < -1000000000000 ∨ 1000000000000 < rnd (amount * rate) 10000 way
        · have HP := Lib.hid (partV_high c1 nb c6)
          clear c1 c2 c3 nb
          go_enter Tryz.func89, Tryz.ntmps89
          go_wp2_with fail
          refine (way_yes _ c1a c1b _).mono ?_
          rintro e w' ⟨rfl, rfl⟩
          go_wp2_with fail
          refine (good_yes _ c2a c2b _).mono ?_
          rintro e w' ⟨rfl, rfl⟩
          go_wp2_with fail
          refine (rounded_any _ _ _ (by omega) (by omega) (by omega) (by omega) c1a c1b _).mono ?_
          rintro e w' ⟨rfl, q, rfl⟩
          go_wp2_with fail
          refine (good_no _ c6 _).mono ?_
          rintro e w' ⟨rfl, rfl⟩
          go_wp2
          go_quiet (fail)
          go_wp2
          go_ret2
          exact ⟨by rw [HP.out]; rfl, _, World.drewN_drewN _ _ _⟩
        · have HP := Lib.hid (partV_ok c1 nb c6)
          have c6a : -1000000000000 ≤ rnd (amount * rate) 10000 way := by omega
          have c6b : rnd (amount * rate) 10000 way ≤ 1000000000000 := by omega
          clear c1 c2 c3 c6 nb
          go_enter Tryz.func89, Tryz.ntmps89
          go_wp2_with (first | (go_at_call 115; refine (way_yes _ c1a c1b _).mono ?_; rintro e w' ⟨rfl, rfl⟩) | (go_at_call 79; refine (good_yes _ (by omega) (by omega) _).mono ?_; rintro e w' ⟨rfl, rfl⟩) | (go_at_call 116; refine (rounded_any _ _ _ (by omega) (by omega) (by omega) (by omega) c1a c1b _).mono ?_; rintro e w' ⟨rfl, q, rfl⟩))
          go_ret2
          exact ⟨by rw [HP.out]; rfl, _, rfl⟩
set_option maxHeartbeats 1000000 in
theorem refpart_any (amount rate way : Int) (w : World) :
    Calls Tryz.prog 53 #[.int .i64 amount, .int .i64 rate, .int .i64 way] w fun e w' =>
      e = .returned (.tuple #[.int .i64 (partV amount rate way).1, .int .i64 ((partV amount rate way).2 : Int)]) ∧ w = w' := by
  by_cases c1 : way < 0 ∨ 5 < way
  · have HP := Lib.hid (show partV amount rate way = (0, 9) by unfold partV; rw [if_pos c1])
    go_enter Tryz.func53, Tryz.ntmps53
    go_wp2_with (go_at_call 91; refine (isway_no _ c1 _).mono ?_; rintro e w' ⟨rfl, rfl⟩)
    go_ret2
    exact ⟨by rw [HP.out]; rfl, rfl⟩
  · by_cases c2 : amount < -1000000000000 ∨ 1000000000000 < amount
    · have HP := Lib.hid (show partV amount rate way = (0, 3) by unfold partV; rw [if_neg c1, if_pos (by omega)])
      have c1a : 0 ≤ way := by omega
      have c1b : way ≤ 5 := by omega
      clear c1
      go_enter Tryz.func53, Tryz.ntmps53
      go_wp2_with (first | (go_at_call 91; refine (isway_yes _ c1a c1b _).mono ?_; rintro e w' ⟨rfl, rfl⟩) | (go_at_call 49; refine (small_no _ c2 _).mono ?_; rintro e w' ⟨rfl, rfl⟩))
      go_ret2
      exact ⟨by rw [HP.out]; rfl, rfl⟩
    · have c1a : 0 ≤ way := by omega
      have c1b : way ≤ 5 := by omega
      have c2a : -1000000000000 ≤ amount := by omega
      have c2b : amount ≤ 1000000000000 := by omega
      by_cases c3 : 1000000 < rate ∨ rate < -1000000
      · have HP := Lib.hid (show partV amount rate way = (0, 3) by unfold partV; rw [if_neg c1, if_pos (by omega)])
        clear c1 c2
        by_cases c4 : 1000000 < rate
        · have c4' : decide (1000000 < rate) = true := by simp; omega
          clear c3
          go_enter Tryz.func53, Tryz.ntmps53
          go_wp2_with (first | (go_at_call 91; refine (isway_yes _ c1a c1b _).mono ?_; rintro e w' ⟨rfl, rfl⟩) | (go_at_call 49; refine (small_yes _ c2a c2b _).mono ?_; rintro e w' ⟨rfl, rfl⟩))
          go_ret2
          exact ⟨by rw [HP.out]; rfl, rfl⟩
        · have c4' : decide (1000000 < rate) = false := by simp; omega
          have c5' : decide (rate < -1000000) = true := by simp; omega
          clear c3
          go_enter Tryz.func53, Tryz.ntmps53
          go_wp2_with (first | (go_at_call 91; refine (isway_yes _ c1a c1b _).mono ?_; rintro e w' ⟨rfl, rfl⟩) | (go_at_call 49; refine (small_yes _ c2a c2b _).mono ?_; rintro e w' ⟨rfl, rfl⟩))
          go_ret2
          exact ⟨by rw [HP.out]; rfl, rfl⟩
      · have c3a : rate ≤ 1000000 := by omega
        have c3b : -1000000 ≤ rate := by omega
        have c3a' : decide (1000000 < rate) = false := by simp; omega
        have c3b' : decide (rate < -1000000) = false := by simp; omega
        have nb : ¬ (amount < -1000000000000 ∨ 1000000000000 < amount ∨ 1000000 < rate ∨ rate < -1000000) := by omega
        obtain ⟨pb1, pb2⟩ := prod_bd c2a c2b c3b c3a
        by_cases c6 : rnd (amount * rate) 10000 way < -1000000000000 ∨ 1000000000000 < rnd (amount * rate) 10000 way
        · have HP := Lib.hid (partV_high c1 nb c6)
          clear c1 c2 c3 nb
          go_enter Tryz.func53, Tryz.ntmps53
          go_wp2_with fail
          refine (isway_yes _ c1a c1b _).mono ?_
          rintro e w' ⟨rfl, rfl⟩
          go_wp2_with fail
          refine (small_yes _ c2a c2b _).mono ?_
          rintro e w' ⟨rfl, rfl⟩
          go_wp2_with fail
          refine (round_any _ _ _ (by omega) (by omega) (by omega) (by omega) c1a c1b _).mono ?_
          rintro e w' ⟨rfl, rfl⟩
          go_wp2_with fail
          refine (small_no _ c6 _).mono ?_
          rintro e w' ⟨rfl, rfl⟩
          go_wp2
          go_ret2
          exact ⟨by rw [HP.out]; rfl, rfl⟩
        · have HP := Lib.hid (partV_ok c1 nb c6)
          have c6a : -1000000000000 ≤ rnd (amount * rate) 10000 way := by omega
          have c6b : rnd (amount * rate) 10000 way ≤ 1000000000000 := by omega
          clear c1 c2 c3 c6 nb
          go_enter Tryz.func53, Tryz.ntmps53
          go_wp2_with (first | (go_at_call 91; refine (isway_yes _ c1a c1b _).mono ?_; rintro e w' ⟨rfl, rfl⟩) | (go_at_call 49; refine (small_yes _ (by omega) (by omega) _).mono ?_; rintro e w' ⟨rfl, rfl⟩) | (go_at_call 92; refine (round_any _ _ _ (by omega) (by omega) (by omega) (by omega) c1a c1b _).mono ?_; rintro e w' ⟨rfl, rfl⟩))
          go_ret2
          exact ⟨by rw [HP.out]; rfl, rfl⟩
end Go.Proofs.YtnchlnfenebomaaGreatDoor.Coin
