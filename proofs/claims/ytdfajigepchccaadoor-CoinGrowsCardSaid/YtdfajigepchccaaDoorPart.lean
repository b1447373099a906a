/- Rounding and parts of amounts: what the program's and the document's functions compute. -/
import Derived.Test.YtdfajigepchccaaDoorRnd
import Derived.Test.YtdfajigepchccaaDoorProg
import Derived.WalkKit
import Derived.WalkSpells
import Derived.WalkSmall
import Derived.BigQuiet
import Derived.Deep.QuietTactic
import Derived.Lib.Hide
namespace Go.Proofs.YtdfajigepchccaaDoor.Coin
open Go.RowKit Rnd

theorem ret_int {k : IntKind} {a b : Int} (h : a = b) : Ending.returned (.int k a) = .returned (.int k b) := by rw [h]
theorem ret_bool {a b : Bool} (h : a = b) : Ending.returned (.bool a) = .returned (.bool b) := by rw [h]

set_option maxHeartbeats 1000000 in
theorem rounded_pos (a b way : Int) (h0 : 0 ≤ a) (h1 : a ≤ 4000000000000000000) (hb : 0 < b) (hb1 : b ≤ 4000000000000000000) (hw0 : 0 ≤ way) (hw5 : way ≤ 5) (w : World) :
    Calls Tryd.prog 73 #[.int .i64 a, .int .i64 b, .int .i64 way] w fun e w' => e = .returned (.int .i64 (rnd a b way)) ∧ ∃ n, w' = w.drewN n := by
  obtain ⟨p1, p2, p3, _, p5, _⟩ := parts_of (a := a) hb (by omega)
  have hn : decide (a < 0) = false := by simp; omega
  have hbz : (b == 0) = false := by simp; omega
  have hwc : way = 0 ∨ way = 1 ∨ way = 2 ∨ way = 3 ∨ way = 4 ∨ way = 5 := by omega
  clear hw0 hw5
  have HR := Lib.hid (show rnd a b way = if upB false (a / b) (a % b) b way then a / b + 1 else a / b by unfold rnd; rw [if_neg (by omega)])
  by_cases c1 : b - a % b < a % b
  · have c1' : decide (b - a % b < a % b) = true := by simp; omega
    rcases hwc with rfl | rfl | rfl | rfl | rfl | rfl
    all_goals
      go_enter Tryd.func73, Tryd.ntmps73
      go_wp2
      go_quiet (fail)
      go_wp2
      all_goals
        go_ret
        refine ⟨ret_int ?_, nq, rfl⟩
        rw [HR.out]
        first | (exfalso; omega) | (simp [upB]; done) | (rw [if_pos (by simp [upB]; omega)]) | (rw [if_neg (by simp [upB]; omega)])
  · have c1' : decide (b - a % b < a % b) = false := by simp; omega
    by_cases c2 : a % b = b - a % b
    · have c2' : (a % b == b - a % b) = true := by simp; omega
      have C2 := Lib.hid c2
      clear c2
      by_cases c3 : (a / b) % 2 = 1
      · have c3' : ((a / b) % 2 == 1) = true := by simp; omega
        have C3 := Lib.hid c3
        clear c3
        rcases hwc with rfl | rfl | rfl | rfl | rfl | rfl
        all_goals
          go_enter Tryd.func73, Tryd.ntmps73
          go_wp2
          go_quiet (fail)
          go_wp2
          all_goals
            go_ret
            refine ⟨ret_int ?_, nq, rfl⟩
            rw [HR.out]
            have c2o := C2.out
            have c3o := C3.out
            first | (exfalso; omega) | (simp [upB]; done) | (rw [if_pos (by simp [upB]; omega)]) | (rw [if_neg (by simp [upB]; omega)])
      · have c3' : ((a / b) % 2 == 1) = false := by simp; omega
        have C3 := Lib.hid c3
        clear c3
        rcases hwc with rfl | rfl | rfl | rfl | rfl | rfl
        all_goals
          go_enter Tryd.func73, Tryd.ntmps73
          go_wp2
          go_quiet (fail)
          go_wp2
          all_goals
            go_ret
            refine ⟨ret_int ?_, nq, rfl⟩
            rw [HR.out]
            have c2o := C2.out
            have c3o := C3.out
            first | (exfalso; omega) | (simp [upB]; done) | (rw [if_pos (by simp [upB]; omega)]) | (rw [if_neg (by simp [upB]; omega)])
    · have c2' : (a % b == b - a % b) = false := by simp; omega
      have C2 := Lib.hid c2
      clear c2
      rcases hwc with rfl | rfl | rfl | rfl | rfl | rfl
      all_goals
        go_enter Tryd.func73, Tryd.ntmps73
        go_wp2
        go_quiet (fail)
        go_wp2
        all_goals
          go_ret
          refine ⟨ret_int ?_, nq, rfl⟩
          rw [HR.out]
          have c2o := C2.out
          first | (exfalso; omega) | (simp [upB]; done) | (rw [if_pos (by simp [upB]; omega)]) | (rw [if_neg (by simp [upB]; omega)])
set_option maxHeartbeats 1000000 in
theorem rounded_neg (c b way : Int) (h0 : 0 < c) (h1 : c ≤ 4000000000000000000) (hb : 0 < b) (hb1 : b ≤ 4000000000000000000) (hw0 : 0 ≤ way) (hw5 : way ≤ 5) (w : World) :
    Calls Tryd.prog 73 #[.int .i64 (-c), .int .i64 b, .int .i64 way] w fun e w' => e = .returned (.int .i64 (rnd (-c) b way)) ∧ ∃ n, w' = w.drewN n := by
  obtain ⟨p1, p2, p3, _, p5, _⟩ := parts_of (a := c) hb (by omega)
  have hn : decide (-c < 0) = true := by simp; omega
  have hbz : (b == 0) = false := by simp; omega
  have hwc : way = 0 ∨ way = 1 ∨ way = 2 ∨ way = 3 ∨ way = 4 ∨ way = 5 := by omega
  clear hw0 hw5
  have HR := Lib.hid (show rnd (-c) b way = -(if upB true (c / b) (c % b) b way then c / b + 1 else c / b) by unfold rnd; rw [if_pos (by omega), Int.neg_neg])
  by_cases c1 : b - c % b < c % b
  · have c1' : decide (b - c % b < c % b) = true := by simp; omega
    rcases hwc with rfl | rfl | rfl | rfl | rfl | rfl
    all_goals
      go_enter Tryd.func73, Tryd.ntmps73
      go_wp2
      go_quiet (fail)
      go_wp2
      all_goals
        go_ret
        refine ⟨ret_int ?_, nq, rfl⟩
        rw [HR.out]
        first | (exfalso; omega) | (simp [upB]; done) | (rw [if_pos (by simp [upB]; omega)]) | (rw [if_neg (by simp [upB]; omega)])
  · have c1' : decide (b - c % b < c % b) = false := by simp; omega
    by_cases c2 : c % b = b - c % b
    · have c2' : (c % b == b - c % b) = true := by simp; omega
      have C2 := Lib.hid c2
      clear c2
      by_cases c3 : (c / b) % 2 = 1
      · have c3' : ((c / b) % 2 == 1) = true := by simp; omega
        have C3 := Lib.hid c3
        clear c3
        rcases hwc with rfl | rfl | rfl | rfl | rfl | rfl
        all_goals
          go_enter Tryd.func73, Tryd.ntmps73
          go_wp2
          go_quiet (fail)
          go_wp2
          all_goals
            go_ret
            refine ⟨ret_int ?_, nq, rfl⟩
            rw [HR.out]
            have c2o := C2.out
            have c3o := C3.out
            first | (exfalso; omega) | (simp [upB]; done) | (rw [if_pos (by simp [upB]; omega)]) | (rw [if_neg (by simp [upB]; omega)])
      · have c3' : ((c / b) % 2 == 1) = false := by simp; omega
        have C3 := Lib.hid c3
        clear c3
        rcases hwc with rfl | rfl | rfl | rfl | rfl | rfl
        all_goals
          go_enter Tryd.func73, Tryd.ntmps73
          go_wp2
          go_quiet (fail)
          go_wp2
          all_goals
            go_ret
            refine ⟨ret_int ?_, nq, rfl⟩
            rw [HR.out]
            have c2o := C2.out
            have c3o := C3.out
            first | (exfalso; omega) | (simp [upB]; done) | (rw [if_pos (by simp [upB]; omega)]) | (rw [if_neg (by simp [upB]; omega)])
    · have c2' : (c % b == b - c % b) = false := by simp; omega
      have C2 := Lib.hid c2
      clear c2
      rcases hwc with rfl | rfl | rfl | rfl | rfl | rfl
      all_goals
        go_enter Tryd.func73, Tryd.ntmps73
        go_wp2
        go_quiet (fail)
        go_wp2
        all_goals
          go_ret
          refine ⟨ret_int ?_, nq, rfl⟩
          rw [HR.out]
          have c2o := C2.out
          first | (exfalso; omega) | (simp [upB]; done) | (rw [if_pos (by simp [upB]; omega)]) | (rw [if_neg (by simp [upB]; omega)])
theorem rounded_any (a b way : Int) (h0 : -4000000000000000000 ≤ a) (h1 : a ≤ 4000000000000000000) (hb : 0 < b) (hb1 : b ≤ 4000000000000000000) (hw0 : 0 ≤ way) (hw5 : way ≤ 5) (w : World) :
    Calls Tryd.prog 73 #[.int .i64 a, .int .i64 b, .int .i64 way] w fun e w' => e = .returned (.int .i64 (rnd a b way)) ∧ ∃ n, w' = w.drewN n := by
  by_cases h : a < 0
  · have := rounded_neg (-a) b way (by omega) (by omega) hb hb1 hw0 hw5 w
    rwa [Int.neg_neg] at this
  · exact rounded_pos a b way (by omega) h1 hb hb1 hw0 hw5 w
end Go.Proofs.YtdfajigepchccaaDoor.Coin
